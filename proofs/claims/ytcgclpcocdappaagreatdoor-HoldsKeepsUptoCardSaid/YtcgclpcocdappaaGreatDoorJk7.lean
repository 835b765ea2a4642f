/-
  The page's SameSnap, SameSet at equal contents: they answer true. A tenant of one's own of which the row of tags of one snapshot is changed in place, when no two snapshots have one row of tags.
-/
import Derived.WalkKit
import Derived.WalkSpells
import Derived.Below
import Derived.Laws.OwnMore
import Derived.Deep.AppendLies
import Derived.Deep.Draws
import Derived.Laws.Rows
import Derived.Maps.AppendAt
import Derived.RegionTactic
import Derived.OwnWalk
import Derived.Deep.QuietTactic
import Derived.BigQuiet
import Derived.Lib.Hide
import Derived.Laws.CopyOwn
import Derived.IntWalk
import Derived.Test.YtcgclpcocdappaaGreatDoorRows
import Derived.Handy
import Derived.Deep.Quiet
import Derived.Orders
import Derived.Sort.Walk0
import Derived.Sort.KeysCollected
import Derived.Laws.BytesString
import Derived.Laws.IdiomStrings
import Derived.Lib.ConvBytes
import Derived.Lib.Strings
import Derived.ProofKit
import Derived.OpenShut
import Derived.ShutString
import Derived.ChangeOld
import Derived.Carry
import Derived.SizedLaws
import Derived.JoinedCond
import Derived.Deep.CondSized
import Derived.Deep.Slices
import Derived.Deep.Fields
import Derived.Lib.SmallJoins
import Derived.Lib.SplitLaws
import Derived.Lib.LastIndexByte
import Derived.Shelf.Strings.Search1
import Derived.Shelf.Strings.Search2
import Derived.Shelf.Strings.Search3
import Derived.Shelf.Strings.Cut
import Derived.Shelf.Strings.Count
import Derived.Shelf.LaysM
import Derived.Shelf.Strings.Shaped
import Derived.Shelf.Strings.LastIndex
import Derived.Shelf.Strings.Split
import Derived.Shelf.Strings.SplitShaped
import Derived.Shelf.Unicode.Decode
import Derived.Shelf.Strings.RuneCount
import Derived.Shelf.Strings.Explode
import Derived.Shelf.Unicode.DecodeSlow
import Derived.Test.YtcgclpcocdappaaGreatDoorProg
import Derived.Deep.DeepCutAuto
import Derived.Deep.MidRow
import Derived.Great.BuildSlice
import Derived.Test.YtcgclpcocdappaaGreatDoorJ0
import Derived.Test.YtcgclpcocdappaaGreatDoorJbkv1
import Derived.Test.YtcgclpcocdappaaGreatDoorJbkv3
import Derived.Test.YtcgclpcocdappaaGreatDoorJbkv4
import Derived.Test.YtcgclpcocdappaaGreatDoorJbkv5
import Derived.Test.YtcgclpcocdappaaGreatDoorJbkv8
import Derived.Test.YtcgclpcocdappaaGreatDoorJbkv10
import Derived.Test.YtcgclpcocdappaaGreatDoorJbkv15
import Derived.Test.YtcgclpcocdappaaGreatDoorJbkv18
import Derived.Test.YtcgclpcocdappaaGreatDoorJbkv20
import Derived.Test.YtcgclpcocdappaaGreatDoorJbkv22
import Derived.Test.YtcgclpcocdappaaGreatDoorJbk3
namespace Go.Proofs.YtcgclpcocdappaaGreatDoor
open Go.RowKit
set_option maxRecDepth 100000 in
set_option maxHeartbeats 4000000 in
theorem sameSnapT_any (nm:BS) (gd:Int) (bl:List BlkT) (tl:List BS) (ol:List (BS×BS)) (b1 b1':Option Addr) (bn b3 b3':Nat) (t1 t1':Option Addr) (tn t3 t3':Nat) (o1 o1':Option Addr) (on o3 o3':Nat) (w:World) (B:Nat) (hB:B≤w.heap.size)
  (hbn:bn=bl.length) (htn:tn=tl.length) (hon:on=ol.length) (hb:Reads w B 2 b1 bn (bcells bl)) (hb':Reads w B 2 b1' bn (bcells bl)) (ht:Reads w B 1 t1 tn (scells tl)) (ht':Reads w B 1 t1' tn (scells tl)) (ho:Reads w B 2 o1 on (pcells ol)) (ho':Reads w B 2 o1' on (pcells ol))
  (hbm:bn≤1000000000000) (htm:tn≤1000000000000) (hom:on≤1000000000000) :
  Calls Tryz.prog 138 #[.agg #[.string ⟨nm.toArray⟩,.int .i64 gd,.slice b1 bn b3,.slice t1 tn t3,.slice o1 on o3],.agg #[.string ⟨nm.toArray⟩,.int .i64 gd,.slice b1' bn b3',.slice t1' tn t3',.slice o1' on o3']] w fun e w'=>e=.returned (.bool true)∧Below w.heap.size w w':=by
 have hb1:=(Below.refl w.heap.size w).alloc (Nat.le_refl _) (.cells #[.string ⟨nm.toArray⟩,.int .i64 gd,.slice b1 bn b3,.slice t1 tn t3,.slice o1 on o3] 57)
 have hb2:=hb1.alloc hb1.size (.cells #[.string ⟨nm.toArray⟩,.int .i64 gd,.slice b1' bn b3',.slice t1' tn t3',.slice o1' on o3'] 57)
 have k1:=(Blk.new w 57 #[.string ⟨nm.toArray⟩,.int .i64 gd,.slice b1 bn b3,.slice t1 tn t3,.slice o1 on o3]).alloc (.cells #[.string ⟨nm.toArray⟩,.int .i64 gd,.slice b1' bn b3',.slice t1' tn t3',.slice o1' on o3'] 57)
 have k2:=Blk.new (w.alloc (.cells #[.string ⟨nm.toArray⟩,.int .i64 gd,.slice b1 bn b3,.slice t1 tn t3,.slice o1 on o3] 57)) 57 #[.string ⟨nm.toArray⟩,.int .i64 gd,.slice b1' bn b3',.slice t1' tn t3',.slice o1' on o3']
 rw [show (w.alloc (.cells #[.string ⟨nm.toArray⟩,.int .i64 gd,.slice b1 bn b3,.slice t1 tn t3,.slice o1 on o3] 57)).heap.size=w.heap.size+1 by simp] at k2
 obtain ⟨W2,hW2⟩:∃ W,W=(w.alloc (.cells #[.string ⟨nm.toArray⟩,.int .i64 gd,.slice b1 bn b3,.slice t1 tn t3,.slice o1 on o3] 57)).alloc (.cells #[.string ⟨nm.toArray⟩,.int .i64 gd,.slice b1' bn b3',.slice t1' tn t3',.slice o1' on o3'] 57):=⟨_,rfl⟩
 have hsz:W2.heap.size=w.heap.size+2:=by rw [hW2];simp
 rw [← hW2] at hb2 k1 k2
 have hS:=Lib.hid (fun (W':World) (hB':Below W2.heap.size W2 W')=>(⟨(k1.below hB' (by omega)).cell 0,(k1.below hB' (by omega)).cell 1,(k1.below hB' (by omega)).cell 2,(k1.below hB' (by omega)).cell 3,(k1.below hB' (by omega)).cell 4,(k2.below hB' (by omega)).cell 0,(k2.below hB' (by omega)).cell 1,(k2.below hB' (by omega)).cell 2,(k2.below hB' (by omega)).cell 3,(k2.below hB' (by omega)).cell 4⟩:W'.cell? ⟨w.heap.size,0,none⟩=some (.string ⟨nm.toArray⟩)∧W'.cell? ⟨w.heap.size,1,none⟩=some (.int .i64 gd)∧W'.cell? ⟨w.heap.size,2,none⟩=some (.slice b1 bn b3)∧W'.cell? ⟨w.heap.size,3,none⟩=some (.slice t1 tn t3)∧W'.cell? ⟨w.heap.size,4,none⟩=some (.slice o1 on o3)∧W'.cell? ⟨w.heap.size+1,0,none⟩=some (.string ⟨nm.toArray⟩)∧W'.cell? ⟨w.heap.size+1,1,none⟩=some (.int .i64 gd)∧W'.cell? ⟨w.heap.size+1,2,none⟩=some (.slice b1' bn b3')∧W'.cell? ⟨w.heap.size+1,3,none⟩=some (.slice t1' tn t3')∧W'.cell? ⟨w.heap.size+1,4,none⟩=some (.slice o1' on o3')))
 have HSZ:=Lib.hid hsz
 have HB2:=Lib.hid hb2
 have hmv:∀ W',Below W2.heap.size W2 W'→Below B w W':=fun W' hB'=>(hb2.trans (hB'.mono (by omega))).mono hB
 have hBd:Hid (∀ W,Below W2.heap.size W2 W→Calls Tryz.prog 13 #[.slice b1 bn b3,.slice b1' bn b3'] W fun e W'=>e=.returned (.bool true)∧Below W.heap.size W W'):=fun W h=>rsameT_any bl bn hbn b1 b1' b3 b3' W B (hb.below (hmv W h)) (hb'.below (hmv W h)) hbm
 have hPr:Hid (∀ W,Below W2.heap.size W2 W→Calls Tryz.prog 14 #[.slice o1 on o3,.slice o1' on o3'] W fun e W'=>e=.returned (.bool true)∧Below W.heap.size W W'):=fun W h=>samePropsT_any ol on hon o1 o1' o3 o3' W B (ho.below (hmv W h)) (ho'.below (hmv W h)) hom
 have hTg:Hid (∀ W,Below W2.heap.size W2 W→Reads W B 1 t1 tn (scells tl)∧Reads W B 1 t1' tn (scells tl)):=fun W h=>⟨ht.below (hmv W h),ht'.below (hmv W h)⟩
 have HTN:=Lib.hid htn
 clear hb1 hb2 k1 k2 hsz hmv hb hb' ht ht' ho ho' hbn htn hon
 have hW0:=Below.refl W2.heap.size W2
 go_enter Tryz.func138,Tryz.ntmps138
 go_wp2_with fail
 rw [← hW2]
 clear hW2
 refine (hBd.out _ hW0).mono ?_
 rintro e w3 ⟨rfl,hb3⟩
 have hW3:=hW0.trans (hb3.mono hW0.size)
 clear hb3 hBd
 obtain ⟨p0,p1,p2,p3,p4,q0,q1,q2,q3,q4⟩:=hS.out _ hW3
 go_wp2_with fail
 refine (hPr.out _ hW3).mono ?_
 rintro e w4 ⟨rfl,hb4⟩
 have hW4:=hW3.trans (hb4.mono hW3.size)
 clear hb4 hPr p0 p1 p2 p3 p4 q0 q1 q2 q3 q4
 obtain ⟨p0,p1,p2,p3,p4,q0,q1,q2,q3,q4⟩:=hS.out _ hW4
 go_wp2_with fail
 clear p0 p1 p2 p3 p4 q0 q1 q2 q3 q4
 go_loopw [5] (fun j wr=>∃ k:Nat,k≤tn∧j=.int .i64 (k:Int)∧Below W2.heap.size W2 wr) (fun j _=>tn-(intOf j).toNat)
 case atStart=>exact ⟨0,Nat.zero_le _,rfl,hW4⟩
 case round =>
  clear hW4 hW3 hW0
  obtain ⟨k,hk,rfl,hWr⟩:=hrel
  obtain ⟨p0,p1,p2,p3,p4,q0,q1,q2,q3,q4⟩:=hS.out _ hWr
  by_cases hlt:k<tn
  ·have hki:(k:Int)<(tn:Int):=by omega
   obtain ⟨r1,r2⟩:=hTg.out _ hWr
   obtain ⟨ad,rfl,-,c0⟩:=strs_at r1 HTN.out hlt
   obtain ⟨ad2,rfl,-,d0⟩:=strs_at r2 HTN.out hlt
   obtain ⟨x,hx⟩:∃ x,x=tl[k]'(by have:=HTN.out;omega):=⟨_,rfl⟩
   rw [← hx] at c0 d0
   simp only [strV] at c0 d0
   clear hx r1 r2 hTg
   go_wp2_with fail
   go_big_quiet (fail)
   go_wp2_with fail
   go_roundw
   case rel=>exact ⟨k+1,by omega,by go_num,below_drewN hWr _⟩
   case measure=>simp [intOf];omega
  ·clear hTg
   go_wp2_with fail
   go_ret
   exact ⟨rfl,HB2.out.trans (hWr.mono (by have:=HSZ.out;omega))⟩
theorem sameSnapR_any (x y:SnapR) (h:x.eqv y) (w:World) (B:Nat) (hB:B≤w.heap.size) (hx:x.rd w B) (hy:y.rd w B) (hz:x.sz) :
  Calls Tryz.prog 138 #[.agg #[.string ⟨x.nm.toArray⟩,.int .i64 x.gd,.slice x.body.A x.body.n x.body.c,.slice x.tags.A x.tags.n x.tags.c,.slice x.own.A x.own.n x.own.c],.agg #[.string ⟨y.nm.toArray⟩,.int .i64 y.gd,.slice y.body.A y.body.n y.body.c,.slice y.tags.A y.tags.n y.tags.c,.slice y.own.A y.own.n y.own.c]] w fun e w'=>e=.returned (.bool true)∧Below w.heap.size w w':=by
 obtain ⟨h1,h2,h3,h4,h5⟩:=h
 obtain ⟨nm,gd,⟨b1,bn,b3,bl⟩,⟨t1,tn,t3,tl⟩,⟨o1,on,o3,ol⟩⟩:=x
 obtain ⟨nm',gd',⟨b1',bn',b3',bl'⟩,⟨t1',tn',t3',tl'⟩,⟨o1',on',o3',ol'⟩⟩:=y
 simp only at h1 h2 h3 h4 h5
 subst h1 h2 h3 h4 h5
 have e1:bn'=bn:=hy.body.1.trans hx.body.1.symm
 have e2:tn'=tn:=hy.tags.1.trans hx.tags.1.symm
 have e3:on'=on:=hy.own.1.trans hx.own.1.symm
 subst e1 e2 e3
 exact sameSnapT_any nm gd bl tl ol b1 b1' bn' b3 b3' t1 t1' tn' t3 t3' o1 o1' on' o3 o3' w B hB hx.body.1 hx.tags.1 hx.own.1 hx.body.2.2 hy.body.2.2 (by rw [← scells_enc];exact hx.tags.2.2) (by rw [← scells_enc];exact hy.tags.2.2) hx.own.2.2 hy.own.2.2 hz.body hz.tags hz.own
set_option maxRecDepth 100000 in
set_option maxHeartbeats 4000000 in
theorem sameSetT_any (pa og:BS) (bl:List BlkT) (sl sl':List SnapR) (ol:List (BS×BS)) (b1 b1':Option Addr) (bn b3 b3':Nat) (s1 s1':Option Addr) (sn s3 s3':Nat) (o1 o1':Option Addr) (on o3 o3':Nat) (w:World) (B:Nat) (hB:B≤w.heap.size)
  (hbn:bn=bl.length) (hsn:sn=sl.length) (hsn':sn=sl'.length) (hon:on=ol.length) (hb:Reads w B 2 b1 bn (bcells bl)) (hb':Reads w B 2 b1' bn (bcells bl)) (ht:Reads w B 5 s1 sn (cellsK encSnap sl)) (ht':Reads w B 5 s1' sn (cellsK encSnap sl')) (ho:Reads w B 2 o1 on (pcells ol)) (ho':Reads w B 2 o1' on (pcells ol))
  (he:∀ y∈sl,y.rd w B) (he':∀ y∈sl',y.rd w B) (heq:∀ i (h:i<sl.length) (h':i<sl'.length),(sl[i]'h).eqv (sl'[i]'h')) (hz:∀ y∈sl,y.sz) (hbm:bn≤1000000000000) (htm:sn≤1000000000000) (hom:on≤1000000000000) :
  Calls Tryz.prog 74 #[.agg #[.string ⟨pa.toArray⟩,.string ⟨og.toArray⟩,.slice b1 bn b3,.slice s1 sn s3,.slice o1 on o3],.agg #[.string ⟨pa.toArray⟩,.string ⟨og.toArray⟩,.slice b1' bn b3',.slice s1' sn s3',.slice o1' on o3']] w fun e w'=>e=.returned (.bool true)∧Below w.heap.size w w':=by
 have hb1:=(Below.refl w.heap.size w).alloc (Nat.le_refl _) (.cells #[.string ⟨pa.toArray⟩,.string ⟨og.toArray⟩,.slice b1 bn b3,.slice s1 sn s3,.slice o1 on o3] 42)
 have hb2:=hb1.alloc hb1.size (.cells #[.string ⟨pa.toArray⟩,.string ⟨og.toArray⟩,.slice b1' bn b3',.slice s1' sn s3',.slice o1' on o3'] 42)
 have k1:=(Blk.new w 42 #[.string ⟨pa.toArray⟩,.string ⟨og.toArray⟩,.slice b1 bn b3,.slice s1 sn s3,.slice o1 on o3]).alloc (.cells #[.string ⟨pa.toArray⟩,.string ⟨og.toArray⟩,.slice b1' bn b3',.slice s1' sn s3',.slice o1' on o3'] 42)
 have k2:=Blk.new (w.alloc (.cells #[.string ⟨pa.toArray⟩,.string ⟨og.toArray⟩,.slice b1 bn b3,.slice s1 sn s3,.slice o1 on o3] 42)) 42 #[.string ⟨pa.toArray⟩,.string ⟨og.toArray⟩,.slice b1' bn b3',.slice s1' sn s3',.slice o1' on o3']
 rw [show (w.alloc (.cells #[.string ⟨pa.toArray⟩,.string ⟨og.toArray⟩,.slice b1 bn b3,.slice s1 sn s3,.slice o1 on o3] 42)).heap.size=w.heap.size+1 by simp] at k2
 obtain ⟨W2,hW2⟩:∃ W,W=(w.alloc (.cells #[.string ⟨pa.toArray⟩,.string ⟨og.toArray⟩,.slice b1 bn b3,.slice s1 sn s3,.slice o1 on o3] 42)).alloc (.cells #[.string ⟨pa.toArray⟩,.string ⟨og.toArray⟩,.slice b1' bn b3',.slice s1' sn s3',.slice o1' on o3'] 42):=⟨_,rfl⟩
 have hsz:W2.heap.size=w.heap.size+2:=by rw [hW2];simp
 rw [← hW2] at hb2 k1 k2
 have hS:=Lib.hid (fun (W':World) (hB':Below W2.heap.size W2 W')=>(⟨(k1.below hB' (by omega)).cell 0,(k1.below hB' (by omega)).cell 1,(k1.below hB' (by omega)).cell 2,(k1.below hB' (by omega)).cell 3,(k1.below hB' (by omega)).cell 4,(k2.below hB' (by omega)).cell 0,(k2.below hB' (by omega)).cell 1,(k2.below hB' (by omega)).cell 2,(k2.below hB' (by omega)).cell 3,(k2.below hB' (by omega)).cell 4⟩:W'.cell? ⟨w.heap.size,0,none⟩=some (.string ⟨pa.toArray⟩)∧W'.cell? ⟨w.heap.size,1,none⟩=some (.string ⟨og.toArray⟩)∧W'.cell? ⟨w.heap.size,2,none⟩=some (.slice b1 bn b3)∧W'.cell? ⟨w.heap.size,3,none⟩=some (.slice s1 sn s3)∧W'.cell? ⟨w.heap.size,4,none⟩=some (.slice o1 on o3)∧W'.cell? ⟨w.heap.size+1,0,none⟩=some (.string ⟨pa.toArray⟩)∧W'.cell? ⟨w.heap.size+1,1,none⟩=some (.string ⟨og.toArray⟩)∧W'.cell? ⟨w.heap.size+1,2,none⟩=some (.slice b1' bn b3')∧W'.cell? ⟨w.heap.size+1,3,none⟩=some (.slice s1' sn s3')∧W'.cell? ⟨w.heap.size+1,4,none⟩=some (.slice o1' on o3')))
 have HSZ:=Lib.hid hsz
 have HB2:=Lib.hid hb2
 have hmv:∀ W',Below W2.heap.size W2 W'→Below B w W':=fun W' hB'=>(hb2.trans (hB'.mono (by omega))).mono hB
 have hBd:Hid (∀ W,Below W2.heap.size W2 W→Calls Tryz.prog 13 #[.slice b1 bn b3,.slice b1' bn b3'] W fun e W'=>e=.returned (.bool true)∧Below W.heap.size W W'):=fun W h=>rsameT_any bl bn hbn b1 b1' b3 b3' W B (hb.below (hmv W h)) (hb'.below (hmv W h)) hbm
 have hPr:Hid (∀ W,Below W2.heap.size W2 W→Calls Tryz.prog 14 #[.slice o1 on o3,.slice o1' on o3'] W fun e W'=>e=.returned (.bool true)∧Below W.heap.size W W'):=fun W h=>samePropsT_any ol on hon o1 o1' o3 o3' W B (ho.below (hmv W h)) (ho'.below (hmv W h)) hom
 have hTg:Hid (∀ W,Below W2.heap.size W2 W→Reads W B 5 s1 sn (cellsK encSnap sl)∧Reads W B 5 s1' sn (cellsK encSnap sl')∧B≤W.heap.size∧(∀ y∈sl,y.rd W B)∧∀ y∈sl',y.rd W B):=fun W h=>⟨ht.below (hmv W h),ht'.below (hmv W h),by have:=h.size;omega,fun y hy=>⟨(he y hy).body.below (hmv W h),(he y hy).tags.below (hmv W h),(he y hy).own.below (hmv W h)⟩,fun y hy=>⟨(he' y hy).body.below (hmv W h),(he' y hy).tags.below (hmv W h),(he' y hy).own.below (hmv W h)⟩⟩
 have HSN:=Lib.hid hsn
 have HSN':=Lib.hid hsn'
 have HEQ:=Lib.hid heq
 have HZ:=Lib.hid hz
 clear hb1 hb2 k1 k2 hsz hmv hb hb' ht ht' ho ho' hbn hsn hsn' hon he he' heq hz
 have hW0:=Below.refl W2.heap.size W2
 go_enter Tryz.func74,Tryz.ntmps74
 go_wp2_with fail
 rw [← hW2]
 clear hW2
 refine (hBd.out _ hW0).mono ?_
 rintro e w3 ⟨rfl,hb3⟩
 have hW3:=hW0.trans (hb3.mono hW0.size)
 clear hb3 hBd
 obtain ⟨p0,p1,p2,p3,p4,q0,q1,q2,q3,q4⟩:=hS.out _ hW3
 go_wp2_with fail
 refine (hPr.out _ hW3).mono ?_
 rintro e w4 ⟨rfl,hb4⟩
 have hW4:=hW3.trans (hb4.mono hW3.size)
 clear hb4 hPr p0 p1 p2 p3 p4 q0 q1 q2 q3 q4
 obtain ⟨p0,p1,p2,p3,p4,q0,q1,q2,q3,q4⟩:=hS.out _ hW4
 go_wp2_with fail
 clear p0 p1 p2 p3 p4 q0 q1 q2 q3 q4
 go_loopw [5] (fun j wr=>∃ k:Nat,k≤sn∧j=.int .i64 (k:Int)∧Below W2.heap.size W2 wr) (fun j _=>sn-(intOf j).toNat)
 case atStart=>exact ⟨0,Nat.zero_le _,rfl,hW4⟩
 case round =>
  clear hW4 hW3 hW0
  obtain ⟨k,hk,rfl,hWr⟩:=hrel
  obtain ⟨p0,p1,p2,p3,p4,q0,q1,q2,q3,q4⟩:=hS.out _ hWr
  by_cases hlt:k<sn
  ·have hki:(k:Int)<(sn:Int):=by omega
   obtain ⟨r1,r2,-⟩:=hTg.out _ hWr
   obtain ⟨ad,rfl,-⟩:=snap_at r1 HSN.out hlt
   obtain ⟨ad2,rfl,-⟩:=snap_at r2 HSN'.out hlt
   have hkl:k<sl.length:=by have:=HSN.out;omega
   have hkl':k<sl'.length:=by have:=HSN'.out;omega
   have hev:=HEQ.out k hkl hkl'
   have hxm:sl[k]'hkl∈sl:=List.getElem_mem _
   have hym:sl'[k]'hkl'∈sl':=List.getElem_mem _
   have hX:Hid (∀ W,Below W2.heap.size W2 W→(W.cell? (ad.add (k*5))=some (.string ⟨(sl[k]'hkl).nm.toArray⟩)∧W.cell? ⟨(ad.add (k*5)).block,(ad.add (k*5)).off+1,none⟩=some (.int .i64 (sl[k]'hkl).gd)∧W.cell? ⟨(ad.add (k*5)).block,(ad.add (k*5)).off+2,none⟩=some (.slice (sl[k]'hkl).body.A (sl[k]'hkl).body.n (sl[k]'hkl).body.c)∧W.cell? ⟨(ad.add (k*5)).block,(ad.add (k*5)).off+3,none⟩=some (.slice (sl[k]'hkl).tags.A (sl[k]'hkl).tags.n (sl[k]'hkl).tags.c)∧W.cell? ⟨(ad.add (k*5)).block,(ad.add (k*5)).off+4,none⟩=some (.slice (sl[k]'hkl).own.A (sl[k]'hkl).own.n (sl[k]'hkl).own.c))∧(W.cell? (ad2.add (k*5))=some (.string ⟨(sl'[k]'hkl').nm.toArray⟩)∧W.cell? ⟨(ad2.add (k*5)).block,(ad2.add (k*5)).off+1,none⟩=some (.int .i64 (sl'[k]'hkl').gd)∧W.cell? ⟨(ad2.add (k*5)).block,(ad2.add (k*5)).off+2,none⟩=some (.slice (sl'[k]'hkl').body.A (sl'[k]'hkl').body.n (sl'[k]'hkl').body.c)∧W.cell? ⟨(ad2.add (k*5)).block,(ad2.add (k*5)).off+3,none⟩=some (.slice (sl'[k]'hkl').tags.A (sl'[k]'hkl').tags.n (sl'[k]'hkl').tags.c)∧W.cell? ⟨(ad2.add (k*5)).block,(ad2.add (k*5)).off+4,none⟩=some (.slice (sl'[k]'hkl').own.A (sl'[k]'hkl').own.n (sl'[k]'hkl').own.c))):=by
    show ∀ W,_→_
    intro W hb
    obtain ⟨u1,u2,-⟩:=hTg.out _ hb
    obtain ⟨ad3,e3,-,c⟩:=snap_at u1 HSN.out hlt
    obtain ⟨ad4,e4,-,d⟩:=snap_at u2 HSN'.out hlt
    injection e3 with e3
    injection e4 with e4
    subst e3 e4
    exact ⟨c,d⟩
   have hSS:Hid (∀ W,Below W2.heap.size W2 W→Calls Tryz.prog 138 #[.agg #[.string ⟨(sl[k]'hkl).nm.toArray⟩,.int .i64 (sl[k]'hkl).gd,.slice (sl[k]'hkl).body.A (sl[k]'hkl).body.n (sl[k]'hkl).body.c,.slice (sl[k]'hkl).tags.A (sl[k]'hkl).tags.n (sl[k]'hkl).tags.c,.slice (sl[k]'hkl).own.A (sl[k]'hkl).own.n (sl[k]'hkl).own.c],.agg #[.string ⟨(sl'[k]'hkl').nm.toArray⟩,.int .i64 (sl'[k]'hkl').gd,.slice (sl'[k]'hkl').body.A (sl'[k]'hkl').body.n (sl'[k]'hkl').body.c,.slice (sl'[k]'hkl').tags.A (sl'[k]'hkl').tags.n (sl'[k]'hkl').tags.c,.slice (sl'[k]'hkl').own.A (sl'[k]'hkl').own.n (sl'[k]'hkl').own.c]] W fun e W'=>e=.returned (.bool true)∧Below W.heap.size W W'):=fun W hb=>by
    obtain ⟨-,-,u3,u4,u5⟩:=hTg.out _ hb
    exact sameSnapR_any _ _ hev W B u3 (u4 _ hxm) (u5 _ hym) (HZ.out _ hxm)
   obtain ⟨x,hx⟩:∃ x,x=sl[k]'hkl:=⟨_,rfl⟩
   obtain ⟨y,hy⟩:∃ y,y=sl'[k]'hkl':=⟨_,rfl⟩
   rw [← hx,← hy] at hX hSS
   obtain ⟨nm,gd,⟨f1,f2,f3,fl⟩,⟨t1,t2,t3,tl⟩,⟨u1,u2,u3,ul⟩⟩:=x
   obtain ⟨nm',gd',⟨f1',f2',f3',fl'⟩,⟨t1',t2',t3',tl'⟩,⟨u1',u2',u3',ul'⟩⟩:=y
   simp only at hX hSS
   clear hx hy hev hxm hym r1 r2 hTg HEQ HZ
   go_wp2_with fail
   clear p0 p1 p2 p3 p4 q0 q1 q2 q3 q4
   refine wpC_regionH (fun W'=>Below W2.heap.size W2 W') (hWr.drew) (fun OPS D QQ HO HD HD2 HQQ=>?_)
   clear HO
   refine zX ?_
   refine wpC_readS (v:=?_) rfl rfl (fun W hW=>?_) ?_
   rotate_left
   ·replace hW:=HD.out W hW
    skip
    obtain ⟨-,-,-,p3,-⟩:=hS.out _ hW
    go_simp;try (with_reducible rfl)
   dsimp only [zB,zC]
   iterate 2 refine zX ?_
   refine zM hX.out ?_
   refine zX ?_
   refine wpC_readS (v:=?_) rfl rfl (fun W hW=>?_) ?_
   rotate_left
   ·replace hW:=HD.out W hW
    skip
    obtain ⟨-,-,-,-,-,-,-,-,q3,-⟩:=hS.out _ hW
    go_simp;try (with_reducible rfl)
   dsimp only [zB,zC]
   iterate 2 refine zX ?_
   refine zM hX.out ?_
   refine zN hSS.out ?_
   refine zX ?_
   refine wpQuiet_nil (HQQ.out _ (fun W hW=>?_))
   skip
   go_wp2_with fail
   go_roundw
   case rel=>exact ⟨k+1,by omega,by go_num,hW⟩
   case measure=>simp [intOf];omega
  ·clear hTg
   go_wp2_with fail
   go_ret
   exact ⟨rfl,HB2.out.trans (hWr.mono (by have:=HSZ.out;omega))⟩
theorem sameSetR_any (x y:SetR) (h:x.eqv y) (w:World) (B:Nat) (hB:B≤w.heap.size) (hx:x.rd w B) (hy:y.rd w B) (hz:x.sz) :
  Calls Tryz.prog 74 #[.agg #[.string ⟨x.path.toArray⟩,.string ⟨x.org.toArray⟩,.slice x.body.A x.body.n x.body.c,.slice x.snaps.A x.snaps.n x.snaps.c,.slice x.own.A x.own.n x.own.c],.agg #[.string ⟨y.path.toArray⟩,.string ⟨y.org.toArray⟩,.slice y.body.A y.body.n y.body.c,.slice y.snaps.A y.snaps.n y.snaps.c,.slice y.own.A y.own.n y.own.c]] w fun e w'=>e=.returned (.bool true)∧Below w.heap.size w w':=by
 obtain ⟨h1,h2,h3,h4,h5,h6⟩:=h
 obtain ⟨pa,og,⟨b1,bn,b3,bl⟩,⟨s1,sn,s3,sl⟩,⟨o1,on,o3,ol⟩⟩:=x
 obtain ⟨pa',og',⟨b1',bn',b3',bl'⟩,⟨s1',sn',s3',sl'⟩,⟨o1',on',o3',ol'⟩⟩:=y
 simp only at h1 h2 h3 h4 h5 h6
 subst h1 h2 h3 h6
 have e1:bn'=bn:=hy.body.1.trans hx.body.1.symm
 have e2:sn'=sn:=by rw [show sn'=sl'.length from hy.snaps.1,show sn=sl.length from hx.snaps.1,h4]
 have e3:on'=on:=hy.own.1.trans hx.own.1.symm
 subst e1 e2 e3
 exact sameSetT_any pa og bl sl sl' ol b1 b1' bn' b3 b3' s1 s1' sn' s3 s3' o1 o1' on' o3 o3' w B hB hx.body.1 hx.snaps.1 hy.snaps.1 hx.own.1 hx.body.2.2 hy.body.2.2 hx.snaps.2.2 hy.snaps.2.2 hx.own.2.2 hy.own.2.2 hx.each hy.each h5 hz.each hz.body hz.snaps hz.own
end Go.Proofs.YtcgclpcocdappaaGreatDoor
namespace Go.Proofs.YtcgclpcocdappaaGreatDoor
open Go.RowKit
section
variable {w w1:World} {base:Nat}
/-- a row of another type stays, and one of another block -/
theorem own_asideT {T T':TypeId} {k n m sz:Nat} {v u:Value} {xs ys:List Value} (hs:w.ownsRow base T' sz u m ys) (hg:w.grownBy w1 u.ownBlock) (hT:T≠T') (hr:w.ownsRow base T k v n xs):w1.ownsRow base T k v n xs:=by
 cases he:u.ownBlock with
 | none=>rw [he] at hg;exact hr.kept hg (by cases v.ownBlock <;> simp)
 | some g =>
  rw [he] at hg
  refine hr.kept hg (.inr ?_)
  rcases hs.2 with ⟨e,_⟩ | ⟨g',cap,cur,e,_,hh,_⟩
  ·rw [e] at he;simp [Value.ownBlock] at he
  ·rw [e] at he
   have he:g'=g:=by simpa [Value.ownBlock] using he
   subst he
   exact own_blk_ne hr (show Blk w g' T' cur from hh) hT
theorem own_asideG {T:TypeId} {k n:Nat} {v u:Value} {xs:List Value} (hg:w.grownBy w1 u.ownBlock) (hA:∀ g,v.ownBlock=some g→u.ownBlock≠some g) (hr:w.ownsRow base T k v n xs):w1.ownsRow base T k v n xs:=by
 cases he:u.ownBlock with
 | none=>rw [he] at hg;exact hr.kept hg (by cases v.ownBlock <;> simp)
 | some g =>
  rw [he] at hg
  exact hr.kept hg (.inr fun e=>hA g e he)
/-- what stays when only the row of one snapshot's tags is changed -/
structure TAside (w1:World) (base:Nat) (t:TenR) (k:Nat) (hk:k<t.sets.l.length) (i:Nat) (hi:i<(t.sets.l[k]'hk).snaps.l.length):Prop where
 sets:t.sets.own w1 base 42 5 encSet
 others:∀ j (hj:j<t.sets.l.length),j≠k→SetO w1 base (t.sets.l[j]'hj)
 body:(t.sets.l[k]'hk).body.own w1 base 75 2 encB
 own:(t.sets.l[k]'hk).own.own w1 base 78 2 encP
 snaps:(t.sets.l[k]'hk).snaps.own w1 base 57 5 encSnap
 olds:∀ q (hq:q<(t.sets.l[k]'hk).snaps.l.length),q≠i→SnapO w1 base ((t.sets.l[k]'hk).snaps.l[q]'hq)
 sbody:((t.sets.l[k]'hk).snaps.l[i]'hi).body.own w1 base 75 2 encB
 sown:((t.sets.l[k]'hk).snaps.l[i]'hi).own.own w1 base 78 2 encP
 grants:t.grants.own w1 base 147 3 encG
 stages:t.stages.own w1 base 103 21 encStage
 eachG:∀ y∈t.stages.l,StageO w1 base y
 log:t.log.own w1 base 106 4 encEntry
theorem ApartT.symm {x y:SnapR} (h:ApartT x y):ApartT y x:=fun g h1 h2=>h g h2 h1
theorem TenO.asideT {t:TenR} (h:TenO w base t) (hp:t.sets.l.Pairwise ApartU) (hq:∀ x∈t.sets.l,x.snaps.l.Pairwise ApartT) (k:Nat) (hk:k<t.sets.l.length) (i:Nat) (hi:i<(t.sets.l[k]'hk).snaps.l.length) (hg:w.grownBy w1 ((t.sets.l[k]'hk).snaps.l[i]'hi).tags.val.ownBlock):TAside w1 base t k hk i hi:=by
 have hx:=h.eachS _ (List.getElem_mem hk)
 have hz:=hx.each _ (List.getElem_mem hi)
 have a:∀ {T:TypeId} {k n:Nat} {v:Value} {xs:List Value},T≠9→w.ownsRow base T k v n xs→w1.ownsRow base T k v n xs:=fun hT hr=>own_asideT hz.tags.2 hg hT hr
 have aS:∀ y,ApartT y ((t.sets.l[k]'hk).snaps.l[i]'hi)→SnapO w base y→SnapO w1 base y:=fun y hA hy=>⟨⟨hy.body.1,a (by decide) hy.body.2⟩,⟨hy.tags.1,own_asideG hg hA hy.tags.2⟩,⟨hy.own.1,a (by decide) hy.own.2⟩⟩
 refine ⟨⟨h.sets.1,a (by decide) h.sets.2⟩,fun j hj hne=>?_,⟨hx.body.1,a (by decide) hx.body.2⟩,⟨hx.own.1,a (by decide) hx.own.2⟩,⟨hx.snaps.1,a (by decide) hx.snaps.2⟩,fun q hq2 hne=>?_,⟨hz.body.1,a (by decide) hz.body.2⟩,⟨hz.own.1,a (by decide) hz.own.2⟩,⟨h.grants.1,a (by decide) h.grants.2⟩,⟨h.stages.1,a (by decide) h.stages.2⟩,fun y hy=>⟨⟨(h.eachG y hy).own.1,a (by decide) (h.eachG y hy).own.2⟩,⟨(h.eachG y hy).body.1,a (by decide) (h.eachG y hy).body.2⟩⟩,⟨h.log.1,a (by decide) h.log.2⟩⟩
 ·have hy:=h.eachS _ (List.getElem_mem hj)
  refine ⟨⟨hy.body.1,a (by decide) hy.body.2⟩,⟨hy.snaps.1,a (by decide) hy.snaps.2⟩,fun z hz=>aS z ?_ (hy.each z hz),⟨hy.own.1,a (by decide) hy.own.2⟩⟩
  rcases Nat.lt_or_gt_of_ne hne with h1 | h1
  ·exact (List.pairwise_iff_getElem.1 hp j k hj hk h1).2 _ hz _ (List.getElem_mem hi)
  ·exact ((List.pairwise_iff_getElem.1 hp k j hk hj h1).2 _ (List.getElem_mem hi) _ hz).symm
 ·refine aS _ ?_ (hx.each _ (List.getElem_mem hq2))
  have hP:=hq _ (List.getElem_mem hk)
  rcases Nat.lt_or_gt_of_ne hne with h1 | h1
  ·exact List.pairwise_iff_getElem.1 hP q i hq2 hi h1
  ·exact (List.pairwise_iff_getElem.1 hP i q hi hq2 h1).symm
theorem SnapO.keptN {x:SnapR} {g:Nat} {cs:Array Value} (h:SnapO w base x) (hg:w.grownBy w1 (some g)) (hb:Blk w g 57 cs):SnapO w1 base x :=
 ⟨h.body.keptT hg hb (by decide),h.tags.keptT hg hb (by decide),h.own.keptT hg hb (by decide)⟩
/-- the row's new value is stored in the snapshot -/
theorem TAside.store {t:TenR} {k i:Nat} {hk:k<t.sets.l.length} {hi:i<(t.sets.l[k]'hk).snaps.l.length} (h:TAside w1 base t k hk i hi) (hp:t.sets.l.Pairwise ApartU) (s':FS BS) (hs:s'.own w1 base 9 1 encS) {gZ:Nat} (hA:(t.sets.l[k]'hk).snaps.A=some ⟨gZ,0,none⟩) :
  TenO (w1.setCell ⟨gZ,i*5+3,none⟩ s'.val) base (t.putS k ((t.sets.l[k]'hk).withSn ⟨(t.sets.l[k]'hk).snaps.A,(t.sets.l[k]'hk).snaps.n,(t.sets.l[k]'hk).snaps.c,(t.sets.l[k]'hk).snaps.l.set i ⟨((t.sets.l[k]'hk).snaps.l[i]'hi).nm,((t.sets.l[k]'hk).snaps.l[i]'hi).gd,((t.sets.l[k]'hk).snaps.l[i]'hi).body,s',((t.sets.l[k]'hk).snaps.l[i]'hi).own⟩⟩))∧w1.grownBy (w1.setCell ⟨gZ,i*5+3,none⟩ s'.val) (some gZ):=by
 obtain ⟨g,cs,hA2,_,hbk⟩:=h.snaps.blk (by have:=h.snaps.1;omega)
 rw [hA] at hA2
 injection hA2 with hA2
 injection hA2 with hA2
 subst hA2
 obtain ⟨h1,h2⟩:=h.snaps.field (fun _=>rfl) hA i 3 (by decide) (⟨((t.sets.l[k]'hk).snaps.l[i]'hi).nm,((t.sets.l[k]'hk).snaps.l[i]'hi).gd,((t.sets.l[k]'hk).snaps.l[i]'hi).body,s',((t.sets.l[k]'hk).snaps.l[i]'hi).own⟩:SnapR) s'.val (fun z hz=>by rw [List.getElem?_eq_getElem hi] at hz;cases hz;rfl)
 have he:cellsK encSet (t.sets.l.set k ((t.sets.l[k]'hk).withSn ⟨(t.sets.l[k]'hk).snaps.A,(t.sets.l[k]'hk).snaps.n,(t.sets.l[k]'hk).snaps.c,(t.sets.l[k]'hk).snaps.l.set i ⟨((t.sets.l[k]'hk).snaps.l[i]'hi).nm,((t.sets.l[k]'hk).snaps.l[i]'hi).gd,((t.sets.l[k]'hk).snaps.l[i]'hi).body,s',((t.sets.l[k]'hk).snaps.l[i]'hi).own⟩⟩))=cellsK encSet t.sets.l:=by
  unfold cellsK
  rw [List.flatMap_def,List.flatMap_def,List.map_set]
  congr 1
  have:encSet ((t.sets.l[k]'hk).withSn ⟨(t.sets.l[k]'hk).snaps.A,(t.sets.l[k]'hk).snaps.n,(t.sets.l[k]'hk).snaps.c,(t.sets.l[k]'hk).snaps.l.set i ⟨((t.sets.l[k]'hk).snaps.l[i]'hi).nm,((t.sets.l[k]'hk).snaps.l[i]'hi).gd,((t.sets.l[k]'hk).snaps.l[i]'hi).body,s',((t.sets.l[k]'hk).snaps.l[i]'hi).own⟩⟩)=(t.sets.l.map encSet)[k]'(by rw [List.length_map];exact hk):=by
   rw [List.getElem_map]
   rfl
  rw [this,List.set_getElem_self]
 have hse:t.sets.own (w1.setCell ⟨gZ,i*5+3,none⟩ s'.val) base 42 5 encSet:=h.sets.keptT h2 hbk (by decide)
 have aS:∀ y,SnapO w1 base y→SnapO (w1.setCell ⟨gZ,i*5+3,none⟩ s'.val) base y:=fun y hy=>hy.keptN h2 hbk
 refine ⟨⟨⟨?_,?_⟩,fun y hy=>?_,h.grants.keptT h2 hbk (by decide),h.stages.keptT h2 hbk (by decide),fun y hy=>⟨(h.eachG y hy).own.keptT h2 hbk (by decide),(h.eachG y hy).body.keptT h2 hbk (by decide)⟩,h.log.keptT h2 hbk (by decide)⟩,h2⟩
 ·show t.sets.n=(t.sets.l.set k _).length
  rw [List.length_set]
  exact hse.1
 ·show World.ownsRow _ _ _ _ _ _ (cellsK encSet (t.sets.l.set k _))
  rw [he]
  exact hse.2
 ·rcases mem_set_at (show y∈t.sets.l.set k _ from hy) with rfl | ⟨j,hj,hne,rfl⟩
  ·refine ⟨h.body.keptT h2 hbk (by decide),h1,fun z hz=>?_,h.own.keptT h2 hbk (by decide)⟩
   rcases mem_set_at (show z∈(t.sets.l[k]'hk).snaps.l.set i _ from hz) with rfl | ⟨q,hq,hne,rfl⟩
   ·exact ⟨h.sbody.keptT h2 hbk (by decide),hs.keptT h2 hbk (by decide),h.sown.keptT h2 hbk (by decide)⟩
   ·exact aS _ (h.olds q hq hne)
  ·have ho:=h.others j hj hne
   refine ⟨ho.body.keptT h2 hbk (by decide),⟨ho.snaps.1,ho.snaps.2.kept h2 (.inr fun e=>?_)⟩,fun z hz=>aS z (ho.each z hz),ho.own.keptT h2 hbk (by decide)⟩
   have e2:(t.sets.l[k]'hk).snaps.val.ownBlock=some gZ:=by show (Value.slice (t.sets.l[k]'hk).snaps.A _ _).ownBlock=_;rw [hA];rfl
   rcases Nat.lt_or_gt_of_ne hne with h3 | h3
   ·exact (List.pairwise_iff_getElem.1 hp j k hj hk h3).1 gZ e e2
   ·exact (List.pairwise_iff_getElem.1 hp k j hk hj h3).1 gZ e2 e
theorem TenO.retagged {t:TenR} (h:TenO w base t) (hp:t.sets.l.Pairwise ApartU) (hq:∀ x∈t.sets.l,x.snaps.l.Pairwise ApartT) (k:Nat) (hk:k<t.sets.l.length) (x:SetR) (hx:x=t.sets.l[k]'hk) (i:Nat) (hi:i<x.snaps.l.length) (z:SnapR) (hz:z=x.snaps.l[i]'hi) (hg:w.grownBy w1 z.tags.val.ownBlock) (s':FS BS) (hs:s'.own w1 base 9 1 encS) {gZ:Nat} (hA:x.snaps.A=some ⟨gZ,0,none⟩) :
  (TenO (w1.setCell ⟨gZ,i*5+3,none⟩ s'.val) base (t.putS k (x.withSn ⟨x.snaps.A,x.snaps.n,x.snaps.c,x.snaps.l.set i ⟨z.nm,z.gd,z.body,s',z.own⟩⟩))∧w1.grownBy (w1.setCell ⟨gZ,i*5+3,none⟩ s'.val) (some gZ))∧w1.frozen? ⟨gZ,i*5+3,none⟩=false∧∃ v,w1.cell? ⟨gZ,i*5+3,none⟩=some v:=by
 subst hx
 subst hz
 have a:=h.asideT hp hq k hk i hi hg
 have hn:i<(t.sets.l[k]'hk).snaps.n:=by have:=a.snaps.1;omega
 refine ⟨a.store hp s' hs hA,?_,?_⟩
 ·obtain ⟨g,cs,hA2,_,hbk⟩:=a.snaps.blk (by omega)
  rw [hA] at hA2
  injection hA2 with hA2
  injection hA2 with hA2
  subst hA2
  exact hbk.frozen _
 ·obtain ⟨az,hza,-,-,-,-,f3,-⟩:=snap_at a.snaps.rd.2.2 a.snaps.1 hn
  rw [hA] at hza
  injection hza with hza
  subst hza
  rw [addr_add0] at f3
  exact ⟨_,f3⟩
end
end Go.Proofs.YtcgclpcocdappaaGreatDoor
