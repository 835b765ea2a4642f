/-
  The page's Set and Charge: what a tenant is charged for. blocks.Put, by its contract. Contents of blocks: what may be is small; the block's size. Lists of blocks in memory; blocks.Get, blocks.Check, the page's Same, by their contracts. The page's Check, Own, Put of contents, by their contracts.
-/
import Derived.WalkKit
import Derived.WalkSpells
import Derived.Below
import Derived.Laws.OwnMore
import Derived.Deep.AppendLies
import Derived.Deep.Draws
import Derived.Laws.Rows
import Derived.Maps.AppendAt
import Derived.RegionTactic
import Derived.OwnWalk
import Derived.Deep.QuietTactic
import Derived.BigQuiet
import Derived.Lib.Hide
import Derived.Laws.CopyOwn
import Derived.IntWalk
import Derived.Test.YtcgclpcocdappaaGreatDoorRows
import Derived.Handy
import Derived.Deep.Quiet
import Derived.ProofKit
import Derived.OpenShut
import Derived.ShutString
import Derived.ChangeOld
import Derived.Carry
import Derived.SizedLaws
import Derived.JoinedCond
import Derived.Deep.CondSized
import Derived.Deep.Slices
import Derived.Deep.Fields
import Derived.Lib.SmallJoins
import Derived.Orders
import Derived.Lib.SplitLaws
import Derived.Lib.LastIndexByte
import Derived.Lib.Strings
import Derived.Sort.Walk0
import Derived.Sort.KeysCollected
import Derived.Deep.MidRow
import Derived.Shelf.Strings.Search1
import Derived.Shelf.Strings.Search2
import Derived.Shelf.Strings.Search3
import Derived.Shelf.Strings.Cut
import Derived.Shelf.Strings.Count
import Derived.Shelf.LaysM
import Derived.Shelf.Strings.Shaped
import Derived.Shelf.Strings.LastIndex
import Derived.Shelf.Strings.Split
import Derived.Shelf.Strings.SplitShaped
import Derived.Shelf.Unicode.Decode
import Derived.Shelf.Strings.RuneCount
import Derived.Shelf.Strings.Explode
import Derived.Shelf.Unicode.DecodeSlow
import Derived.Test.YtcgclpcocdappaaGreatDoorProg
import Derived.Laws.BytesString
import Derived.Laws.IdiomStrings
import Derived.Lib.ConvBytes
import Derived.Deep.DeepCutAuto
import Derived.Great.BuildSlice
import Derived.Lib.AppendZeros
import Derived.Lib.Overlaps
import Derived.Lib.AppendZerosOnto
import Derived.Deep.RegionLaw
import Derived.Test.YtcgclpcocdappaaGreatDoorJ0
import Derived.Test.YtcgclpcocdappaaGreatDoorJbkv1
import Derived.Test.YtcgclpcocdappaaGreatDoorJbkv3
import Derived.Test.YtcgclpcocdappaaGreatDoorJbkv4
import Derived.Test.YtcgclpcocdappaaGreatDoorJbkv5
import Derived.Test.YtcgclpcocdappaaGreatDoorJbkv8
import Derived.Test.YtcgclpcocdappaaGreatDoorJbkv10
import Derived.Test.YtcgclpcocdappaaGreatDoorJbkv14
import Derived.Test.YtcgclpcocdappaaGreatDoorJbkv15
import Derived.Test.YtcgclpcocdappaaGreatDoorJbkv16
import Derived.Test.YtcgclpcocdappaaGreatDoorJbkv17
import Derived.Test.YtcgclpcocdappaaGreatDoorJbk2
namespace Go.Proofs.YtcgclpcocdappaaGreatDoor
open Go.RowKit
set_option maxRecDepth 100000 in
set_option maxHeartbeats 2000000 in
theorem rset14c_any (x:SetR) (w:World) (B:Nat) (hB:B≤w.heap.size) (hr:x.rd w B) (hz:x.sz) (hs:setSum x≤4000000000000000000) :
  Calls Tryz.prog 76 #[.agg (encSet x).toArray] w fun e w'=>e=.returned (.int .i64 (setSum x))∧Below w.heap.size w w':=by
 obtain ⟨pa,og,⟨bA,bn,bc,bl⟩,⟨zA,zn,zc,zl⟩,⟨oA,on,oc,ol⟩⟩:=x
 show Calls Tryz.prog 76 #[.agg #[.string ⟨pa.toArray⟩,.string ⟨og.toArray⟩,.slice bA bn bc,.slice zA zn zc,.slice oA on oc]] w _
 have hb:=((Below.refl w.heap.size w).alloc (Nat.le_refl _) (.cells #[.string ⟨pa.toArray⟩,.string ⟨og.toArray⟩,.slice bA bn bc,.slice zA zn zc,.slice oA on oc] 42))
 have ks:=Blk.new w 42 #[.string ⟨pa.toArray⟩,.string ⟨og.toArray⟩,.slice bA bn bc,.slice zA zn zc,.slice oA on oc]
 have hsz:(w.alloc (.cells #[.string ⟨pa.toArray⟩,.string ⟨og.toArray⟩,.slice bA bn bc,.slice zA zn zc,.slice oA on oc] 42)).heap.size=w.heap.size+1:=by simp
 obtain ⟨W1,hW1⟩:∃ W,W=(w.alloc (.cells #[.string ⟨pa.toArray⟩,.string ⟨og.toArray⟩,.slice bA bn bc,.slice zA zn zc,.slice oA on oc] 42)):=⟨_,rfl⟩
 rw [← hW1] at hb hsz ks
 have hKs:Hid (∀ W,Below W1.heap.size W1 W→Blk W w.heap.size 42 #[.string ⟨pa.toArray⟩,.string ⟨og.toArray⟩,.slice bA bn bc,.slice zA zn zc,.slice oA on oc]):=fun W h=>ks.below h (by omega)
 have hBW:Hid (∀ W,Below W1.heap.size W1 W→Below w.heap.size w W):=fun W h=>hb.trans (h.mono (by omega))
 have hSZ:Hid (∀ W,Below W1.heap.size W1 W→w.heap.size+1≤W.heap.size):=fun W h=>by have:=h.size;omega
 have hW0:Hid (Below W1.heap.size W1 W1):=Below.refl _ _
 have hrd:Hid (∀ W,Below W1.heap.size W1 W→Reads W B 5 zA zn (cellsK encSnap zl)):=fun W h=>hr.snaps.2.2.below ((hBW.out W h).mono hB)
 have HZN:=Lib.hid (show zn=zl.length from hr.snaps.1)
 have HZ:=Lib.hid hz
 have HM:=Lib.hid (sumB_mono zl)
 have HS:Hid (setSum ⟨pa,og,⟨bA,bn,bc,bl⟩,⟨zA,zn,zc,zl⟩,⟨oA,on,oc,ol⟩⟩=((bn:Int)+1)+sumB zl zl.length):=rfl
 have HLE:=Lib.hid hs
 have hbn:bn≤1000000000000:=hz.body
 have hzn:zn≤1000000000000:=hz.snaps
 obtain ⟨S0,hS0⟩:∃ S:Int,S=1+(bn:Int):=⟨_,rfl⟩
 have hw1:IntKind.i64.wrap (1+(bn:Int))=S0:=by rw [IntKind.wrap_i64];omega
 have HS0:=Lib.hid hS0
 obtain ⟨U,hU⟩:∃ U,U=setSum ⟨pa,og,⟨bA,bn,bc,bl⟩,⟨zA,zn,zc,zl⟩,⟨oA,on,oc,ol⟩⟩:=⟨_,rfl⟩
 rw [← hU] at HS HLE ⊢
 clear hb hsz ks hr hz hs hS0 hU hbn
 go_enter Tryz.func76,Tryz.ntmps76
 have kk:=hKs.out W1 hW0.out
 have e2:=kk.cell 2
 simp only [zF,zD,zE] at e2
 clear kk
 go_upto_region 2 with (rw [← hW1];clear hW1)
 go_wp2_with fail
 clear e2
 go_loopw [3,4] (fun a j wr=>∃ k:Nat,k≤zn∧a=.int .i64 (S0+sumB zl k)∧j=.int .i64 (k:Int)∧Hid (Below W1.heap.size W1 wr)) (fun _ j _=>zn-(intOf j).toNat)
 case atStart=>exact ⟨0,Nat.zero_le _,by rw [sumB_zero,Int.add_zero],rfl,hW0.out⟩
 case round =>
  obtain ⟨k,hk,rfl,rfl,hbw⟩:=hrel
  have kk:=hKs.out wr hbw.out
  have e3:=kk.cell 3
  simp only [zF,zD,zE] at e3
  clear kk
  by_cases hlt:k<zn
  ·have hki:(k:Int)<(zn:Int):=by omega
   have hk0:(0:Int)≤(k:Int):=by omega
   have hkl:k<zl.length:=by have:=HZN.out;omega
   obtain ⟨ad,hsa,-,-,-,r2,-,-⟩:=snap_at (hrd.out wr hbw.out) HZN.out hlt
   subst hsa
   have hsz:=(HZ.out.each _ (List.getElem_mem hkl)).body
   have hss:=sumB_succ zl k hkl
   obtain ⟨y,hy⟩:∃ y,y=zl[k]'hkl:=⟨_,rfl⟩
   rw [← hy] at r2 hsz hss
   clear hy
   have hbd:=HM.out k
   have hbd2:=HM.out (k+1)
   have h1:=HS.out
   have h2:=HLE.out
   have h3:=HS0.out
   obtain ⟨S1,hS1⟩:∃ S:Int,S=S0+sumB zl k:=⟨_,rfl⟩
   obtain ⟨S2,hS2⟩:∃ S:Int,S=S1+1:=⟨_,rfl⟩
   obtain ⟨S3,hS3⟩:∃ S:Int,S=S2+(y.body.n:Int):=⟨_,rfl⟩
   have hwa:IntKind.i64.wrap (S1+1)=S2:=by rw [IntKind.wrap_i64];omega
   have hwb:IntKind.i64.wrap (S2+(y.body.n:Int))=S3:=by rw [IntKind.wrap_i64];omega
   rw [← hS1]
   have HN:Hid (S3=S0+sumB zl (k+1)):=by show _=_;omega
   obtain ⟨ynm,ygd,⟨yb1,ybn,yb3,ybl⟩,⟨yt1,ytn,yt3,ytl⟩,⟨yo1,yon,yo3,yol⟩⟩:=y
   simp only at r2 hwb
   clear hsz hss hbd hbd2 h1 h2 h3 hS1 hS2 hS3
   go_wp2_with fail
   go_roundw
   case rel=>exact ⟨k+1,by omega,by rw [HN.out],by go_num,hbw⟩
   case measure=>simp [intOf];omega
  ·have hkn:k=zn:=by omega
   have HU:Hid (S0+sumB zl k=U):=by show _=_;rw [hkn,HZN.out,HS.out,HS0.out];omega
   rw [HU.out]
   clear hkn
   go_wp2_with fail
   go_ret
   exact ⟨rfl,hBW.out _ hbw.out⟩
set_option maxRecDepth 100000 in
set_option maxHeartbeats 4000000 in
theorem rcharge_any (t:TenR) (w:World) (B:Nat) (hB:B≤w.heap.size) (hr:t.rd w B) (hz:t.sz) (hs:tenSum t≤4000000000000000000) :
  Calls Tryz.prog 22 #[t.val] w fun e w'=>e=.returned (.int .i64 (tenSum t))∧Below w.heap.size w w':=by
 obtain ⟨nm,qu,nx,⟨s1,sn,s3,sl⟩,⟨u1,un,u3,ul⟩,⟨t1,tn,t3,tl⟩,⟨l1,ln,l3,ll⟩⟩:=t
 show Calls Tryz.prog 22 #[.agg #[.string ⟨nm.toArray⟩,.int .i64 qu,.int .i64 nx,.slice s1 sn s3,.slice u1 un u3,.slice t1 tn t3,.slice l1 ln l3]] w _
 have hb:=((Below.refl w.heap.size w).alloc (Nat.le_refl _) (.cells #[.string ⟨nm.toArray⟩,.int .i64 qu,.int .i64 nx,.slice s1 sn s3,.slice u1 un u3,.slice t1 tn t3,.slice l1 ln l3] 27))
 have kt:=Blk.new w 27 #[.string ⟨nm.toArray⟩,.int .i64 qu,.int .i64 nx,.slice s1 sn s3,.slice u1 un u3,.slice t1 tn t3,.slice l1 ln l3]
 have hsz:(w.alloc (.cells #[.string ⟨nm.toArray⟩,.int .i64 qu,.int .i64 nx,.slice s1 sn s3,.slice u1 un u3,.slice t1 tn t3,.slice l1 ln l3] 27)).heap.size=w.heap.size+1:=by simp
 obtain ⟨W1,hW1⟩:∃ W,W=(w.alloc (.cells #[.string ⟨nm.toArray⟩,.int .i64 qu,.int .i64 nx,.slice s1 sn s3,.slice u1 un u3,.slice t1 tn t3,.slice l1 ln l3] 27)):=⟨_,rfl⟩
 rw [← hW1] at hb hsz kt
 have hKt:Hid (∀ W,Below W1.heap.size W1 W→Blk W w.heap.size 27 #[.string ⟨nm.toArray⟩,.int .i64 qu,.int .i64 nx,.slice s1 sn s3,.slice u1 un u3,.slice t1 tn t3,.slice l1 ln l3]):=fun W h=>kt.below h (by omega)
 have hBW:Hid (∀ W,Below W1.heap.size W1 W→Below w.heap.size w W):=fun W h=>hb.trans (h.mono (by omega))
 have hSZ:Hid (∀ W,Below W1.heap.size W1 W→w.heap.size+1≤W.heap.size):=fun W h=>by have:=h.size;omega
 have hW0:Hid (Below W1.heap.size W1 W1):=Below.refl _ _
 have hrw:Hid (∀ W,Below W1.heap.size W1 W→TenR.rd W B ⟨nm,qu,nx,⟨s1,sn,s3,sl⟩,⟨u1,un,u3,ul⟩,⟨t1,tn,t3,tl⟩,⟨l1,ln,l3,ll⟩⟩∧B≤W.heap.size):=fun W h =>
  ⟨TenR.rd.below hr ((hBW.out W h).mono hB),by have:=hSZ.out W h;omega⟩
 have HSN:=Lib.hid (show sn=sl.length from hr.sets.1)
 have HTN:=Lib.hid (show tn=tl.length from hr.stages.1)
 have HZ:=Lib.hid hz
 have HM:=Lib.hid (sumS_mono sl)
 have HG:=Lib.hid (sumG_mono tl)
 have HS:Hid (tenSum ⟨nm,qu,nx,⟨s1,sn,s3,sl⟩,⟨u1,un,u3,ul⟩,⟨t1,tn,t3,tl⟩,⟨l1,ln,l3,ll⟩⟩=sumS sl sl.length+sumG tl tl.length):=rfl
 have HLE:=Lib.hid hs
 have hsn:sn≤1000000000000:=hz.sets
 have htn:tn≤1000000000000:=hz.stages
 obtain ⟨U,hU⟩:∃ U,U=tenSum ⟨nm,qu,nx,⟨s1,sn,s3,sl⟩,⟨u1,un,u3,ul⟩,⟨t1,tn,t3,tl⟩,⟨l1,ln,l3,ll⟩⟩:=⟨_,rfl⟩
 rw [← hU] at HS HLE ⊢
 clear hb hsz kt hr hz hs hU
 go_enter Tryz.func22,Tryz.ntmps22
 go_upto_region 2 with (rw [← hW1];clear hW1)
 go_wp2_with fail
 go_loopw [3,4] (fun a j wr=>∃ k:Nat,k≤sn∧a=.int .i64 (sumS sl k)∧j=.int .i64 (k:Int)∧Hid (Below W1.heap.size W1 wr)) (fun _ j _=>sn-(intOf j).toNat)
 case atStart=>exact ⟨0,Nat.zero_le _,by simp [sumS],rfl,by first | exact hW0.out | (rw [← hW1];exact hW0.out)⟩
 case round =>
  obtain ⟨k,hk,rfl,rfl,hbw⟩:=hrel
  have kk:=hKt.out wr hbw.out
  have e3:=kk.cell 3
  have e5:=kk.cell 5
  simp only [zF,zD,zE] at e3 e5
  clear kk
  by_cases hlt:k<sn
  ·have hki:(k:Int)<(sn:Int):=by omega
   have hk0:(0:Int)≤(k:Int):=by omega
   have hkl:k<sl.length:=by have:=HSN.out;omega
   obtain ⟨ad,hsa,-,q0,q1,q2,q3,q4⟩:=set_at (hrw.out wr hbw.out).1.sets.2.2 HSN.out hlt
   simp only at hsa
   have hss:=sumS_succ sl k hkl
   have hbd:=HM.out k
   have hbd2:=HM.out (k+1)
   have hbg:=HG.out tl.length
   have h1:=HS.out
   have h2:=HLE.out
   have hx:=(hrw.out wr hbw.out).1.eachS _ (List.getElem_mem hkl)
   have hzx:=HZ.out.eachS _ (List.getElem_mem hkl)
   have hnn:0≤sumS sl (k+1)-sumS sl k:=by
    have:=sumB_mono (sl[k]'hkl).snaps.l (sl[k]'hkl).snaps.l.length
    rw [hss]
    unfold setSum
    omega
   obtain ⟨x,hxx⟩:∃ x,x=sl[k]'hkl:=⟨_,rfl⟩
   simp only [← hxx] at q0 q1 q2 q3 q4 hx hzx hss
   have hc:=rset14c_any x wr B (hrw.out wr hbw.out).2 hx hzx (by omega)
   obtain ⟨S1,hS1⟩:∃ S:Int,S=sumS sl k:=⟨_,rfl⟩
   obtain ⟨X1,hX1⟩:∃ S:Int,S=setSum x:=⟨_,rfl⟩
   obtain ⟨S3,hS3⟩:∃ S:Int,S=S1+X1:=⟨_,rfl⟩
   have hwa:IntKind.i64.wrap (S1+X1)=S3:=by rw [IntKind.wrap_i64];omega
   have HN:Hid (S3=sumS sl (k+1)):=by show _=_;omega
   rw [← hS1]
   rw [← hX1] at hc
   obtain ⟨pa,og,⟨bA,bn,bc,bl⟩,⟨zA,zn,zc,zl⟩,⟨oA,on,oc,ol⟩⟩:=x
   simp only at q0 q1 q2 q3 q4
   have hc:Calls Tryz.prog 76 #[.agg #[.string ⟨pa.toArray⟩,.string ⟨og.toArray⟩,.slice bA bn bc,.slice zA zn zc,.slice oA on oc]] wr _:=hc
   subst hsa
   clear hss hbd hbd2 hbg h1 h2 hS1 hS3 hX1 hx hzx hxx hnn e5
   go_wp2_with fail
   refine hc.mono ?_
   clear hc q0 q1 q2 q3 q4 e3
   rintro e w3 ⟨rfl,hb⟩
   have HW3:=Lib.hid (hbw.out.trans (hb.mono hbw.out.size))
   clear hb
   go_wp2_with fail
   go_roundw
   case rel=>exact ⟨k+1,by omega,by rw [HN.out],by go_num,HW3⟩
   case measure=>simp [intOf];omega
  ·have hkn:k=sn:=by omega
   have HU:Hid (sumS sl k=sumS sl sl.length):=by show _=_;rw [hkn,HSN.out]
   rw [HU.out]
   clear hkn
   obtain ⟨S0,hS0⟩:∃ S:Int,S=sumS sl sl.length:=⟨_,rfl⟩
   rw [← hS0]
   have HS0:=Lib.hid hS0
   have h00:=HM.out sl.length
   have HS00:Hid (0≤S0):=by show 0≤S0;omega
   have HW0:=hbw
   obtain ⟨wo,hwo⟩:∃ W,W=wr:=⟨_,rfl⟩
   subst hwo
   clear hS0 h00 hk HU hbw
   go_wp2_with fail
   go_loopw [3,5] (fun a j wr=>∃ k:Nat,k≤tn∧a=.int .i64 (S0+sumG tl k)∧j=.int .i64 (k:Int)∧Hid (Below W1.heap.size W1 wr)) (fun _ j _=>tn-(intOf j).toNat)
   case atStart=>exact ⟨0,Nat.zero_le _,by simp [sumG],rfl,HW0⟩
   case round =>
    clear e3 e5
    obtain ⟨k,hk,rfl,rfl,hbw⟩:=hrel
    have kk:=hKt.out wr hbw.out
    have e5:=kk.cell 5
    simp only [zF,zD,zE] at e5
    clear kk
    by_cases hlt:k<tn
    ·have hki:(k:Int)<(tn:Int):=by omega
     have hk0:(0:Int)≤(k:Int):=by omega
     have hkl:k<tl.length:=by have:=HTN.out;omega
     obtain ⟨ad,hsa,_,hel⟩:=Reads.elK (k:=21) (enc:=encStage) (fun _=>rfl) (hrw.out wr hbw.out).1.stages.2.2 HTN.out hlt
     simp only at hsa
     subst hsa
     have hsz:=(HZ.out.eachT _ (List.getElem_mem hkl)).body
     have q13:wr.cell? ⟨(ad.add (k*21)).block,(ad.add (k*21)).off+13,none⟩=some (.slice (tl[k]'hkl).body.A (tl[k]'hkl).body.n (tl[k]'hkl).body.c):=by
      have h:=hel 13 (by decide)
      rw [addr_add_succ] at h
      exact h
     have hss:=sumG_succ tl k hkl
     have hbd:=HG.out k
     have hbd2:=HG.out (k+1)
     have h1:=HS.out
     have h2:=HLE.out
     have h3:=HS0.out
     have h4:=HS00.out
     obtain ⟨y,hy⟩:∃ y,y=tl[k]'hkl:=⟨_,rfl⟩
     simp only [← hy] at q13 hsz hss
     obtain ⟨b1,hb1⟩:∃ b,b=y.body.A:=⟨_,rfl⟩
     obtain ⟨bn,hbn⟩:∃ b,b=y.body.n:=⟨_,rfl⟩
     obtain ⟨b3,hb3⟩:∃ b,b=y.body.c:=⟨_,rfl⟩
     rw [← hb1,← hbn,← hb3] at q13
     rw [← hbn] at hsz hss
     obtain ⟨S1,hS1⟩:∃ S:Int,S=S0+sumG tl k:=⟨_,rfl⟩
     obtain ⟨S2,hS2⟩:∃ S:Int,S=S1+1:=⟨_,rfl⟩
     obtain ⟨S3,hS3⟩:∃ S:Int,S=S2+(bn:Int):=⟨_,rfl⟩
     have hwa:IntKind.i64.wrap (S1+1)=S2:=by rw [IntKind.wrap_i64];omega
     have hwb:IntKind.i64.wrap (S2+(bn:Int))=S3:=by rw [IntKind.wrap_i64];omega
     rw [← hS1]
     have HN:Hid (S3=S0+sumG tl (k+1)):=by show _=_;omega
     clear hsz hss hbd hbd2 h1 h2 h3 h4 hS1 hS2 hS3 hy hb1 hbn hb3 hel
     go_wp2_with fail
     go_roundw
     case rel=>exact ⟨k+1,by omega,by rw [HN.out],by go_num,hbw⟩
     case measure=>simp [intOf];omega
    ·have hkn:k=tn:=by omega
     have HU:Hid (S0+sumG tl k=U):=by show _=_;rw [hkn,HTN.out,HS.out,HS0.out]
     rw [HU.out]
     clear hkn
     go_wp2_with fail
     go_ret
     exact ⟨rfl,hBW.out _ hbw.out⟩
end Go.Proofs.YtcgclpcocdappaaGreatDoor
namespace Go.Proofs.YtcgclpcocdappaaGreatDoor
open Go.RowKit
/-! ### the plain law's words -/
theorem okFrom_asc (p:Option Int) (l:BL) (h:okFrom p l=true):Asc l∧∀ q,p=some q→∀ x∈l,q<x.1:=by
 induction l generalizing p with
 | nil=>exact ⟨fun i j x y _ h=>by simp at h,fun _ _ x hx=>by simp at hx⟩
 | cons z r ih =>
  simp only [okFrom,Bool.and_eq_true] at h
  obtain ⟨⟨_,h4⟩,h5⟩:=h
  obtain ⟨i1,i2⟩:=ih _ h5
  have i3:=i2 z.1 rfl
  refine ⟨fun i j x y hij hx hy=>?_,fun q hq x hx=>?_⟩
  ·cases j with
   | zero=>omega
   | succ j =>
    cases i with
    | zero =>
     cases hx
     exact i3 y (List.mem_of_getElem? (by simpa using hy))
    | succ i=>exact i1 i j x y (by omega) (by simpa using hx) (by simpa using hy)
  ·subst hq
   have h6:q<z.1:=by simpa using h4
   rcases List.mem_cons.1 hx with rfl | hx
   ·exact h6
   ·have:=i3 x hx
    omega
theorem okL_asc (l:BL) (h:okL l=true):Asc l:=(okFrom_asc none l h).1
def putE (l:BL) (i:Int) (d:List UInt8):Int:=if okL l=true then (if 0≤i∧i<1024 then (if d.length=16 then 0 else 5) else 4) else 9
def PutPost (w:World) (l:BL) (i:Int) (d:List UInt8) (e:Ending) (w':World):Prop :=
 ∃ v,e=.returned (.tuple #[v,.int .i64 (putE l i d)])∧(if putE l i d=0 then w'.ownsRow w.heap.size 75 2 v (putL11 l i d).length (bcells (putL11 l i d)) else v=.slice none 0 0)∧Below w.heap.size w w'
theorem bcells_one (l:BL):∀ u∈bcells l,u.oneCell'=true:=by
 intro u hu
 simp only [bcells,List.mem_flatMap] at hu
 obtain ⟨x,_,hx⟩:=hu
 rcases List.mem_cons.1 hx with rfl | hx
 ·rfl
 ·rcases List.mem_cons.1 hx with rfl | hx
  ·rfl
  ·cases hx
theorem bcells_drop (l:BL) (k:Nat):bcells (l.drop k)=(bcells l).drop (k*2):=cellsK_drop (enc:=fun x:Int×List UInt8=>[.int .i64 x.1,.string ⟨x.2.toArray⟩]) (fun _=>rfl) l k
end Go.Proofs.YtcgclpcocdappaaGreatDoor
namespace Go.Proofs.YtcgclpcocdappaaGreatDoor
open Go.RowKit
theorem Tryz.infoB:(Tryz.prog.info? 75).map (fun i=>(i.zero,i.size,i.bytes))=some (some (.agg #[.int .i64 0,.string ByteArray.empty]),2,24):=by kernel_rfl
theorem okFrom_small (p:Int) (l:BL) (hp:-1≤p) (h:okFrom (some p) l=true):(l.length:Int)+p<1024∨l=[]:=by
 induction l generalizing p with
 | nil=>exact .inr rfl
 | cons x l ih =>
  simp only [okFrom,Bool.and_eq_true,decide_eq_true_eq] at h
  obtain ⟨⟨⟨⟨h1,h2⟩,_⟩,h4⟩,h5⟩:=h
  left
  rcases ih x.1 (by omega) h5 with h | rfl
  ·rw [List.length_cons];omega
  ·simp;omega
theorem okL_small (l:BL) (h:okL l=true):l.length≤1024:=by
 cases l with
 | nil=>simp
 | cons x l =>
  unfold okL at h
  simp only [okFrom,Bool.and_eq_true,decide_eq_true_eq] at h
  obtain ⟨⟨⟨⟨h1,h2⟩,_⟩,_⟩,h5⟩:=h
  rcases okFrom_small x.1 l (by omega) h5 with h | rfl
  ·rw [List.length_cons];omega
  ·simp
end Go.Proofs.YtcgclpcocdappaaGreatDoor
namespace Go.Proofs.YtcgclpcocdappaaGreatDoor
open Go.RowKit
theorem bcells_append (a b:BL):bcells (a++b)=bcells a++bcells b:=by simp [bcells]
/-! ### Check -/
end Go.Proofs.YtcgclpcocdappaaGreatDoor
namespace Go.Proofs.YtcgclpcocdappaaGreatDoor
open Go.RowKit
set_option maxRecDepth 100000 in
set_option maxHeartbeats 2000000 in
theorem rcheck_any (l:BL) (n:Nat) (hnl:n=l.length) (A:Option Addr) (c:Nat) (w:World) (B:Nat) (hr:Reads w B 2 A n (bcells l)) (hB:B≤w.heap.size) (hn:n≤140737488351232) :
  Calls Tryz.prog 117 #[.slice A n c] w (CheckBk w (okE l)):=by
 have HN:=Lib.hid hnl
 clear hnl
 go_enter Tryz.func117,Tryz.ntmps117
 go_wp2_with fail
 go_loopw [3] (fun j wr=>∃ k:Nat,k≤n∧j=.int .i64 (k:Int)∧Hid (okL l=okFrom (prevAt l k) (l.drop k))∧Below w.heap.size w wr) (fun j _=>n-(intOf j).toNat)
 case atStart=>exact ⟨0,Nat.zero_le _,rfl,rfl,Below.refl _ _⟩
 case round =>
  obtain ⟨k,hk,rfl,hok,hbw⟩:=hrel
  by_cases hlt:k<n
  ·have hrw:=hr.below (hbw.mono hB)
   obtain ⟨ad,rfl,hadB,c0,c1⟩:=hrw.blk2 HN.out hlt
   have hki:(k:Int)<(n:Int):=by omega
   have hkl:k<l.length:=by have:=HN.out;omega
   obtain ⟨x,hx⟩:∃ x,x=l[k]'hkl:=⟨_,rfl⟩
   rw [← hx] at c0 c1
   have hdr:=List.drop_eq_getElem_cons hkl
   rw [← hx] at hdr
   have HX:=Lib.hid hx
   have HDR:=Lib.hid hdr
   obtain ⟨xi,xs⟩:=x
   simp only at c0 c1
   have hbad:Hid ((xi<0∨1024≤xi∨xs.length≠16∨(∃ y,prevAt l k=some y∧xi≤y))→okE l=9):=by
    intro h
    have hf:okL l=false:=by
     rw [hok.out,HDR.out]
     cases hfv:okFrom (prevAt l k) ((xi,xs) :: l.drop (k+1)) with
     | false=>rfl
     | true =>
      exfalso
      simp only [okFrom,Bool.and_eq_true,decide_eq_true_eq] at hfv
      obtain ⟨⟨⟨⟨h1,h2⟩,h3⟩,h4⟩,_⟩:=hfv
      rcases h with h | h | h | ⟨y,hy,h⟩
      ·omega
      ·omega
      ·exact h h3
      ·rw [hy] at h4;simp at h4;omega
    unfold okE
    rw [hf]
    rfl
   have hgood:Hid ((0≤xi∧xi<1024∧xs.length=16∧(∀ y,prevAt l k=some y→y<xi))→okL l=okFrom (prevAt l (k+1)) (l.drop (k+1))):=by
    rintro ⟨h1,h2,h3,h4⟩
    rw [hok.out,HDR.out]
    have hp:prevAt l (k+1)=some xi:=by
     show (l[k]?).map (·.1)=_
     rw [List.getElem?_eq_getElem hkl,← HX.out]
     rfl
    rw [hp]
    simp only [okFrom,h1,h2,h3,decide_true,Bool.true_and]
    cases hq:prevAt l k with
    | none=>rfl
    | some y=>simp [h4 y hq]
   clear hx hdr hok
   by_cases g1:xi<0
   ·have HB:=Lib.hid (hbad.out (.inl g1))
    clear hr hrw hbad hgood
    go_wp2_with fail
    go_big_quiet (fail)
    go_wp2_with fail
    go_ret
    exact ⟨by rw [HB.out];rfl,below_drewN hbw nq⟩
   by_cases g2:1024≤xi
   ·have HB:=Lib.hid (hbad.out (.inr (.inl g2)))
    have d1:decide (xi<0)=false:=by simp;omega
    have d2:decide (1024≤xi)=true:=by simp;omega
    clear hr hrw hbad hgood g1 g2
    go_wp2_with fail
    go_big_quiet (fail)
    go_wp2_with fail
    go_ret
    exact ⟨by rw [HB.out];rfl,below_drewN hbw nq⟩
   by_cases g3:xs.length=16
   ·have g1':0≤xi:=by omega
    have g2':xi<1024:=by omega
    have g3a:((xs.length:Int) == 16)=true:=by simp [g3]
    have g3b:((xs.length:Int) != 16)=false:=by simp [g3]
    have d1:decide (xi<0)=false:=by simp;omega
    have d2:decide (1024≤xi)=false:=by simp;omega
    rcases Nat.eq_zero_or_pos k with h0 | h0
    ·have HG:=Lib.hid (hgood.out ⟨g1',g2',g3,fun y hy=>by subst h0;cases hy⟩)
     have d4:decide ((0:Int)<(k:Int))=false:=by simp;omega
     have d4':decide (0<k)=false:=by simp;omega
     have H0:=Lib.hid h0
     clear hr hrw hbad hgood g1 g2 g3 h0
     go_wp2_with fail
     go_big_quiet (fail)
     go_wp2_with fail
     go_roundw
     case rel=>exact ⟨k+1,by omega,by go_num,HG,below_drewN hbw nq⟩
     case measure=>simp [intOf];omega
    ·have d4:decide ((0:Int)<(k:Int))=true:=by simp;omega
     have d4':decide (0<k)=true:=by simp;omega
     have hk1l:k-1<l.length:=by omega
     obtain ⟨y,hy⟩:∃ y,y=(l[k-1]'hk1l).1:=⟨_,rfl⟩
     have hpv:prevAt l k=some y:=by
      obtain ⟨j,rfl⟩:∃ j,k=j+1:=⟨k-1,by omega⟩
      show (l[j]?).map (·.1)=_
      have hj:j<l.length:=by simpa using hk1l
      rw [List.getElem?_eq_getElem hj,hy]
      rfl
     have hcp:=(hrw.blk2 HN.out (k:=k-1) (by omega))
     obtain ⟨ad2,e2,-,c2,-⟩:=hcp
     injection e2 with e2
     subst e2
     rw [← hy] at c2
     have i1:(0:Int)≤(k:Int)-1:=by omega
     have i2:(k:Int)-1<(n:Int):=by omega
     have i3:IntKind.i64.wrap ((k:Int)-1)=(k:Int)-1:=IntWalk.i64_in _ (by omega)
     have i4:((k:Int)-1).toNat=k-1:=by omega
     by_cases g5:y<xi
     ·have HG:=Lib.hid (hgood.out ⟨g1',g2',g3,fun y' hy'=>by rw [hpv] at hy';cases hy';exact g5⟩)
      have d5:decide (xi≤y)=false:=by simp;omega
      clear hr hrw hbad hgood g1 g2 g3 h0 hpv hy g5
      go_wp2_with fail
      go_big_quiet (fail)
      clear i3 i4
      go_wp2_with fail
      go_roundw
      case rel=>exact ⟨k+1,by omega,by go_num,HG,below_drewN hbw nq⟩
      case measure=>simp [intOf];omega
     ·have HB:=Lib.hid (hbad.out (.inr (.inr (.inr ⟨y,hpv,by omega⟩))))
      have d5:decide (xi≤y)=true:=by simp;omega
      clear hr hrw hbad hgood g1 g2 g3 h0 hpv hy g5
      go_wp2_with fail
      go_big_quiet (fail)
      clear i3 i4
      go_wp2_with fail
      go_ret
      exact ⟨by rw [HB.out];rfl,below_drewN hbw nq⟩
   ·have g3a:((xs.length:Int) == 16)=false:=by simp;omega
    have g3b:((xs.length:Int) != 16)=true:=by simp;omega
    have g1':0≤xi:=by omega
    have g2':xi<1024:=by omega
    have HB:=Lib.hid (hbad.out (.inr (.inr (.inl g3))))
    have d1:decide (xi<0)=false:=by simp;omega
    have d2:decide (1024≤xi)=false:=by simp;omega
    clear hr hrw hbad hgood g1 g2 g3
    go_wp2_with fail
    go_big_quiet (fail)
    go_wp2_with fail
    go_ret
    exact ⟨by rw [HB.out];rfl,below_drewN hbw nq⟩
  ·obtain rfl:k=n:=by omega
   have HF:Hid (okE l=0):=by
    show _=_
    unfold okE
    rw [hok.out,List.drop_of_length_le (by rw [HN.out];exact Nat.le_refl _)]
    rfl
   clear hok hr
   go_wp2_with fail
   go_ret
   exact ⟨by rw [HF.out];rfl,hbw⟩
theorem posF_at (l:BL) (t:Int) (k:Nat) (hk:k≤l.length) (h1:∀ x∈l.take k,x.1<t) (h2:∀ x,l[k]?=some x→t≤x.1):posF (cfB t) l=k:=by
 refine posF_eq (cfB t) l k hk (fun j x hj hx=>?_) (fun x hx=>?_)
 ·unfold cfB
  rw [cmpI_neg]
  exact h1 x (List.mem_of_getElem? (by rw [List.getElem?_take,if_pos hj];exact hx))
 ·have:=h2 x hx
  have h3:=cmpI_neg x.1 t
  unfold cfB
  rcases Int.lt_or_le (cmpI x.1 t) 0 with h | h
  ·have:=h3.1 h;omega
  ·exact h
theorem atF_at (l:BL) (t:Int) (k:Nat) (hp:posF (cfB t) l=k) (x:Int×List UInt8) (hx:l[k]?=some x):atF (cfB t) l=(x.1 == t):=by
 unfold atF
 rw [hp,hx]
 show (cmpI x.1 t == 0)=_
 rw [Bool.eq_iff_iff]
 simp [cmpI_zero]
theorem atF_end (l:BL) (t:Int) (k:Nat) (hp:posF (cfB t) l=k) (hx:l.length≤k):atF (cfB t) l=false:=by
 unfold atF
 rw [hp,List.getElem?_eq_none hx]
 rfl
set_option maxRecDepth 100000 in
set_option maxHeartbeats 2000000 in
theorem rput2_any (l:BL) (n:Nat) (hnl:n=l.length) (A:Option Addr) (c:Nat) (hnc:n≤c) (i:Int) (d:List UInt8) (w:World) (B:Nat) (hr:Reads w B 2 A n (bcells l)) (hB:B≤w.heap.size) (hn:n≤5000000000000) :
  Calls Tryz.prog 50 #[.slice A n c,.int .i64 i,.string ⟨d.toArray⟩] w (PutPost w l i d):=by
 have hck:=rcheck_any l n hnl A c w B hr hB (by omega)
 by_cases hok:okL l=true
 ·have h1:okE l=0:=by unfold okE;rw [if_pos hok]
  rw [h1] at hck
  by_cases hi:0≤i∧i<1024
  ·obtain ⟨hi1,hi2⟩:=hi
   by_cases hdl:d.length=16
   ·have hpe:putE l i d=0:=by unfold putE;rw [if_pos hok,if_pos ⟨hi1,hi2⟩,if_pos hdl]
    have hs:=okL_small l hok
    obtain ⟨i0,hi0,hz0,hz1,hz2⟩:=info_parts Tryz.infoB
    have HPE:=Lib.hid hpe
    have HASC:=Lib.hid (okL_asc l hok)
    have HN:=Lib.hid hnl
    have g3a:((d.length:Int) == 16)=true:=by simp [hdl]
    have g3b:((d.length:Int) != 16)=false:=by simp [hdl]
    have hn1:n≤1024:=by omega
    clear hnl hdl hpe h1 hok hs
    go_enter Tryz.func50,Tryz.ntmps50
    go_wp2_with fail
    refine hck.mono ?_
    clear hck
    rintro e w1 ⟨rfl,hb1⟩
    go_wp2_with fail
    clear g3a g3b
    go_loopw [8,9] (fun v j wr=>∃ k:Nat,k≤n∧j=.int .i64 (k:Int)∧Hid (∀ x∈l.take k,x.1<i)∧wr.ownsRow w1.heap.size 75 2 v k (bcells (l.take k))∧Below w.heap.size w wr∧Below w1.heap.size w1 wr) (fun _ j _=>n-(intOf j).toNat)
    case atStart=>exact ⟨0,Nat.zero_le _,rfl,(show ∀ x∈_,_ by simp),World.ownsRow_nil _ _ _ _,hb1,Below.refl _ _⟩
    case round =>
     obtain ⟨k,hk,rfl,hlt,hown,hbw,hbw1⟩:=hrel
     have hsz:=hbw.size
     have hsz1:=hbw1.size
     obtain ⟨A1,c1,rfl,_,_,_⟩:=own_form hown
     by_cases hkn:k<n
     ·have hrw:=hr.below (hbw.mono hB)
      obtain ⟨ad,rfl,hadB,e0,e1⟩:=hrw.blk2 HN.out hkn
      have hkl:k<l.length:=by have:=HN.out;omega
      obtain ⟨x,hx⟩:∃ x,x=l[k]'hkl:=⟨_,rfl⟩
      rw [← hx] at e0 e1
      have htk:=List.take_succ_eq_append_getElem hkl
      rw [← hx] at htk
      have HX:=Lib.hid (show l[k]?=some x by rw [hx];exact List.getElem?_eq_getElem _)
      have HTK:=Lib.hid htk
      obtain ⟨xi,xs⟩:=x
      simp only at e0 e1
      have hki:(k:Int)<(n:Int):=by omega
      clear hx htk
      by_cases hxi:xi<i
      ·have HLT:Hid (∀ x∈l.take (k+1),x.1<i):=by
        intro x hx
        rw [HTK.out,List.mem_append] at hx
        rcases hx with hx | hx
        ·exact hlt.out x hx
        ·simp at hx;subst hx;exact hxi
       have hpush:=hown
       clear hlt hrw hr
       go_wp2_with (at_builtin;(refine wpList_push _ rfl (.tmp 35) (.tmp 40) 38 rfl w1.heap.size 75 i0 (.agg #[.int .i64 0,.string ByteArray.empty]) 2 24 Tryz.underlying38 hi0 hz0 hz1 hz2 rfl (by decide) (.slice A1 k c1) k (bcells (l.take k)) rfl hpush 1 #[.int .i64 xi,.string ⟨xs.toArray⟩] 75 rfl rfl (by simp [Value.oneCell']) (by unfold maxLen;omega) (by omega) hsz1 ?_);intro v2 w2 hown2 hb2 hg2)
       go_roundw
       case rel =>
        refine ⟨k+1,by omega,by go_num,HLT,?_,hbw.trans (hb2.mono hb1.size),hbw1.trans hb2⟩
        rw [HTK.out,bcells_append]
        exact hown2
       case measure=>simp [intOf];omega
      ·have hle:i≤xi:=by omega
       have hadw:(ad.add (k*2)).block<w1.heap.size:=by rw [block_of_add];have:=hb1.size;omega
       have hbE:=Lib.hid (fun w2 (hb2:Below w1.heap.size wr w2)=>hb2.cell (p:=ad.add (k*2)) hadw)
       have hpos:=posF_at l i k (by omega) hlt.out (fun x hx=>by have:=HX.out;rw [hx] at this;cases this;exact hle)
       have hatk:=atF_at l i k hpos (xi,xs) HX.out
       by_cases hxe:xi=i
       ·have HFIN:Hid (putL11 l i d=l.take k++[(i,d)]++l.drop (k+1)):=by
         show _=_
         unfold putL11
         rw [hpos,hatk,if_pos (by simp [hxe])]
        obtain rfl:i=xi:=hxe.symm
        clear hlt hrw hpos hatk hle hxi hxe
        by_cases hcj:c=k+1
        ·have hrest:=fun w2 (hb2:Below w1.heap.size w1 w2)=>(hr.below ((hb1.trans (hb2.mono hb1.size)).mono hB)).cut (k:=k+1) (by omega) hnc
         simp only [if_pos hcj] at hrest
         clear hr
         go_wp2_with (first
          | (at_builtin;(refine wpList_push _ rfl (.tmp 44) (.tmp 48) 38 rfl w1.heap.size 75 i0 (.agg #[.int .i64 0,.string ByteArray.empty]) 2 24 Tryz.underlying38 hi0 hz0 hz1 hz2 rfl (by decide) (.slice A1 k c1) k (bcells (l.take k)) rfl hown 1 #[.int .i64 i,.string ⟨d.toArray⟩] 75 rfl rfl (by simp [Value.oneCell']) (by unfold maxLen;omega) (by omega) hsz1 ?_);intro v2 w2 hown2 hb2 hg2;have hbw2:=hbw1.trans hb2;have hrest2:=hrest w2 hbw2;  have e0b:=(hbE.out w2 hb2).trans e0;clear e0;clear hrest;obtain ⟨A2,c2,rfl,_,_,_⟩:=own_form hown2)
          | (at_builtin;(refine wpList_append_any _ rfl (.tmp 65) (.tmp 68) _ rfl w1.heap.size 75 i0 _ 2 24 Tryz.underlying38 hi0 hz0 hz1 hz2 rfl (by omega) (.slice A2 (k+1) c2) (k+1) _ rfl hown2 B _ _ _ _ rfl hrest2 (fun u hu=>bcells_one l u (List.mem_of_mem_drop hu)) (by unfold maxLen;omega) (by omega) hbw2.size ?_);intro v3 w3 hown3 hg3 _))
         go_ret2
         refine ⟨v3,by rw [HPE.out];rfl,?_,hb1.trans (hbw2.mono hb1.size) |>.grown hg3 (by have:=hbw2.size;have:=hb1.size;omega) (fun r hr=>by have:=(hown2.lt r hr).1;have:=hb1.size;omega)⟩
         rw [if_pos HPE.out,HFIN.out]
         have e:(l.take k++[(i,d)]++l.drop (k+1)).length=k+1+(n-(k+1)):=by simp only [List.length_append,List.length_take,List.length_drop,List.length_cons,List.length_nil];have:=HN.out;omega
         rw [e,bcells_append,bcells_append,bcells_drop]
         exact own_mono hown3 hb1.size
        ·have hrest:=fun w2 (hb2:Below w1.heap.size w1 w2)=>(hr.below ((hb1.trans (hb2.mono hb1.size)).mono hB)).cut (k:=k+1) (by omega) hnc
         simp only [if_neg hcj] at hrest
         clear hr
         go_wp2_with (first
          | (at_builtin;(refine wpList_push _ rfl (.tmp 44) (.tmp 48) 38 rfl w1.heap.size 75 i0 (.agg #[.int .i64 0,.string ByteArray.empty]) 2 24 Tryz.underlying38 hi0 hz0 hz1 hz2 rfl (by decide) (.slice A1 k c1) k (bcells (l.take k)) rfl hown 1 #[.int .i64 i,.string ⟨d.toArray⟩] 75 rfl rfl (by simp [Value.oneCell']) (by unfold maxLen;omega) (by omega) hsz1 ?_);intro v2 w2 hown2 hb2 hg2;have hbw2:=hbw1.trans hb2;have hrest2:=hrest w2 hbw2;  have e0b:=(hbE.out w2 hb2).trans e0;clear e0;clear hrest;obtain ⟨A2,c2,rfl,_,_,_⟩:=own_form hown2)
          | (at_builtin;(refine wpList_append_any _ rfl (.tmp 65) (.tmp 68) _ rfl w1.heap.size 75 i0 _ 2 24 Tryz.underlying38 hi0 hz0 hz1 hz2 rfl (by omega) (.slice A2 (k+1) c2) (k+1) _ rfl hown2 B _ _ _ _ rfl hrest2 (fun u hu=>bcells_one l u (List.mem_of_mem_drop hu)) (by unfold maxLen;omega) (by omega) hbw2.size ?_);intro v3 w3 hown3 hg3 _))
         go_ret2
         refine ⟨v3,by rw [HPE.out];rfl,?_,hb1.trans (hbw2.mono hb1.size) |>.grown hg3 (by have:=hbw2.size;have:=hb1.size;omega) (fun r hr=>by have:=(hown2.lt r hr).1;have:=hb1.size;omega)⟩
         rw [if_pos HPE.out,HFIN.out]
         have e:(l.take k++[(i,d)]++l.drop (k+1)).length=k+1+(n-(k+1)):=by simp only [List.length_append,List.length_take,List.length_drop,List.length_cons,List.length_nil];have:=HN.out;omega
         rw [e,bcells_append,bcells_append,bcells_drop]
         exact own_mono hown3 hb1.size
       ·have HFIN:Hid (putL11 l i d=l.take k++[(i,d)]++l.drop k):=by
         show _=_
         unfold putL11
         rw [hpos,hatk,if_neg (by simp [hxe])]
         rfl
        have hxb:(xi == i)=false:=by simp [hxe]
        clear hlt hrw hpos hatk hxe
        by_cases hcj:c=k
        ·omega
        ·have hrest:=fun w2 (hb2:Below w1.heap.size w1 w2)=>(hr.below ((hb1.trans (hb2.mono hb1.size)).mono hB)).cut (k:=k) (by omega) hnc
         simp only [if_neg hcj] at hrest
         clear hr
         go_wp2_with (first
          | (at_builtin;(refine wpList_push _ rfl (.tmp 44) (.tmp 48) 38 rfl w1.heap.size 75 i0 (.agg #[.int .i64 0,.string ByteArray.empty]) 2 24 Tryz.underlying38 hi0 hz0 hz1 hz2 rfl (by decide) (.slice A1 k c1) k (bcells (l.take k)) rfl hown 1 #[.int .i64 i,.string ⟨d.toArray⟩] 75 rfl rfl (by simp [Value.oneCell']) (by unfold maxLen;omega) (by omega) hsz1 ?_);intro v2 w2 hown2 hb2 hg2;have hbw2:=hbw1.trans hb2;have hrest2:=hrest w2 hbw2;  have e0b:=(hbE.out w2 hb2).trans e0;clear e0;clear hrest;obtain ⟨A2,c2,rfl,_,_,_⟩:=own_form hown2)
          | (at_builtin;(refine wpList_append_any _ rfl (.tmp 65) (.tmp 68) _ rfl w1.heap.size 75 i0 _ 2 24 Tryz.underlying38 hi0 hz0 hz1 hz2 rfl (by omega) (.slice A2 (k+1) c2) (k+1) _ rfl hown2 B _ _ _ _ rfl hrest2 (fun u hu=>bcells_one l u (List.mem_of_mem_drop hu)) (by unfold maxLen;omega) (by omega) hbw2.size ?_);intro v3 w3 hown3 hg3 _))
         go_ret2
         refine ⟨v3,by rw [HPE.out];rfl,?_,hb1.trans (hbw2.mono hb1.size) |>.grown hg3 (by have:=hbw2.size;have:=hb1.size;omega) (fun r hr=>by have:=(hown2.lt r hr).1;have:=hb1.size;omega)⟩
         rw [if_pos HPE.out,HFIN.out]
         have e:(l.take k++[(i,d)]++l.drop (k)).length=k+1+(n-(k)):=by simp only [List.length_append,List.length_take,List.length_drop,List.length_cons,List.length_nil];have:=HN.out;omega
         rw [e,bcells_append,bcells_append,bcells_drop]
         exact own_mono hown3 hb1.size
     ·have hnk:n≤k:=by omega
      have hpos:=posF_at l i k (by have:=HN.out;omega) hlt.out (fun x hx=>by rw [List.getElem?_eq_none (by have:=HN.out;omega)] at hx;cases hx)
      have hatk:=atF_end l i k hpos (by have:=HN.out;omega)
      have HFIN:Hid (putL11 l i d=l.take k++[(i,d)]++l.drop k):=by
       show _=_
       unfold putL11
       rw [hpos,hatk,if_neg (by simp)]
       rfl
      clear hlt hpos hatk
      by_cases hcj:c=k
      ·clear hr
       go_wp2_with (first
        | (at_builtin;(refine wpList_push _ rfl (.tmp 44) (.tmp 48) 38 rfl w1.heap.size 75 i0 (.agg #[.int .i64 0,.string ByteArray.empty]) 2 24 Tryz.underlying38 hi0 hz0 hz1 hz2 rfl (by decide) (.slice A1 k c1) k (bcells (l.take k)) rfl hown 1 #[.int .i64 i,.string ⟨d.toArray⟩] 75 rfl rfl (by simp [Value.oneCell']) (by unfold maxLen;omega) (by omega) hsz1 ?_);intro v2 w2 hown2 hb2 hg2;have hbw2:=hbw1.trans hb2;have hrest2:∀ A',Reads w2 B 2 A' 0 ([]:List Value):=fun A'=>⟨rfl,fun h=>absurd h (by omega)⟩;obtain ⟨A2,c2,rfl,_,_,_⟩:=own_form hown2)
        | (at_builtin;(refine wpList_append_any _ rfl (.tmp 65) (.tmp 68) _ rfl w1.heap.size 75 i0 _ 2 24 Tryz.underlying38 hi0 hz0 hz1 hz2 rfl (by omega) (.slice A2 (k+1) c2) (k+1) _ rfl hown2 B _ 0 _ [] rfl (hrest2 _) (fun u hu=>by cases hu) (by unfold maxLen;omega) (by omega) hbw2.size ?_);intro v3 w3 hown3 hg3 _))
       go_ret2
       refine ⟨v3,by rw [HPE.out];rfl,?_,hb1.trans (hbw2.mono hb1.size) |>.grown hg3 (by have:=hbw2.size;have:=hb1.size;omega) (fun r hr=>by have:=(hown2.lt r hr).1;have:=hb1.size;omega)⟩
       rw [if_pos HPE.out,HFIN.out]
       have e:(l.take k++[(i,d)]++l.drop k).length=k+1+0:=by simp only [List.length_append,List.length_take,List.length_drop,List.length_cons,List.length_nil];have:=HN.out;omega
       have e2:bcells (l.drop k)=[]:=by rw [List.drop_eq_nil_of_le (by have:=HN.out;omega)];rfl
       rw [e,bcells_append,bcells_append,e2]
       exact own_mono hown3 hb1.size
      ·clear hr
       go_wp2_with (first
        | (at_builtin;(refine wpList_push _ rfl (.tmp 44) (.tmp 48) 38 rfl w1.heap.size 75 i0 (.agg #[.int .i64 0,.string ByteArray.empty]) 2 24 Tryz.underlying38 hi0 hz0 hz1 hz2 rfl (by decide) (.slice A1 k c1) k (bcells (l.take k)) rfl hown 1 #[.int .i64 i,.string ⟨d.toArray⟩] 75 rfl rfl (by simp [Value.oneCell']) (by unfold maxLen;omega) (by omega) hsz1 ?_);intro v2 w2 hown2 hb2 hg2;have hbw2:=hbw1.trans hb2;have hrest2:∀ A',Reads w2 B 2 A' 0 ([]:List Value):=fun A'=>⟨rfl,fun h=>absurd h (by omega)⟩;obtain ⟨A2,c2,rfl,_,_,_⟩:=own_form hown2)
        | (at_builtin;(refine wpList_append_any _ rfl (.tmp 65) (.tmp 68) _ rfl w1.heap.size 75 i0 _ 2 24 Tryz.underlying38 hi0 hz0 hz1 hz2 rfl (by omega) (.slice A2 (k+1) c2) (k+1) _ rfl hown2 B _ 0 _ [] rfl (hrest2 _) (fun u hu=>by cases hu) (by unfold maxLen;omega) (by omega) hbw2.size ?_);intro v3 w3 hown3 hg3 _))
       go_ret2
       refine ⟨v3,by rw [HPE.out];rfl,?_,hb1.trans (hbw2.mono hb1.size) |>.grown hg3 (by have:=hbw2.size;have:=hb1.size;omega) (fun r hr=>by have:=(hown2.lt r hr).1;have:=hb1.size;omega)⟩
       rw [if_pos HPE.out,HFIN.out]
       have e:(l.take k++[(i,d)]++l.drop k).length=k+1+0:=by simp only [List.length_append,List.length_take,List.length_drop,List.length_cons,List.length_nil];have:=HN.out;omega
       have e2:bcells (l.drop k)=[]:=by rw [List.drop_eq_nil_of_le (by have:=HN.out;omega)];rfl
       rw [e,bcells_append,bcells_append,e2]
       exact own_mono hown3 hb1.size
   ·have hpe:putE l i d=5:=by unfold putE;rw [if_pos hok,if_pos ⟨hi1,hi2⟩,if_neg hdl]
    have g3a:((d.length:Int) == 16)=false:=by simp;omega
    have g3b:((d.length:Int) != 16)=true:=by simp;omega
    have HPE:=Lib.hid hpe
    clear hpe hok h1 hdl hnl hr
    go_enter Tryz.func50,Tryz.ntmps50
    go_wp2_with fail
    refine hck.mono ?_
    clear hck
    rintro e w1 ⟨rfl,hb1⟩
    go_wp2_with fail
    go_ret2
    refine ⟨_,by rw [HPE.out];rfl,?_,hb1⟩
    rw [HPE.out,if_neg (by decide)];rfl
  ·have hpe:putE l i d=4:=by unfold putE;rw [if_pos hok,if_neg hi]
   have HPE:=Lib.hid hpe
   clear hpe hok h1 hnl hr
   by_cases hi0:i<0
   ·clear hi
    go_enter Tryz.func50,Tryz.ntmps50
    go_wp2_with fail
    refine hck.mono ?_
    clear hck
    rintro e w1 ⟨rfl,hb1⟩
    go_wp2_with fail
    go_ret2
    refine ⟨_,by rw [HPE.out];rfl,?_,hb1⟩
    rw [HPE.out,if_neg (by decide)];rfl
   ·have hi1:0≤i:=by omega
    have hi2:1024≤i:=by omega
    clear hi hi0
    go_enter Tryz.func50,Tryz.ntmps50
    go_wp2_with fail
    refine hck.mono ?_
    clear hck
    rintro e w1 ⟨rfl,hb1⟩
    go_wp2_with fail
    go_ret2
    refine ⟨_,by rw [HPE.out];rfl,?_,hb1⟩
    rw [HPE.out,if_neg (by decide)];rfl
 ·have h1:okE l=9:=by unfold okE;rw [if_neg hok]
  rw [h1] at hck
  have hpe:putE l i d=9:=by unfold putE;rw [if_neg hok]
  have HPE:=Lib.hid hpe
  clear hpe hok h1 hnl hr
  go_enter Tryz.func50,Tryz.ntmps50
  go_wp2_with fail
  refine hck.mono ?_
  clear hck
  rintro e w1 ⟨rfl,hb1⟩
  go_wp2_with fail
  go_ret2
  refine ⟨_,by rw [HPE.out];rfl,?_,hb1⟩
  rw [HPE.out,if_neg (by decide)];rfl
end Go.Proofs.YtcgclpcocdappaaGreatDoor
