/-
  The page's Set and Charge: what a tenant is charged for. What snapshots, clones and rollbacks that are told are; sizes; the plain law of clones. props.Text; the reference's Prop; godownplain.Texts: by their contracts. What is held, by content: each of all that are held is a path and a name, and held.
-/
import Derived.WalkKit
import Derived.WalkSpells
import Derived.Below
import Derived.Laws.OwnMore
import Derived.Deep.AppendLies
import Derived.Deep.Draws
import Derived.Laws.Rows
import Derived.Maps.AppendAt
import Derived.RegionTactic
import Derived.OwnWalk
import Derived.Deep.QuietTactic
import Derived.BigQuiet
import Derived.Lib.Hide
import Derived.Laws.CopyOwn
import Derived.IntWalk
import Derived.Test.YtcgclpcocdappaaGreatDoorRows
import Derived.Handy
import Derived.Deep.Quiet
import Derived.ProofKit
import Derived.OpenShut
import Derived.ShutString
import Derived.ChangeOld
import Derived.Carry
import Derived.SizedLaws
import Derived.JoinedCond
import Derived.Deep.CondSized
import Derived.Deep.Slices
import Derived.Deep.Fields
import Derived.Lib.SmallJoins
import Derived.Orders
import Derived.Lib.SplitLaws
import Derived.Lib.LastIndexByte
import Derived.Lib.Strings
import Derived.Sort.Walk0
import Derived.Sort.KeysCollected
import Derived.Deep.MidRow
import Derived.Shelf.Strings.Search1
import Derived.Shelf.Strings.Search2
import Derived.Shelf.Strings.Search3
import Derived.Shelf.Strings.Cut
import Derived.Shelf.Strings.Count
import Derived.Shelf.LaysM
import Derived.Shelf.Strings.Shaped
import Derived.Shelf.Strings.LastIndex
import Derived.Shelf.Strings.Split
import Derived.Shelf.Strings.SplitShaped
import Derived.Shelf.Unicode.Decode
import Derived.Shelf.Strings.RuneCount
import Derived.Shelf.Strings.Explode
import Derived.Shelf.Unicode.DecodeSlow
import Derived.Test.YtcgclpcocdappaaGreatDoorProg
import Derived.Laws.BytesString
import Derived.Laws.IdiomStrings
import Derived.Lib.ConvBytes
import Derived.Deep.DeepCutAuto
import Derived.Great.BuildSlice
import Derived.Deep.RegionLaw
import Derived.Lib.AppendZeros
import Derived.Lib.Overlaps
import Derived.Lib.AppendZerosOnto
import Derived.Test.YtcgclpcocdappaaGreatDoorG0
import Derived.Test.YtcgclpcocdappaaGreatDoorGg1
import Derived.Test.YtcgclpcocdappaaGreatDoorGg3
import Derived.Test.YtcgclpcocdappaaGreatDoorGg5
import Derived.Test.YtcgclpcocdappaaGreatDoorGg7
import Derived.Test.YtcgclpcocdappaaGreatDoorGg8
import Derived.Test.YtcgclpcocdappaaGreatDoorGg9
import Derived.Test.YtcgclpcocdappaaGreatDoorGg12
import Derived.Test.YtcgclpcocdappaaGreatDoorGg13
import Derived.Test.YtcgclpcocdappaaGreatDoorGg19
import Derived.Test.YtcgclpcocdappaaGreatDoorGg20
import Derived.Test.YtcgclpcocdappaaGreatDoorGg21
import Derived.Test.YtcgclpcocdappaaGreatDoorGg22
import Derived.Test.YtcgclpcocdappaaGreatDoorGg29
import Derived.Test.YtcgclpcocdappaaGreatDoorGg30
import Derived.Test.YtcgclpcocdappaaGreatDoorGg32
import Derived.Test.YtcgclpcocdappaaGreatDoorGg35
import Derived.Test.YtcgclpcocdappaaGreatDoorGg41
namespace Go.Proofs.YtcgclpcocdappaaGreatDoor
open Go.RowKit
set_option maxRecDepth 100000 in
set_option maxHeartbeats 2000000 in
theorem rset14c_any (x:SetR) (w:World) (B:Nat) (hB:B≤w.heap.size) (hr:x.rd w B) (hz:x.sz) (hs:setSum x≤4000000000000000000) :
  Calls Tryz.prog 76 #[.agg (encSet x).toArray] w fun e w'=>e=.returned (.int .i64 (setSum x))∧Below w.heap.size w w':=by
 obtain ⟨pa,og,⟨bA,bn,bc,bl⟩,⟨zA,zn,zc,zl⟩,⟨oA,on,oc,ol⟩⟩:=x
 show Calls Tryz.prog 76 #[.agg #[.string ⟨pa.toArray⟩,.string ⟨og.toArray⟩,.slice bA bn bc,.slice zA zn zc,.slice oA on oc]] w _
 have hb:=((Below.refl w.heap.size w).alloc (Nat.le_refl _) (.cells #[.string ⟨pa.toArray⟩,.string ⟨og.toArray⟩,.slice bA bn bc,.slice zA zn zc,.slice oA on oc] 42))
 have ks:=Blk.new w 42 #[.string ⟨pa.toArray⟩,.string ⟨og.toArray⟩,.slice bA bn bc,.slice zA zn zc,.slice oA on oc]
 have hsz:(w.alloc (.cells #[.string ⟨pa.toArray⟩,.string ⟨og.toArray⟩,.slice bA bn bc,.slice zA zn zc,.slice oA on oc] 42)).heap.size=w.heap.size+1:=by simp
 obtain ⟨W1,hW1⟩:∃ W,W=(w.alloc (.cells #[.string ⟨pa.toArray⟩,.string ⟨og.toArray⟩,.slice bA bn bc,.slice zA zn zc,.slice oA on oc] 42)):=⟨_,rfl⟩
 rw [← hW1] at hb hsz ks
 have hKs:Hid (∀ W,Below W1.heap.size W1 W→Blk W w.heap.size 42 #[.string ⟨pa.toArray⟩,.string ⟨og.toArray⟩,.slice bA bn bc,.slice zA zn zc,.slice oA on oc]):=fun W h=>ks.below h (by omega)
 have hBW:Hid (∀ W,Below W1.heap.size W1 W→Below w.heap.size w W):=fun W h=>hb.trans (h.mono (by omega))
 have hSZ:Hid (∀ W,Below W1.heap.size W1 W→w.heap.size+1≤W.heap.size):=fun W h=>by have:=h.size;omega
 have hW0:Hid (Below W1.heap.size W1 W1):=Below.refl _ _
 have hrd:Hid (∀ W,Below W1.heap.size W1 W→Reads W B 5 zA zn (cellsK encSnap zl)):=fun W h=>hr.snaps.2.2.below ((hBW.out W h).mono hB)
 have HZN:=Lib.hid (show zn=zl.length from hr.snaps.1)
 have HZ:=Lib.hid hz
 have HM:=Lib.hid (sumB_mono zl)
 have HS:Hid (setSum ⟨pa,og,⟨bA,bn,bc,bl⟩,⟨zA,zn,zc,zl⟩,⟨oA,on,oc,ol⟩⟩=((bn:Int)+1)+sumB zl zl.length):=rfl
 have HLE:=Lib.hid hs
 have hbn:bn≤1000000000000:=hz.body
 have hzn:zn≤1000000000000:=hz.snaps
 obtain ⟨S0,hS0⟩:∃ S:Int,S=1+(bn:Int):=⟨_,rfl⟩
 have hw1:IntKind.i64.wrap (1+(bn:Int))=S0:=by rw [IntKind.wrap_i64];omega
 have HS0:=Lib.hid hS0
 obtain ⟨U,hU⟩:∃ U,U=setSum ⟨pa,og,⟨bA,bn,bc,bl⟩,⟨zA,zn,zc,zl⟩,⟨oA,on,oc,ol⟩⟩:=⟨_,rfl⟩
 rw [← hU] at HS HLE ⊢
 clear hb hsz ks hr hz hs hS0 hU hbn
 go_enter Tryz.func76,Tryz.ntmps76
 have kk:=hKs.out W1 hW0.out
 have e2:=kk.cell 2
 simp only [zF,zD,zE] at e2
 clear kk
 go_upto_region 2 with (rw [← hW1];clear hW1)
 go_wp2_with fail
 clear e2
 go_loopw [3,4] (fun a j wr=>∃ k:Nat,k≤zn∧a=.int .i64 (S0+sumB zl k)∧j=.int .i64 (k:Int)∧Hid (Below W1.heap.size W1 wr)) (fun _ j _=>zn-(intOf j).toNat)
 case atStart=>exact ⟨0,Nat.zero_le _,by rw [sumB_zero,Int.add_zero],rfl,hW0.out⟩
 case round =>
  obtain ⟨k,hk,rfl,rfl,hbw⟩:=hrel
  have kk:=hKs.out wr hbw.out
  have e3:=kk.cell 3
  simp only [zF,zD,zE] at e3
  clear kk
  by_cases hlt:k<zn
  ·have hki:(k:Int)<(zn:Int):=by omega
   have hk0:(0:Int)≤(k:Int):=by omega
   have hkl:k<zl.length:=by have:=HZN.out;omega
   obtain ⟨ad,hsa,-,-,-,r2,-,-⟩:=snap_at (hrd.out wr hbw.out) HZN.out hlt
   subst hsa
   have hsz:=(HZ.out.each _ (List.getElem_mem hkl)).body
   have hss:=sumB_succ zl k hkl
   obtain ⟨y,hy⟩:∃ y,y=zl[k]'hkl:=⟨_,rfl⟩
   rw [← hy] at r2 hsz hss
   clear hy
   have hbd:=HM.out k
   have hbd2:=HM.out (k+1)
   have h1:=HS.out
   have h2:=HLE.out
   have h3:=HS0.out
   obtain ⟨S1,hS1⟩:∃ S:Int,S=S0+sumB zl k:=⟨_,rfl⟩
   obtain ⟨S2,hS2⟩:∃ S:Int,S=S1+1:=⟨_,rfl⟩
   obtain ⟨S3,hS3⟩:∃ S:Int,S=S2+(y.body.n:Int):=⟨_,rfl⟩
   have hwa:IntKind.i64.wrap (S1+1)=S2:=by rw [IntKind.wrap_i64];omega
   have hwb:IntKind.i64.wrap (S2+(y.body.n:Int))=S3:=by rw [IntKind.wrap_i64];omega
   rw [← hS1]
   have HN:Hid (S3=S0+sumB zl (k+1)):=by show _=_;omega
   obtain ⟨ynm,ygd,⟨yb1,ybn,yb3,ybl⟩,⟨yt1,ytn,yt3,ytl⟩,⟨yo1,yon,yo3,yol⟩⟩:=y
   simp only at r2 hwb
   clear hsz hss hbd hbd2 h1 h2 h3 hS1 hS2 hS3
   go_wp2_with fail
   go_roundw
   case rel=>exact ⟨k+1,by omega,by rw [HN.out],by go_num,hbw⟩
   case measure=>simp [intOf];omega
  ·have hkn:k=zn:=by omega
   have HU:Hid (S0+sumB zl k=U):=by show _=_;rw [hkn,HZN.out,HS.out,HS0.out];omega
   rw [HU.out]
   clear hkn
   go_wp2_with fail
   go_ret
   exact ⟨rfl,hBW.out _ hbw.out⟩
set_option maxRecDepth 100000 in
set_option maxHeartbeats 4000000 in
theorem rcharge_any (t:TenR) (w:World) (B:Nat) (hB:B≤w.heap.size) (hr:t.rd w B) (hz:t.sz) (hs:tenSum t≤4000000000000000000) :
  Calls Tryz.prog 22 #[t.val] w fun e w'=>e=.returned (.int .i64 (tenSum t))∧Below w.heap.size w w':=by
 obtain ⟨nm,qu,nx,⟨s1,sn,s3,sl⟩,⟨u1,un,u3,ul⟩,⟨t1,tn,t3,tl⟩,⟨l1,ln,l3,ll⟩⟩:=t
 show Calls Tryz.prog 22 #[.agg #[.string ⟨nm.toArray⟩,.int .i64 qu,.int .i64 nx,.slice s1 sn s3,.slice u1 un u3,.slice t1 tn t3,.slice l1 ln l3]] w _
 have hb:=((Below.refl w.heap.size w).alloc (Nat.le_refl _) (.cells #[.string ⟨nm.toArray⟩,.int .i64 qu,.int .i64 nx,.slice s1 sn s3,.slice u1 un u3,.slice t1 tn t3,.slice l1 ln l3] 27))
 have kt:=Blk.new w 27 #[.string ⟨nm.toArray⟩,.int .i64 qu,.int .i64 nx,.slice s1 sn s3,.slice u1 un u3,.slice t1 tn t3,.slice l1 ln l3]
 have hsz:(w.alloc (.cells #[.string ⟨nm.toArray⟩,.int .i64 qu,.int .i64 nx,.slice s1 sn s3,.slice u1 un u3,.slice t1 tn t3,.slice l1 ln l3] 27)).heap.size=w.heap.size+1:=by simp
 obtain ⟨W1,hW1⟩:∃ W,W=(w.alloc (.cells #[.string ⟨nm.toArray⟩,.int .i64 qu,.int .i64 nx,.slice s1 sn s3,.slice u1 un u3,.slice t1 tn t3,.slice l1 ln l3] 27)):=⟨_,rfl⟩
 rw [← hW1] at hb hsz kt
 have hKt:Hid (∀ W,Below W1.heap.size W1 W→Blk W w.heap.size 27 #[.string ⟨nm.toArray⟩,.int .i64 qu,.int .i64 nx,.slice s1 sn s3,.slice u1 un u3,.slice t1 tn t3,.slice l1 ln l3]):=fun W h=>kt.below h (by omega)
 have hBW:Hid (∀ W,Below W1.heap.size W1 W→Below w.heap.size w W):=fun W h=>hb.trans (h.mono (by omega))
 have hSZ:Hid (∀ W,Below W1.heap.size W1 W→w.heap.size+1≤W.heap.size):=fun W h=>by have:=h.size;omega
 have hW0:Hid (Below W1.heap.size W1 W1):=Below.refl _ _
 have hrw:Hid (∀ W,Below W1.heap.size W1 W→TenR.rd W B ⟨nm,qu,nx,⟨s1,sn,s3,sl⟩,⟨u1,un,u3,ul⟩,⟨t1,tn,t3,tl⟩,⟨l1,ln,l3,ll⟩⟩∧B≤W.heap.size):=fun W h =>
  ⟨TenR.rd.below hr ((hBW.out W h).mono hB),by have:=hSZ.out W h;omega⟩
 have HSN:=Lib.hid (show sn=sl.length from hr.sets.1)
 have HTN:=Lib.hid (show tn=tl.length from hr.stages.1)
 have HZ:=Lib.hid hz
 have HM:=Lib.hid (sumS_mono sl)
 have HG:=Lib.hid (sumG_mono tl)
 have HS:Hid (tenSum ⟨nm,qu,nx,⟨s1,sn,s3,sl⟩,⟨u1,un,u3,ul⟩,⟨t1,tn,t3,tl⟩,⟨l1,ln,l3,ll⟩⟩=sumS sl sl.length+sumG tl tl.length):=rfl
 have HLE:=Lib.hid hs
 have hsn:sn≤1000000000000:=hz.sets
 have htn:tn≤1000000000000:=hz.stages
 obtain ⟨U,hU⟩:∃ U,U=tenSum ⟨nm,qu,nx,⟨s1,sn,s3,sl⟩,⟨u1,un,u3,ul⟩,⟨t1,tn,t3,tl⟩,⟨l1,ln,l3,ll⟩⟩:=⟨_,rfl⟩
 rw [← hU] at HS HLE ⊢
 clear hb hsz kt hr hz hs hU
 go_enter Tryz.func22,Tryz.ntmps22
 go_upto_region 2 with (rw [← hW1];clear hW1)
 go_wp2_with fail
 go_loopw [3,4] (fun a j wr=>∃ k:Nat,k≤sn∧a=.int .i64 (sumS sl k)∧j=.int .i64 (k:Int)∧Hid (Below W1.heap.size W1 wr)) (fun _ j _=>sn-(intOf j).toNat)
 case atStart=>exact ⟨0,Nat.zero_le _,by simp [sumS],rfl,by first | exact hW0.out | (rw [← hW1];exact hW0.out)⟩
 case round =>
  obtain ⟨k,hk,rfl,rfl,hbw⟩:=hrel
  have kk:=hKt.out wr hbw.out
  have e3:=kk.cell 3
  have e5:=kk.cell 5
  simp only [zF,zD,zE] at e3 e5
  clear kk
  by_cases hlt:k<sn
  ·have hki:(k:Int)<(sn:Int):=by omega
   have hk0:(0:Int)≤(k:Int):=by omega
   have hkl:k<sl.length:=by have:=HSN.out;omega
   obtain ⟨ad,hsa,-,q0,q1,q2,q3,q4⟩:=set_at (hrw.out wr hbw.out).1.sets.2.2 HSN.out hlt
   simp only at hsa
   have hss:=sumS_succ sl k hkl
   have hbd:=HM.out k
   have hbd2:=HM.out (k+1)
   have hbg:=HG.out tl.length
   have h1:=HS.out
   have h2:=HLE.out
   have hx:=(hrw.out wr hbw.out).1.eachS _ (List.getElem_mem hkl)
   have hzx:=HZ.out.eachS _ (List.getElem_mem hkl)
   have hnn:0≤sumS sl (k+1)-sumS sl k:=by
    have:=sumB_mono (sl[k]'hkl).snaps.l (sl[k]'hkl).snaps.l.length
    rw [hss]
    unfold setSum
    omega
   obtain ⟨x,hxx⟩:∃ x,x=sl[k]'hkl:=⟨_,rfl⟩
   simp only [← hxx] at q0 q1 q2 q3 q4 hx hzx hss
   have hc:=rset14c_any x wr B (hrw.out wr hbw.out).2 hx hzx (by omega)
   obtain ⟨S1,hS1⟩:∃ S:Int,S=sumS sl k:=⟨_,rfl⟩
   obtain ⟨X1,hX1⟩:∃ S:Int,S=setSum x:=⟨_,rfl⟩
   obtain ⟨S3,hS3⟩:∃ S:Int,S=S1+X1:=⟨_,rfl⟩
   have hwa:IntKind.i64.wrap (S1+X1)=S3:=by rw [IntKind.wrap_i64];omega
   have HN:Hid (S3=sumS sl (k+1)):=by show _=_;omega
   rw [← hS1]
   rw [← hX1] at hc
   obtain ⟨pa,og,⟨bA,bn,bc,bl⟩,⟨zA,zn,zc,zl⟩,⟨oA,on,oc,ol⟩⟩:=x
   simp only at q0 q1 q2 q3 q4
   have hc:Calls Tryz.prog 76 #[.agg #[.string ⟨pa.toArray⟩,.string ⟨og.toArray⟩,.slice bA bn bc,.slice zA zn zc,.slice oA on oc]] wr _:=hc
   subst hsa
   clear hss hbd hbd2 hbg h1 h2 hS1 hS3 hX1 hx hzx hxx hnn e5
   go_wp2_with fail
   refine hc.mono ?_
   clear hc q0 q1 q2 q3 q4 e3
   rintro e w3 ⟨rfl,hb⟩
   have HW3:=Lib.hid (hbw.out.trans (hb.mono hbw.out.size))
   clear hb
   go_wp2_with fail
   go_roundw
   case rel=>exact ⟨k+1,by omega,by rw [HN.out],by go_num,HW3⟩
   case measure=>simp [intOf];omega
  ·have hkn:k=sn:=by omega
   have HU:Hid (sumS sl k=sumS sl sl.length):=by show _=_;rw [hkn,HSN.out]
   rw [HU.out]
   clear hkn
   obtain ⟨S0,hS0⟩:∃ S:Int,S=sumS sl sl.length:=⟨_,rfl⟩
   rw [← hS0]
   have HS0:=Lib.hid hS0
   have h00:=HM.out sl.length
   have HS00:Hid (0≤S0):=by show 0≤S0;omega
   have HW0:=hbw
   obtain ⟨wo,hwo⟩:∃ W,W=wr:=⟨_,rfl⟩
   subst hwo
   clear hS0 h00 hk HU hbw
   go_wp2_with fail
   go_loopw [3,5] (fun a j wr=>∃ k:Nat,k≤tn∧a=.int .i64 (S0+sumG tl k)∧j=.int .i64 (k:Int)∧Hid (Below W1.heap.size W1 wr)) (fun _ j _=>tn-(intOf j).toNat)
   case atStart=>exact ⟨0,Nat.zero_le _,by simp [sumG],rfl,HW0⟩
   case round =>
    clear e3 e5
    obtain ⟨k,hk,rfl,rfl,hbw⟩:=hrel
    have kk:=hKt.out wr hbw.out
    have e5:=kk.cell 5
    simp only [zF,zD,zE] at e5
    clear kk
    by_cases hlt:k<tn
    ·have hki:(k:Int)<(tn:Int):=by omega
     have hk0:(0:Int)≤(k:Int):=by omega
     have hkl:k<tl.length:=by have:=HTN.out;omega
     obtain ⟨ad,hsa,_,hel⟩:=Reads.elK (k:=21) (enc:=encStage) (fun _=>rfl) (hrw.out wr hbw.out).1.stages.2.2 HTN.out hlt
     simp only at hsa
     subst hsa
     have hsz:=(HZ.out.eachT _ (List.getElem_mem hkl)).body
     have q13:wr.cell? ⟨(ad.add (k*21)).block,(ad.add (k*21)).off+13,none⟩=some (.slice (tl[k]'hkl).body.A (tl[k]'hkl).body.n (tl[k]'hkl).body.c):=by
      have h:=hel 13 (by decide)
      rw [addr_add_succ] at h
      exact h
     have hss:=sumG_succ tl k hkl
     have hbd:=HG.out k
     have hbd2:=HG.out (k+1)
     have h1:=HS.out
     have h2:=HLE.out
     have h3:=HS0.out
     have h4:=HS00.out
     obtain ⟨y,hy⟩:∃ y,y=tl[k]'hkl:=⟨_,rfl⟩
     simp only [← hy] at q13 hsz hss
     obtain ⟨b1,hb1⟩:∃ b,b=y.body.A:=⟨_,rfl⟩
     obtain ⟨bn,hbn⟩:∃ b,b=y.body.n:=⟨_,rfl⟩
     obtain ⟨b3,hb3⟩:∃ b,b=y.body.c:=⟨_,rfl⟩
     rw [← hb1,← hbn,← hb3] at q13
     rw [← hbn] at hsz hss
     obtain ⟨S1,hS1⟩:∃ S:Int,S=S0+sumG tl k:=⟨_,rfl⟩
     obtain ⟨S2,hS2⟩:∃ S:Int,S=S1+1:=⟨_,rfl⟩
     obtain ⟨S3,hS3⟩:∃ S:Int,S=S2+(bn:Int):=⟨_,rfl⟩
     have hwa:IntKind.i64.wrap (S1+1)=S2:=by rw [IntKind.wrap_i64];omega
     have hwb:IntKind.i64.wrap (S2+(bn:Int))=S3:=by rw [IntKind.wrap_i64];omega
     rw [← hS1]
     have HN:Hid (S3=S0+sumG tl (k+1)):=by show _=_;omega
     clear hsz hss hbd hbd2 h1 h2 h3 h4 hS1 hS2 hS3 hy hb1 hbn hb3 hel
     go_wp2_with fail
     go_roundw
     case rel=>exact ⟨k+1,by omega,by rw [HN.out],by go_num,hbw⟩
     case measure=>simp [intOf];omega
    ·have hkn:k=tn:=by omega
     have HU:Hid (S0+sumG tl k=U):=by show _=_;rw [hkn,HTN.out,HS.out,HS0.out]
     rw [HU.out]
     clear hkn
     go_wp2_with fail
     go_ret
     exact ⟨rfl,hBW.out _ hbw.out⟩
end Go.Proofs.YtcgclpcocdappaaGreatDoor
namespace Go.Proofs.YtcgclpcocdappaaGreatDoor
open Go.RowKit
theorem AtS.ok {c:TenC} {p n:BS} {bad:Bool} {k:Nat} (h:AtS c p n bad k):SetOk c.sets (c.sets[k]'h.lt):=((TenC.E_ok c).1 h.E).sets.each _ (List.getElem_mem h.lt)
theorem AtS.snaps {c:TenC} {p n:BS} {bad:Bool} {k:Nat} (h:AtS c p n bad k):SnapsOk (c.sets[k]'h.lt).snaps:=(snapsB_iff _).1 h.ok.snaps
theorem unsnap_form (c:TenC) (p n:BS) (c2:TenC) (h:(0,c2)=c.unsnap p n):∃ k,∃ ha:AtS c p n false k,∃ i,i<(c.sets[k]'ha.lt).snaps.length∧c2=c.putS k ((c.sets[k]'ha.lt).dropSnap i):=by
 unfold TenC.unsnap at h
 rcases c.foundS_cases p n false with ⟨a,k,E,hE,e⟩ | ⟨k,ha,i,hi,e,e1,e2⟩
 ·rw [e] at h
  rw [if_pos (show E≠0 by rcases hE with rfl | rfl | rfl <;> decide)] at h
  injection h with h _
  rcases hE with rfl | rfl | rfl <;> cases h
 ·rw [e] at h
  simp only [Int.toNat_natCast] at h
  rw [if_neg (by decide)] at h
  by_cases hc:0<c.clones p n
  ·rw [if_pos hc] at h
   injection h with h _
   cases h
  rw [if_neg hc,List.getElem?_eq_getElem ha.lt] at h
  simp only [List.getElem?_eq_getElem hi] at h
  split at h
  ·injection h with h _
   cases h
  injection h with _ h
  exact ⟨k,ha,i,hi,h⟩
theorem unsnap_sz {c:TenC} (h:c.sz) (p n:BS) (c2:TenC) (h2:(0,c2)=c.unsnap p n):c2.sz:=by
 obtain ⟨k,ha,i,hi,e⟩:=unsnap_form c p n c2 h2
 have hs:=h.eachS _ (List.getElem_mem ha.lt)
 have hsub:=dropSn_sub (c.sets[k]'ha.lt).snaps i
 rw [e]
 exact h.putS ⟨hs.path,hs.org,hs.body,Nat.le_trans hsub.length_le hs.snaps,fun y hy=>hs.each y (hsub.subset hy),hs.own,hs.props⟩
/-! ### clones -/
theorem TenC.foundS_of (c:TenC) (p n:BS) (hE:c.E=0) (hp:pathB p=true) (hn:nameB n=true) (s:SetC) (hs:s∈c.sets) (hsp:s.path=p) (y:SnapC) (hy:y∈s.snaps) (hyn:y.nm=n):c.foundS p n false=(c.find p,s.findN n,0):=by
 have ha:c.askS p n false=(c.find p,s.findN n,0):=by
  unfold TenC.askS
  rw [if_neg (by rw [hE];decide),if_neg (by rw [hp,hn];simp)]
  have:=find_of_mem ((TenC.E_ok c).1 hE).sets.asc hs
  rw [hsp] at this
  rw [this]
 unfold TenC.foundS
 rw [ha,if_neg]
 rintro ⟨-,h⟩
 rcases findN_cases s n with ⟨_,h4⟩ | ⟨j,_,h4,_⟩
 ·exact h4 y hy hyn
 ·have h:s.findN n<0:=h
  omega
end Go.Proofs.YtcgclpcocdappaaGreatDoor
namespace Go.Proofs.YtcgclpcocdappaaGreatDoor
open Go.RowKit
set_option maxRecDepth 100000 in
set_option maxHeartbeats 1000000 in
theorem texts_any (a b:List BS) (n m:Nat) (hna:n=a.length) (hmb:m=b.length) (A1 A2:Option Addr) (c1 c2:Nat) (w:World) (B1 B2:Nat) (hr1:Reads w B1 1 A1 n (scells a)) (hr2:Reads w B2 1 A2 m (scells b)) (hn:n≤8796093022208) (hm:m≤8796093022208) :
  Calls Tryz.prog 24 #[.slice A1 n c1,.slice A2 m c2] w fun e w'=>e=.returned (.bool (decide (a=b)))∧∃ q,w'=w.drewN q:=by
 have HN:=Lib.hid hna
 have HM:=Lib.hid hmb
 clear hna hmb
 by_cases hnm:n=m
 ·subst hnm
  go_enter Tryz.func24,Tryz.ntmps24
  go_wp2_with fail
  go_loopw [5] (fun i wr=>∃ k:Nat,k≤n∧i=.int .i64 (k:Int)∧Hid (a.take k=b.take k)∧∃ q,wr=w.drewN q) (fun i _=>n-(intOf i).toNat)
  case atStart=>exact ⟨0,Nat.zero_le _,rfl,(show a.take 0=b.take 0 by simp),0,rfl⟩
  case round =>
   obtain ⟨k,hk,rfl,hok,q,rfl⟩:=hrel
   by_cases hlt:k<n
   ·have hki:(k:Int)<(n:Int):=by omega
    have hka:k<a.length:=by have:=HN.out;omega
    have hkb:k<b.length:=by have:=HM.out;omega
    obtain ⟨ad1,rfl,_,hc1⟩:=strs_at hr1 HN.out hlt
    obtain ⟨ad2,rfl,_,hc2⟩:=strs_at hr2 HM.out hlt
    obtain ⟨x,hx⟩:∃ x,x=a[k]'hka:=⟨_,rfl⟩
    obtain ⟨y,hy⟩:∃ y,y=b[k]'hkb:=⟨_,rfl⟩
    rw [← hx] at hc1
    rw [← hy] at hc2
    have t1:=List.take_succ_eq_append_getElem hka
    have t2:=List.take_succ_eq_append_getElem hkb
    rw [← hx] at t1
    rw [← hy] at t2
    have T1:=Lib.hid t1
    have T2:=Lib.hid t2
    have X1:=Lib.hid hx
    have X2:=Lib.hid hy
    simp only [strV] at hc1 hc2
    clear hx hy t1 t2 hr1 hr2
    by_cases hxy:x=y
    ·subst hxy
     go_wp2_with fail
     go_region
     go_wp2_with fail
     go_roundw
     case rel =>
      refine ⟨k+1,by omega,by go_num,?_,q+1,rfl⟩
      show a.take (k+1)=b.take (k+1)
      rw [T1.out,T2.out,hok.out]
     case measure=>simp [intOf];omega
    ·have hd:(x != y)=true:=by simp [hxy]
     have hd2:(x == y)=false:=by simp [hxy]
     have HD:Hid (decide (a=b)=false):=by
      show _=_
      refine decide_eq_false (fun e=>hxy ?_)
      rw [X1.out,X2.out]
      simp only [e]
     go_wp2_with fail
     go_region
     go_wp2_with fail
     go_ret
     exact ⟨by rw [HD.out];rfl,q+1,rfl⟩
   ·have HD:Hid (decide (a=b)=true):=by
     show _=_
     refine decide_eq_true ?_
     have:=hok.out
     rwa [List.take_of_length_le (by have:=HN.out;omega),List.take_of_length_le (by have:=HM.out;omega)] at this
    clear hr1 hr2
    go_wp2_with fail
    go_ret
    exact ⟨by rw [HD.out];rfl,q,rfl⟩
 ·have hd:((n:Int) != (m:Int))=true:=by simp;omega
  have HD:Hid (decide (a=b)=false):=by
   show _=_
   refine decide_eq_false (fun e=>hnm ?_)
   rw [HN.out,HM.out,e]
  clear hnm hr1 hr2
  go_enter Tryz.func24,Tryz.ntmps24
  go_wp2_with fail
  go_ret
  exact ⟨by rw [HD.out];rfl,0,rfl⟩
end Go.Proofs.YtcgclpcocdappaaGreatDoor
namespace Go.Proofs.YtcgclpcocdappaaGreatDoor
open Go.RowKit
def heldLC (pa:BS) (l:List SnapC):List BS:=(l.filter fun x=>decide (0<x.tags.length)).map fun x=>pa++64 :: x.nm
def TenC.allC (c:TenC):List BS:=c.sets.flatMap fun s=>heldLC s.path s.snaps
theorem heldL_con (pa:BS) (l:List SnapR) (h:∀ x∈l,x.tags.n=x.tags.l.length):heldL pa l=heldLC pa (l.map SnapR.con):=by
 unfold heldL heldLC
 induction l with
 | nil=>rfl
 | cons x r ih =>
  have h1:=ih (fun y hy=>h y (List.mem_cons_of_mem _ hy))
  have h2:=h x List.mem_cons_self
  have h3:x.con.tags.length=x.tags.l.length:=rfl
  rw [List.map_cons,List.filter_cons,List.filter_cons,h2,h3]
  by_cases hc:0<x.tags.l.length
  ·rw [if_pos (by simpa using hc),if_pos (by simpa using hc),List.map_cons,List.map_cons,h1]
   rfl
  ·rw [if_neg (by simpa using hc),if_neg (by simpa using hc),h1]
theorem all_con (t:TenR) (w:World) (B:Nat) (hr:t.rd w B):allH t.sets.l=t.con.allC:=by
 have key:∀ l:List SetR,(∀ s∈l,s.rd w B)→allH l=(l.map SetR.con).flatMap fun s=>heldLC s.path s.snaps:=by
  intro l
  induction l with
  | nil=>intro _;rfl
  | cons s r ih =>
   intro h
   have h1:=ih (fun y hy=>h y (List.mem_cons_of_mem _ hy))
   unfold allH at h1 ⊢
   rw [List.flatMap_cons,List.map_cons,List.flatMap_cons,h1,heldL_con _ _ (fun x hx=>((h s List.mem_cons_self).each x hx).tags.1)]
   rfl
 exact key _ hr.eachS
theorem find_nodup {l:List SnapC} (h:(l.map SnapC.nm).Nodup) {x:SnapC} (hx:x∈l):l.find? (fun y=>y.nm == x.nm)=some x:=by
 induction l with
 | nil=>cases hx
 | cons y r ih =>
  rw [List.map_cons,List.nodup_cons] at h
  rcases List.mem_cons.1 hx with rfl | hx
  ·rw [List.find?_cons_of_pos (by simp)]
  ·rw [List.find?_cons_of_neg (by
    intro e
    have e:y.nm=x.nm:=by simpa using e
    exact h.1 (by rw [e];exact List.mem_map_of_mem hx))]
   exact ih h.2 hx
theorem allC_len (c:TenC) (hE:c.E=0):c.allC.length≤512:=by
 have hok:=(TenC.E_ok c).1 hE
 have h1:∀ x∈c.sets,(heldLC x.path x.snaps).length≤16:=fun x hx=>by
  have hsn:=(snapsB_iff _).1 (hok.sets.each x hx).snaps
  unfold heldLC
  rw [List.length_map]
  exact Nat.le_trans (List.length_filter_le _ _) hsn.len
 have h2:∀ l:List SetC,(∀ x∈l,(heldLC x.path x.snaps).length≤16)→(l.flatMap fun s=>heldLC s.path s.snaps).length≤l.length*16:=by
  intro l
  induction l with
  | nil=>intro _;exact Nat.le_refl _
  | cons x r ih =>
   intro h
   have h3:=ih (fun y hy=>h y (List.mem_cons_of_mem _ hy))
   have h4:=h x List.mem_cons_self
   rw [List.flatMap_cons,List.length_append,List.length_cons]
   omega
 have h5:=h2 c.sets h1
 have h6:=hok.sets.len
 unfold TenC.allC
 omega
end Go.Proofs.YtcgclpcocdappaaGreatDoor
