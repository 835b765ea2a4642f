/-
  The page's Turn, kind 2.
-/
import Derived.Test.YtcgclpcocdappaaGreatDoorXM1
import Derived.Test.YtcgclpcocdappaaGreatDoorX0
import Derived.Test.YtcgclpcocdappaaGreatDoorX27
import Derived.Test.YtcgclpcocdappaaGreatDoorX8
import Derived.Test.YtcgclpcocdappaaGreatDoorX29
import Derived.Test.YtcgclpcocdappaaGreatDoorX25
namespace Go.Proofs.YtcgclpcocdappaaGreatDoor
open Go.RowKit
set_option maxRecDepth 100000 in
set_option maxHeartbeats 8000000 in
theorem rturn2_any (t:TenR) (p:BS) (i ct:Int) (w:World) (B:Nat) (hB:B≤w.heap.size) (hr:t.rd w B) (hz:t.sz) (hst:t.stages.n≤500000000000) (hp:p.length≤4000000000) :
  Calls Tryz.prog 11 #[t.val,.string ⟨p.toArray⟩,.int .i64 2,.int .i64 i,.int .i64 ct,.string ⟨#[]⟩,.string ⟨#[]⟩] w (TenPost w (t.con.changed p (freeF i ct))):=by
 have h3:t.con.ask p=0∨t.con.ask p=9∨t.con.ask p=31:=tZ42
 obtain ⟨V,hV⟩:∃ V,V=t.con.changed p (freeF i ct):=⟨_,rfl⟩
 obtain ⟨V0,hV0⟩:∃ V,V=t.con.changed p (freeF i ct):=⟨_,rfl⟩
 have hV1:V=V0:=by rw [hV,hV0]
 have hVe:V0=if t.con.ask p≠0 then (t.con.ask p,t.con) else if t.con.find p<0 then (71,t.con) else match t.con.sets[(t.con.find p).toNat]? with
  | none=>(71,t.con)
  | some s=>if (freeF i ct s).1≠0 then ((freeF i ct s).1,t.con) else (0,t.con.putS (t.con.find p).toNat (freeF i ct s).2):=hV0
 rw [← hV]
 have hcz:=TenC.sz_of hr hz
 have hfk:∀ k:Nat,t.con.find p=(k:Int)→k<t.sets.l.length:=fun k hk=>by
  exact mZ228
 have hfk2:t.con.find p<0∨∃ k:Nat,t.con.find p=(k:Int):=by
  exact mZ227
 have hfs:=findS_con t p
 obtain ⟨nm,qu,nx,⟨s1,sn,s3,sl⟩,⟨gA,gN,gC,gL⟩,⟨t1,tn,t3,tl⟩,⟨l1,ln,l3,ll⟩⟩:=t
 show Calls Tryz.prog 11 #[.agg #[.string ⟨nm.toArray⟩,.int .i64 qu,.int .i64 nx,.slice s1 sn s3,.slice gA gN gC,.slice t1 tn t3,.slice l1 ln l3],.string ⟨p.toArray⟩,.int .i64 2,.int .i64 i,.int .i64 ct,.string ⟨#[]⟩,.string ⟨#[]⟩] w _
 have hb:=(((Below.refl w.heap.size w).alloc (Nat.le_refl _) (.cells #[.string ⟨nm.toArray⟩,.int .i64 qu,.int .i64 nx,.slice s1 sn s3,.slice gA gN gC,.slice t1 tn t3,.slice l1 ln l3] 27)).alloc tZ3 (.cells #[.string ⟨#[]⟩,.int .i64 0,.int .i64 0,.slice none 0 0,.slice none 0 0,.slice none 0 0,.slice none 0 0] 27))
 have kt:=Blk.new w 27 #[.string ⟨nm.toArray⟩,.int .i64 qu,.int .i64 nx,.slice s1 sn s3,.slice gA gN gC,.slice t1 tn t3,.slice l1 ln l3]
 replace kt:=kt.alloc (.cells #[.string ⟨#[]⟩,.int .i64 0,.int .i64 0,.slice none 0 0,.slice none 0 0,.slice none 0 0,.slice none 0 0] 27)
 have kz:=Blk.new (w.alloc (.cells #[.string ⟨nm.toArray⟩,.int .i64 qu,.int .i64 nx,.slice s1 sn s3,.slice gA gN gC,.slice t1 tn t3,.slice l1 ln l3] 27)) 27 #[.string ⟨#[]⟩,.int .i64 0,.int .i64 0,.slice none 0 0,.slice none 0 0,.slice none 0 0,.slice none 0 0]
 rw [show (w.alloc (.cells #[.string ⟨nm.toArray⟩,.int .i64 qu,.int .i64 nx,.slice s1 sn s3,.slice gA gN gC,.slice t1 tn t3,.slice l1 ln l3] 27)).heap.size=w.heap.size+1 by simp] at kz
 have hsz:((w.alloc (.cells #[.string ⟨nm.toArray⟩,.int .i64 qu,.int .i64 nx,.slice s1 sn s3,.slice gA gN gC,.slice t1 tn t3,.slice l1 ln l3] 27)).alloc (.cells #[.string ⟨#[]⟩,.int .i64 0,.int .i64 0,.slice none 0 0,.slice none 0 0,.slice none 0 0,.slice none 0 0] 27)).heap.size=w.heap.size+2:=tZ3
 obtain ⟨W1,hW1⟩:∃ W,W=((w.alloc (.cells #[.string ⟨nm.toArray⟩,.int .i64 qu,.int .i64 nx,.slice s1 sn s3,.slice gA gN gC,.slice t1 tn t3,.slice l1 ln l3] 27)).alloc (.cells #[.string ⟨#[]⟩,.int .i64 0,.int .i64 0,.slice none 0 0,.slice none 0 0,.slice none 0 0,.slice none 0 0] 27)):=⟨_,rfl⟩
 rw [← hW1] at hb hsz kt kz
 have hKt:Hid (∀ W,Below W1.heap.size W1 W→Blk W w.heap.size 27 #[.string ⟨nm.toArray⟩,.int .i64 qu,.int .i64 nx,.slice s1 sn s3,.slice gA gN gC,.slice t1 tn t3,.slice l1 ln l3]):=fun W h=>kt.below h tZ1
 have hKz:Hid (∀ W,Below W1.heap.size W1 W→Blk W (w.heap.size+1) 27 #[.string ⟨#[]⟩,.int .i64 0,.int .i64 0,.slice none 0 0,.slice none 0 0,.slice none 0 0,.slice none 0 0]):=fun W h=>kz.below h tZ1
 have hBW:Hid (∀ W,Below W1.heap.size W1 W→Below w.heap.size w W):=fun W h=>hb.trans (h.mono tZ1)
 have hSZ:Hid (∀ W,Below W1.heap.size W1 W→w.heap.size+2≤W.heap.size):=fun W h=>by have:=h.size;omega
 have hW0:Hid (Below W1.heap.size W1 W1):=Below.refl _ _
 have hrw:Hid (∀ W,Below W1.heap.size W1 W→TenR.rd W B ⟨nm,qu,nx,⟨s1,sn,s3,sl⟩,⟨gA,gN,gC,gL⟩,⟨t1,tn,t3,tl⟩,⟨l1,ln,l3,ll⟩⟩∧B≤W.heap.size):=fun W h =>
  ⟨TenR.rd.below hr ((hBW.out W h).mono hB),by have:=hSZ.out W h;omega⟩
 obtain ⟨C,hC⟩:∃ C,C=TenR.con ⟨nm,qu,nx,⟨s1,sn,s3,sl⟩,⟨gA,gN,gC,gL⟩,⟨t1,tn,t3,tl⟩,⟨l1,ln,l3,ll⟩⟩:=⟨_,rfl⟩
 have hHC:=Lib.hid hC
 rw [← hC] at h3 hVe hfk hfk2 hcz hfs
 obtain ⟨E0,hE0⟩:∃ E,E=C.ask p:=⟨_,rfl⟩
 obtain ⟨F0,hF0⟩:∃ F,F=C.find p:=⟨_,rfl⟩
 have hAS:Hid (∀ W,Below W1.heap.size W1 W→Calls Tryz.prog 48 #[.agg #[.string ⟨nm.toArray⟩,.int .i64 qu,.int .i64 nx,.slice s1 sn s3,.slice gA gN gC,.slice t1 tn t3,.slice l1 ln l3],.string ⟨p.toArray⟩] W fun e w'=>e=.returned (.int .i64 E0)∧Below W.heap.size W w'):=fun W h=>by
  exact mZ259
 have hFD:Hid (∀ W,Below W1.heap.size W1 W→Calls Tryz.prog 10 #[.agg #[.string ⟨nm.toArray⟩,.int .i64 qu,.int .i64 nx,.slice s1 sn s3,.slice gA gN gC,.slice t1 tn t3,.slice l1 ln l3],.string ⟨p.toArray⟩] W fun e w'=>e=.returned (.int .i64 F0)∧Below W.heap.size W w'):=fun W h=>by
  exact mZ258
 rw [← hE0,← hF0] at hVe
 rw [← hE0] at h3
 rw [← hF0] at hfk hfk2
 have hCP:Hid (∀ W,Below W1.heap.size W1 W→Calls Tryz.prog 49 #[.agg #[.string ⟨nm.toArray⟩,.int .i64 qu,.int .i64 nx,.slice s1 sn s3,.slice gA gN gC,.slice t1 tn t3,.slice l1 ln l3]] W fun e w'=>∃ y:TenR,e=.returned y.val∧TenO w' W.heap.size y∧TenR.eqv ⟨nm,qu,nx,⟨s1,sn,s3,sl⟩,⟨gA,gN,gC,gL⟩,⟨t1,tn,t3,tl⟩,⟨l1,ln,l3,ll⟩⟩ y∧Below W.heap.size W w'):=fun W h =>
  own14_any ⟨nm,qu,nx,⟨s1,sn,s3,sl⟩,⟨gA,gN,gC,gL⟩,⟨t1,tn,t3,tl⟩,⟨l1,ln,l3,ll⟩⟩ W B (hrw.out W h).2 (hrw.out W h).1 hz hst
 have hSN:=Lib.hid (show sn=sl.length from hr.sets.1)
 have HFK:=Lib.hid hfk
 have HCZ:=Lib.hid hcz
 have HZZ:=Lib.hid hz
 have HV:=Lib.hid hVe
 have HV1:=Lib.hid hV1
 have HZS:=Lib.hid (show sn≤1000000000000 from hz.sets)
 clear hb hsz kt kz hr hp hVe hV hV0 hV1 hfk hC hE0 hF0 hz hcz hfs hst
 go_enter Tryz.func11,Tryz.ntmps11
 have hc:=hAS.out  W1 hW0.out
 have kk:=hKt.out W1 hW0.out
 obtain ⟨c0,c1,c2,c3,c4,c5,c6⟩:=(⟨kk.cell 0,kk.cell 1,kk.cell 2,kk.cell 3,kk.cell 4,kk.cell 5,kk.cell 6⟩:_∧_∧_∧_∧_∧_∧_)
 simp only [zF,zD,zE] at c0 c1 c2 c3 c4 c5 c6
 clear kk
 go_wp2_with fail
 rw [← hW1]
 clear hW1
 refine hc.mono ?_
 clear hc c0 c1 c2 c3 c4 c5 c6
 rintro e w2 ⟨rfl,hb⟩
 have HW2:=Lib.hid (hW0.out.trans (hb.mono hW0.out.size))
 clear hb
 rcases h3 with rfl | rfl | rfl
 ·have HV:=Lib.hid (HV.out.trans (if_neg tZ4))
  have hc:=hFD.out  w2 HW2.out
  have kk:=hKt.out w2 HW2.out
  obtain ⟨c0,c1,c2,c3,c4,c5,c6⟩:=(⟨kk.cell 0,kk.cell 1,kk.cell 2,kk.cell 3,kk.cell 4,kk.cell 5,kk.cell 6⟩:_∧_∧_∧_∧_∧_∧_)
  simp only [zF,zD,zE] at c0 c1 c2 c3 c4 c5 c6
  clear kk
  go_wp2_with fail
  refine hc.mono ?_
  clear hc c0 c1 c2 c3 c4 c5 c6
  rintro e w3 ⟨rfl,hb⟩
  have HW3:=Lib.hid (HW2.out.trans (hb.mono HW2.out.size))
  clear hb
  by_cases hf0:F0<0
  ·exact mZ261
  ·have HV:=Lib.hid (HV.out.trans (if_neg hf0))
   have hFDk:∃ k:Nat,F0=(k:Int):=by
    exact mZ224
   obtain ⟨k,rfl⟩:=hFDk
   have HKL:=Lib.hid (HFK.out k rfl)
   clear hfk2 hf0 HFK
   have hc:=hCP.out w3 HW3.out
   have kk:=hKt.out w3 HW3.out
   obtain ⟨c0,c1,c2,c3,c4,c5,c6⟩:=(⟨kk.cell 0,kk.cell 1,kk.cell 2,kk.cell 3,kk.cell 4,kk.cell 5,kk.cell 6⟩:_∧_∧_∧_∧_∧_∧_)
   simp only [zF,zD,zE] at c0 c1 c2 c3 c4 c5 c6
   clear kk
   clear hCP
   go_wp2_with fail
   refine hc.mono ?_
   clear hc c0 c1 c2 c3 c4 c5 c6
   rintro e w6 ⟨y,rfl,ho6,he6,hb6⟩
   have HW6:=Lib.hid (HW3.out.trans (hb6.mono HW3.out.size))
   have HCON:=Lib.hid ((TenR.eqv_iff _ _).1 he6)
   have hlen:y.sets.n=sn:=by
    exact mZ223
   obtain ⟨mm,mq,mx,⟨m1,m2,m3,ml⟩,⟨n1,n2,n3,nl⟩,⟨p1,p2,p3,pl⟩,⟨q1,q2,q3,ql⟩⟩:=y
   replace hlen:m2=sn:=hlen
   have hms:m2=ml.length:=ho6.sets.1
   have hkm:k<m2:=tZ59
   have hkml:k<ml.length:=tZ1
   obtain ⟨gS,csS,hA,hbg,hblk⟩:=ho6.sets.blk tZ116
   replace hA:m1=some ⟨gS,0,none⟩:=hA
   subst hA
   have hgS6:=hblk.lt
   simp only [TenR.val,TenR.cells,FS.val,strV]
   have hsz3:=hSZ.out w3 HW3.out
   have hsz6:=hSZ.out w6 HW6.out
   have hks:k<sn:=tZ1
   have hB6:=(hrw.out w6 HW6.out).2
   have hb67:=(Below.refl w6.heap.size w6).alloc (Nat.le_refl _) (.cells #[.string ⟨mm.toArray⟩,.int .i64 mq,.int .i64 mx,.slice (some ⟨gS,0,none⟩) m2 m3,.slice n1 n2 n3,.slice p1 p2 p3,.slice q1 q2 q3] 27)
   have ho7:=ho6.below hb67
   have k7:=Blk.new w6 27 #[.string ⟨mm.toArray⟩,.int .i64 mq,.int .i64 mx,.slice (some ⟨gS,0,none⟩) m2 m3,.slice n1 n2 n3,.slice p1 p2 p3,.slice q1 q2 q3]
   have kz7:=(hKz.out w6 HW6.out).alloc (.cells #[.string ⟨mm.toArray⟩,.int .i64 mq,.int .i64 mx,.slice (some ⟨gS,0,none⟩) m2 m3,.slice n1 n2 n3,.slice p1 p2 p3,.slice q1 q2 q3] 27)
   have hbw7:=(hBW.out w6 HW6.out).alloc tZ1 (.cells #[.string ⟨mm.toArray⟩,.int .i64 mq,.int .i64 mx,.slice (some ⟨gS,0,none⟩) m2 m3,.slice n1 n2 n3,.slice p1 p2 p3,.slice q1 q2 q3] 27)
   have kt7:=(hKt.out w6 HW6.out).alloc (.cells #[.string ⟨mm.toArray⟩,.int .i64 mq,.int .i64 mx,.slice (some ⟨gS,0,none⟩) m2 m3,.slice n1 n2 n3,.slice p1 p2 p3,.slice q1 q2 q3] 27)
   have hr7:=(hrw.out w6 HW6.out).1.below (hb67.mono hB6)
   have hsz7:(w6.alloc (.cells #[.string ⟨mm.toArray⟩,.int .i64 mq,.int .i64 mx,.slice (some ⟨gS,0,none⟩) m2 m3,.slice n1 n2 n3,.slice p1 p2 p3,.slice q1 q2 q3] 27)).heap.size=w6.heap.size+1:=tZ3
   obtain ⟨g5,hg5⟩:∃ g,g=w6.heap.size:=⟨_,rfl⟩
   obtain ⟨w7,hW7⟩:∃ W,W=w6.alloc (.cells #[.string ⟨mm.toArray⟩,.int .i64 mq,.int .i64 mx,.slice (some ⟨gS,0,none⟩) m2 m3,.slice n1 n2 n3,.slice p1 p2 p3,.slice q1 q2 q3] 27):=⟨_,rfl⟩
   rw [← hW7] at ho7 k7 kz7 hbw7 kt7 hr7 hsz7
   rw [← hg5] at k7 hsz7
   have hB7:B≤w7.heap.size:=tZ1
   obtain ⟨ad,hsa,-,fq0,fq1,fq2,fq3,fq4⟩:=set_at hr7.sets.2.2 hSN.out hks
   simp only at hsa
   have hrb:=hr7.eachS _ (List.getElem_mem HKL.out)
   have hzx:=HZZ.out.eachS _ (List.getElem_mem HKL.out)
   obtain ⟨x,hxx⟩:∃ x,x=sl[k]'HKL.out:=⟨_,rfl⟩
   obtain ⟨xk,hxk⟩:∃ x,x=ml[k]'hkml:=⟨_,rfl⟩
   have hcon:xk.con=x.con:=by
    exact mZ256
   have hyc:Hid (TenR.con ⟨mm,mq,mx,⟨some ⟨gS,0,none⟩,m2,m3,ml⟩,⟨n1,n2,n3,nl⟩,⟨p1,p2,p3,pl⟩,⟨q1,q2,q3,ql⟩⟩=C):=tZ43
   have HGET:Hid (C.sets[((k:Nat):Int).toNat]?=some x.con):=by
    exact mZ255
   have HV:=Lib.hid (HV.out.trans tZ152)
   simp only [← hxx] at fq0 fq1 fq2 fq3 fq4 hrb hzx
   have hnc:x.body.n≤x.body.c:=hrb.body.2.1
   have HXN:Hid (x.body.n=x.body.l.length):=hrb.body.1
   have hxz:x.body.n≤1000000000000:=hzx.body
   have HCO:=Lib.hid hcon
   replace hrb:=hrb.body.2.2
   obtain ⟨pa,og,⟨bA,bn,bc,bl⟩,⟨zA,zn,zc,zl⟩,⟨oA,on,oc,ol⟩⟩:=x
   simp only at fq0 fq1 fq2 fq3 fq4 hrb hnc hxz
   have HXN:Hid (bn=bl.length):=HXN
   subst hsa
   have hb78:=(Below.refl w7.heap.size w7).alloc (Nat.le_refl _) (.cells #[.string ⟨pa.toArray⟩,.string ⟨og.toArray⟩,.slice bA bn bc,.slice zA zn zc,.slice oA on oc] 42)
   have ho8:=ho7.below hb78
   have k8:=k7.alloc (.cells #[.string ⟨pa.toArray⟩,.string ⟨og.toArray⟩,.slice bA bn bc,.slice zA zn zc,.slice oA on oc] 42)
   have ks8:=Blk.new w7 42 #[.string ⟨pa.toArray⟩,.string ⟨og.toArray⟩,.slice bA bn bc,.slice zA zn zc,.slice oA on oc]
   have kz8:=kz7.alloc (.cells #[.string ⟨pa.toArray⟩,.string ⟨og.toArray⟩,.slice bA bn bc,.slice zA zn zc,.slice oA on oc] 42)
   have hbw8:=hbw7.alloc hbw7.size (.cells #[.string ⟨pa.toArray⟩,.string ⟨og.toArray⟩,.slice bA bn bc,.slice zA zn zc,.slice oA on oc] 42)
   have hrb8:=hrb.below (hb78.mono hB7)
   have hsz8:(w7.alloc (.cells #[.string ⟨pa.toArray⟩,.string ⟨og.toArray⟩,.slice bA bn bc,.slice zA zn zc,.slice oA on oc] 42)).heap.size=w7.heap.size+1:=tZ3
   obtain ⟨w8,hW8⟩:∃ W,W=w7.alloc (.cells #[.string ⟨pa.toArray⟩,.string ⟨og.toArray⟩,.slice bA bn bc,.slice zA zn zc,.slice oA on oc] 42):=⟨_,rfl⟩
   rw [← hW8] at ho8 k8 ks8 kz8 hbw8 hrb8 hsz8
   rw [hsz7] at ks8
   have hB8:B≤w8.heap.size:=tZ1
   obtain ⟨hltS,hfzS,hcS2,hcS4⟩:=set_cells ho8 hkml rfl
   simp only [← hxk] at hcS2 hcS4
   have HG5:=Lib.hid (show gS<g5∧w.heap.size+2≤gS∧g5<w8.heap.size∧w3.heap.size≤w8.heap.size∧w.heap.size+2≤w3.heap.size by omega)
   have hfS:=hfzS (k*5+2)
   have hki:(k:Int)<(m2:Int):=tZ1
   have hki2:(k:Int)<(sn:Int):=tZ1
   have hk0:(0:Int)≤(k:Int):=tZ1
   have hcl:Hid (∀ W,Below w8.heap.size w8 W→Calls Tryz.prog 51 #[.slice bA bn bc,.int .i64 i,.int .i64 ct] W fun e w'=>∃ A1 n1 c1,e=.returned (.tuple #[.slice A1 n1 c1,.int .i64 (freeE bl i ct)])∧Below W.heap.size W w'∧(freeE bl i ct=0→w'.ownsRow w8.heap.size 75 2 (.slice A1 n1 c1) (freeL bl i ct).length (cellsK encB (freeL bl i ct)))):=fun W hW=>by
    have hsW:=hW.size
    refine (rfree_any bl bn HXN.out bA bc i ct W B (hrb8.below (hW.mono hB8)) tZ1 tZ1).mono ?_
    rintro e w' ⟨v,rfl,h1,h2⟩
    obtain ⟨A1,c1,rfl,_⟩:=own_form h1
    exact ⟨A1,_,c1,rfl,h2,fun h=>by unfold freeR at h1 ⊢;rw [if_pos h] at h1 ⊢;exact own_mono h1 hsW⟩
   obtain ⟨EF,hEF⟩:∃ E,E=freeE bl i ct:=⟨_,rfl⟩
   obtain ⟨L1,hL1⟩:∃ L,L=freeL bl i ct:=⟨_,rfl⟩
   rw [← hEF,← hL1] at hcl
   have HVF:Hid (V0=if EF≠0 then (EF,C) else (0,C.putS k ⟨pa,og,L1,zl.map SnapR.con,ol⟩)):=by
    exact mZ253
   have d3:=k8.cell 3
   have d0:=ks8.cell 2
   have dt:=kt7.cell 3
   simp only [zF,zD,zE] at d3 d0 dt
   have K8:=Lib.hid k8
   have KZ8:=Lib.hid kz8
   have HB8:=Lib.hid hbw8
   have HO8:=Lib.hid ho8
   have HC2:Hid (w8.cell? ⟨gS,k*5+2,none⟩=some (.slice xk.body.A xk.body.n xk.body.c)):=hcS2
   have HFS:=Lib.hid hfS
   have HLT:=Lib.hid hltS
   have hSf:Hid (∀ W,Below w8.heap.size w8 W→W.cell? ⟨g5,3,none⟩=some (.slice (some ⟨gS,0,none⟩) m2 m3)∧W.cell? ⟨g5+1,2,none⟩=some (.slice bA bn bc)∧W.cell? ⟨gS,k*5+2,none⟩=some (.slice xk.body.A xk.body.n xk.body.c)∧W.frozen? ⟨gS,k*5+2,none⟩=false):=fun W h=>⟨(h.cell (p:=⟨g5,3,none⟩) tZ15).trans d3,(h.cell (p:=⟨g5+1,2,none⟩) tZ93).trans d0,(h.cell (p:=⟨gS,k*5+2,none⟩) hltS).trans HC2.out,(World.frozen?_of_block (a:=⟨gS,k*5+2,none⟩) (h.block gS hltS)).trans HFS.out⟩
   have HXK:Hid (ml[k]?=some xk):=tZ56
   have HKM:=Lib.hid hkml
   clear HV hEF hL1 hfzS hcS2 hcS4 hltS hfS kt7 ho6 ho7 ho8 k7 k8 ks8 kz7 kz8 hbw7 hbw8 hrb hrb8 hr7 hb67 hb78 hxx hzx hcon hsz3 hsz6 hsz8 hlen hms hbg hblk hgS6 he6 hb6 hxk hB6 hB7 hB8 hKt hKz hBW hSZ hrw hAS hFD hkm hks hnc hxz
   go_upto_block 0 with ((refine wpList_store_new w6 rfl 27 (.tmp 18) (.tmp 34) rfl 27 [.string ⟨#[]⟩,.int .i64 0,.int .i64 0,.slice none 0 0,.slice none 0 0,.slice none 0 0,.slice none 0 0] [.string ⟨mm.toArray⟩,.int .i64 mq,.int .i64 mx,.slice (some ⟨gS,0,none⟩) m2 m3,.slice n1 n2 n3,.slice p1 p2 p3,.slice q1 q2 q3] rfl rfl rfl tZ2 tZ5 ?_;rw [show ([.string ⟨mm.toArray⟩,.int .i64 mq,.int .i64 mx,.slice (some ⟨gS,0,none⟩) m2 m3,.slice n1 n2 n3,.slice p1 p2 p3,.slice q1 q2 q3]:List Value).toArray=#[.string ⟨mm.toArray⟩,.int .i64 mq,.int .i64 mx,.slice (some ⟨gS,0,none⟩) m2 m3,.slice n1 n2 n3,.slice p1 p2 p3,.slice q1 q2 q3] from rfl,← hW7,← hg5];clear hW7 hg5))
   rw [← hW8]
   clear hW8 hsz7
   clear fq0 fq1 fq2 fq3 fq4 dt
   go_cut [2,14,16,18] from 0 to 108 (fun s2 s14 s16 s18 wx=>s2=.int .i64 2∧s14=.pointer (some ⟨w.heap.size+1,0,none⟩)∧s16=.int .i64 EF∧s18=.pointer (some ⟨g5,0,none⟩)∧∃ w9 A1 n1 c1,Hid (Below w8.heap.size w8 w9)∧Hid (EF=0→w9.ownsRow w8.heap.size 75 2 (.slice A1 n1 c1) L1.length (cellsK encB L1))∧wx=w9.setCell ⟨gS,k*5+2,none⟩ (.slice A1 n1 c1))
   case first =>
    go_upto_region 14 with (fail)
    refine wp_region_store 13 [10,14] tZ2 tZ2 [(fun v _=>v=.pointer (some ⟨g5,3,none⟩)),
      (fun v _=>v=.slice (some ⟨gS,0,none⟩) m2 m3),
      (fun v _=>v=.int .i64 (k:Int)),
      (fun v _=>v=.pointer (some ⟨g5+1,2,none⟩)),
      (fun v _=>v=.slice bA bn bc),
      (fun v _=>v=.int .i64 i),
      (fun v _=>v=.int .i64 ct),
      (fun v W=>∃ A n c,v=.tuple #[.slice A n c,.int .i64 EF]∧(EF=0→W.ownsRow w8.heap.size 75 2 (.slice A n c) L1.length (cellsK encB L1))),
      (fun v W=>∃ A n c,v=.tuple #[.slice A n c,.int .i64 EF]∧(EF=0→W.ownsRow w8.heap.size 75 2 (.slice A n c) L1.length (cellsK encB L1))),
      (fun v W=>∃ A n c,v=.slice A n c∧(EF=0→W.ownsRow w8.heap.size 75 2 (.slice A n c) L1.length (cellsK encB L1))),
      (fun v _=>v=.int .i64 EF),
      (fun v _=>v=.pointer (some ⟨gS,k*5,none⟩)),
      (fun v _=>v=.pointer (some ⟨gS,k*5+2,none⟩)),
      (fun _ _=>True),
      (fun v _=>v=.int .i64 EF)] ?_ (early1 tZ2) ?_ ?_ (fun W W'=>∃ A n c,W'=W.setCell ⟨gS,k*5+2,none⟩ (.slice A n c)∧(EF=0→W.ownsRow w8.heap.size 75 2 (.slice A n c) L1.length (cellsK encB L1))) ?_ tZ4 (fun _ _=>trivial) ?_
    ·exact mZ252
    ·intro i oo ho hiS hil mf W hb0 hmi hcl hdeps AA KK hA hK
     rcases i with _ | _ | _ | _ | _ | _ | _ | _ | _ | _ | _ | _ | _ | _ | _ | i
     ·exact mZ251
     ·injection ho with ho;subst ho
      have e0:=eD hdeps hA 0 71
      exact mZ248
     ·exact mZ250
     ·exact mZ249
     ·injection ho with ho;subst ho
      have e3:=eD hdeps hA 3 74
      exact mZ248
     ·exact mZ247
     ·injection ho with ho;subst ho
      have ef4:AA.tmps[4]?.getD undef=.int .i64 ct:=tF hA
      exact zP
     ·injection ho with ho;subst ho
      have e4:=eD hdeps hA 4 75
      have e5:=eD hdeps hA 5 76
      have e6:=eD hdeps hA 6 77
      exact mZ246
     ·injection ho with ho;subst ho
      obtain ⟨x7,hx7,hg7⟩:=hdeps ⟨7,.data⟩ tZ3 rfl
      have hg7:∃ A n c,x7=.tuple #[.slice A n c,.int .i64 EF]∧(EF=0→W.ownsRow w8.heap.size 75 2 (.slice A n c) L1.length (cellsK encB L1)):=hg7
      have hk7:=hg7
      obtain ⟨A7,n7,c7,rfl,how7⟩:=hg7
      have e7:AA.tmps[78]?.getD undef=.tuple #[.slice A7 n7 c7,.int .i64 EF]:=tO hA hx7
      clear hA hdeps hcl hmi hiS hil hx7
      have hK0:KK (AA.put (some 70) _) _:=hK (.tuple #[.slice A7 n7 c7,.int .i64 EF]) _ (Below.refl _ _) ⟨A7,n7,c7,rfl,how7⟩
      exact mZ73
     ·injection ho with ho;subst ho
      obtain ⟨x8,hx8,hg8⟩:=hdeps ⟨8,.data⟩ tZ3 rfl
      have hg8:∃ A n c,x8=.tuple #[.slice A n c,.int .i64 EF]∧(EF=0→W.ownsRow w8.heap.size 75 2 (.slice A n c) L1.length (cellsK encB L1)):=hg8
      have hk8:=hg8
      obtain ⟨A8,n8,c8,rfl,how8⟩:=hg8
      have e8:AA.tmps[70]?.getD undef=.tuple #[.slice A8 n8 c8,.int .i64 EF]:=tO hA hx8
      clear hA hdeps hcl hmi hiS hil hx8
      have hK0:KK (AA.put (some 79) _) _:=hK (.slice A8 n8 c8) _ (Below.refl _ _) ⟨A8,n8,c8,rfl,how8⟩
      exact mZ73
     ·exact absurd tZ4 hil
     ·injection ho with ho;subst ho
      have e1:=eD hdeps hA 1 72
      have e2:=eD hdeps hA 2 73
      exact zP
     ·injection ho with ho;subst ho
      have e11:=eD hdeps hA 11 81
      exact zP
     ·exact absurd rfl hiS
     ·exact absurd tZ4 hil
     ·simp at ho
    ·intro i oo ho hil mf W W9 hmi hdeps AA KK hA hK
     rcases i with _ | _ | _ | _ | _ | _ | _ | _ | _ | _ | _ | _ | _ | _ | _ | i
     ·exact mZ245
     ·exact mZ245
     ·exact mZ245
     ·exact mZ245
     ·exact mZ245
     ·exact mZ245
     ·exact mZ245
     ·exact mZ245
     ·exact mZ245
     ·exact mZ245
     ·injection ho with ho;subst ho
      obtain ⟨x8,hx8,hg8⟩:=hdeps ⟨8,.data⟩ tZ3 rfl tZ4
      have hg8:∃ A n c,x8=.tuple #[.slice A n c,.int .i64 EF]∧(EF=0→W9.ownsRow w8.heap.size 75 2 (.slice A n c) L1.length (cellsK encB L1)):=hg8
      obtain ⟨A8,n8,c8,rfl,how8⟩:=hg8
      have e8:AA.tmps[70]?.getD undef=.tuple #[.slice A8 n8 c8,.int .i64 EF]:=tO hA hx8
      clear hA hdeps hmi
      have hK0:KK (AA.put (some 80) _) _:=hK (.int .i64 EF) (fun _=>Eq.refl _)
      exact mZ73
     ·exact mZ245
     ·exact mZ245
     ·exact mZ245
     ·injection ho with ho;subst ho
      have e10:=eL hdeps hA 10 80
      exact mZ244
     ·exact absurd hil tZ3
    ·intro oo ho mf W hb0 hmi hdeps AA KK hA hK
     injection ho with ho;subst ho
     obtain ⟨x9,hx9,hg9⟩:=hdeps ⟨9,.data⟩ tZ3 rfl
     have hg9:∃ A n c,x9=.slice A n c∧(EF=0→W.ownsRow w8.heap.size 75 2 (.slice A n c) L1.length (cellsK encB L1)):=hg9
     obtain ⟨A9,n9,c9,rfl,how9⟩:=hg9
     have e9:AA.tmps[79]?.getD undef=.slice A9 n9 c9:=tO hA hx9
     have e12:=eD hdeps hA 12 82
     exact mZ243
    ·intro mf W9 W hb9 hR hall hSm
     have zm0:=dV (hall 0 tZ3 tZ4)
     have zm1:=dV (hall 1 tZ3 tZ4)
     have zm2:=dV (hall 2 tZ3 tZ4)
     have zm3:=dV (hall 3 tZ3 tZ4)
     have zm4:=dV (hall 4 tZ3 tZ4)
     have zm5:=dV (hall 5 tZ3 tZ4)
     have zm6:=dV (hall 6 tZ3 tZ4)
     obtain ⟨x7,zm7,hg7⟩:=hall 7 tZ3 tZ4
     have hg7:∃ A n c,x7=.tuple #[.slice A n c,.int .i64 EF]∧(EF=0→W9.ownsRow w8.heap.size 75 2 (.slice A n c) L1.length (cellsK encB L1)):=hg7
     obtain ⟨x8,zm8,hg8⟩:=hall 8 tZ3 tZ4
     have hg8:∃ A n c,x8=.tuple #[.slice A n c,.int .i64 EF]∧(EF=0→W9.ownsRow w8.heap.size 75 2 (.slice A n c) L1.length (cellsK encB L1)):=hg8
     obtain ⟨x9,zm9,hg9⟩:=hall 9 tZ3 tZ4
     have hg9:∃ A n c,x9=.slice A n c∧(EF=0→W9.ownsRow w8.heap.size 75 2 (.slice A n c) L1.length (cellsK encB L1)):=hg9
     have zm10:=dV (hall 10 tZ3 tZ4)
     have zm11:=dV (hall 11 tZ3 tZ4)
     have zm12:=dV (hall 12 tZ3 tZ4)
     have zm14:=dV (hall 14 tZ3 tZ4)
     rw [frameM_all tZ2 [.pointer (some ⟨g5,3,none⟩),.slice (some ⟨gS,0,none⟩) m2 m3,.int .i64 (k:Int),.pointer (some ⟨g5+1,2,none⟩),.slice bA bn bc,.int .i64 i,.int .i64 ct,x7,x8,x9,.int .i64 EF,.pointer (some ⟨gS,k*5,none⟩),.pointer (some ⟨gS,k*5+2,none⟩),undef,.int .i64 EF] rfl (fun i hi=>by rcases i with _ | _ | _ | _ | _ | _ | _ | _ | _ | _ | _ | _ | _ | _ | _ | i <;> first | assumption | (simp at hi;omega))]
     exact mZ242
   case rest =>
    obtain ⟨rfl,rfl,rfl,rfl,w9,A1,n1,c1,hb9,hown,hW10⟩:=hcut
    obtain ⟨w10,h10⟩:∃ W,W=wc:=⟨_,rfl⟩
    subst h10
    have hb9:=hb9.out
    have hown:=hown.out
    clear d3 d0
    have k10:=(K8.out.below hb9 K8.out.lt).far (p:=⟨gS,k*5+2,none⟩) tZ15 (.slice A1 n1 c1)
    have kz10:=(KZ8.out.below hb9 KZ8.out.lt).far (p:=⟨gS,k*5+2,none⟩) tZ15 (.slice A1 n1 c1)
    have hb10:=(HB8.out.trans (hb9.mono HB8.out.size)).setCell (p:=⟨gS,k*5+2,none⟩) tZ15 (.slice A1 n1 c1)
    have hset:=TenO.setF (HO8.out.below hb9) k 2 HKM.out tZ4
    have ho9:=HO8.out.below hb9
    have hb9s:=hb9.size
    rw [← hW10] at k10 kz10 hb10
    have K10:=Lib.hid k10
    have KZ10:=Lib.hid kz10
    have HB10:=Lib.hid hb10
    by_cases hE0:EF=0
    ·have hown:=hown hE0
     have hn1:n1=L1.length:=by
      exact mZ240
     subst hn1
     have hSx:=ho9.eachS _ (List.getElem_mem HKM.out)
     have hxk2:ml[k]'HKM.out=xk:=tZ24
     have hSx:SetO w9 w3.heap.size xk:=tZ121
     obtain ⟨gg,hgg,_,hTO,_⟩:=hset ⟨xk.path,xk.org,⟨A1,L1.length,c1,L1⟩,xk.snaps,xk.own⟩ (.slice A1 L1.length c1) (fun z hz=>by have h1:=HXK.out;rw [h1] at hz;cases hz;rfl) ⟨⟨rfl,own_mono hown tZ63⟩,hSx.snaps,hSx.each,hSx.own⟩
     have hgg:some (⟨gS,0,none⟩:Addr)=some ⟨gg,0,none⟩:=hgg
     injection hgg with hgg
     injection hgg with hgg
     subst hgg
     rw [← hW10] at hTO
     have HO10:=Lib.hid hTO
     have HC10:Hid (TenR.con (TenR.putS ⟨mm,mq,mx,⟨some ⟨gS,0,none⟩,m2,m3,ml⟩,⟨n1,n2,n3,nl⟩,⟨p1,p2,p3,pl⟩,⟨q1,q2,q3,ql⟩⟩ k ⟨xk.path,xk.org,⟨A1,L1.length,c1,L1⟩,xk.snaps,xk.own⟩)=C.putS k ⟨pa,og,L1,zl.map SnapR.con,ol⟩):=by
      exact mZ239
     subst hE0
     have HV0:=Lib.hid (HVF.out.trans (if_neg tZ4))
     obtain ⟨d0,d1,d2,d3,d4,d5,d6⟩:=(⟨K10.out.cell 0,K10.out.cell 1,K10.out.cell 2,K10.out.cell 3,K10.out.cell 4,K10.out.cell 5,K10.out.cell 6⟩:_∧_∧_∧_∧_∧_∧_)
     simp only [zF,zD,zE] at d0 d1 d2 d3 d4 d5 d6
     clear k10 kz10 hb10 hset ho9 hb9s hown hSx hxk2 hTO hb9
     have HX:Hid (V=(0,C.putS k ⟨pa,og,L1,zl.map SnapR.con,ol⟩)):=tZ131
     clear hW10
     go_upto_region 21 with (fail)
     obtain ⟨WR,hW4,hth,HL,HBW,hgw⟩:=res7 (g:=(w.heap.size+1)) [.string ⟨mm.toArray⟩,.int .i64 mq,.int .i64 mx,.slice (some ⟨gS,0,none⟩) m2 m3,.slice n1 n2 n3,.slice p1 p2 p3,.slice q1 q2 q3] KZ10.out HB10.out tZ1
     have HOO:=Lib.hid ((TenO.keptT HO10.out hgw KZ10.out offT_ten).mono (base':=w.heap.size) tZ63)
     clear hgw
     go_wp2_with (refine wpList_store_mid rfl 27 (.tmp 14) (.tmp 108) rfl ((w.heap.size+1)) 0 #[.string ⟨mm.toArray⟩,.int .i64 mq,.int .i64 mx,.slice (some ⟨gS,0,none⟩) m2 m3,.slice n1 n2 n3,.slice p1 p2 p3,.slice q1 q2 q3] rfl rfl hth.out tZ2 tZ5 ?_;rw [← hW4];clear hW4)
     exact mZ238
    ·have HX:Hid (V=(EF,C)):=tZ88
     exact mZ237
 ·have HV:=Lib.hid (HV.out.trans (if_pos tZ4))
  have HX:Hid (V=(9,C)):=tZ58
  exact mZ236
 ·have HV:=Lib.hid (HV.out.trans (if_pos tZ4))
  have HX:Hid (V=(31,C)):=tZ58
  exact mZ235
end Go.Proofs.YtcgclpcocdappaaGreatDoor
