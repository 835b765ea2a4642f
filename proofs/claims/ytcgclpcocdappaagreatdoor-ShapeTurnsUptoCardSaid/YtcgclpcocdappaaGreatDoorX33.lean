/-
  The page's Turn, kind 4. shape.Set, Unset: a set's properties turned. Turned sets: sizes, and what is settled in place is what is settled.
-/
import Derived.Test.YtcgclpcocdappaaGreatDoorXM1
import Derived.Test.YtcgclpcocdappaaGreatDoorX0
import Derived.Test.YtcgclpcocdappaaGreatDoorX27
import Derived.Test.YtcgclpcocdappaaGreatDoorX8
import Derived.Test.YtcgclpcocdappaaGreatDoorX29
import Derived.Test.YtcgclpcocdappaaGreatDoorX12
import Derived.Test.YtcgclpcocdappaaGreatDoorX25
import Derived.Test.YtcgclpcocdappaaGreatDoorX30
import Derived.Test.YtcgclpcocdappaaGreatDoorX26
namespace Go.Proofs.YtcgclpcocdappaaGreatDoor
open Go.RowKit
set_option maxRecDepth 100000 in
set_option maxHeartbeats 8000000 in
theorem rturn4_any (t:TenR) (p:BS) (pn:BS) (w:World) (B:Nat) (hB:B≤w.heap.size) (hr:t.rd w B) (hz:t.sz) (hst:t.stages.n≤500000000000) (hp:p.length≤4000000000) :
  Calls Tryz.prog 11 #[t.val,.string ⟨p.toArray⟩,.int .i64 4,.int .i64 0,.int .i64 0,.string ⟨pn.toArray⟩,.string ⟨#[]⟩] w (TenPost w (t.con.changed p (unsetF pn))):=by
 have h3:t.con.ask p=0∨t.con.ask p=9∨t.con.ask p=31:=tZ42
 obtain ⟨V,hV⟩:∃ V,V=t.con.changed p (unsetF pn):=⟨_,rfl⟩
 obtain ⟨V0,hV0⟩:∃ V,V=t.con.changed p (unsetF pn):=⟨_,rfl⟩
 have hV1:V=V0:=by rw [hV,hV0]
 have hVe:V0=if t.con.ask p≠0 then (t.con.ask p,t.con) else if t.con.find p<0 then (71,t.con) else match t.con.sets[(t.con.find p).toNat]? with
  | none=>(71,t.con)
  | some s=>if (unsetF pn s).1≠0 then ((unsetF pn s).1,t.con) else (0,t.con.putS (t.con.find p).toNat (unsetF pn s).2):=hV0
 rw [← hV]
 have hcz:=TenC.sz_of hr hz
 have hfk:∀ k:Nat,t.con.find p=(k:Int)→k<t.sets.l.length:=fun k hk=>by
  exact mZ228
 have hfk2:t.con.find p<0∨∃ k:Nat,t.con.find p=(k:Int):=by
  exact mZ227
 have hfs:=findS_con t p
 obtain ⟨nm,qu,nx,⟨s1,sn,s3,sl⟩,⟨gA,gN,gC,gL⟩,⟨t1,tn,t3,tl⟩,⟨l1,ln,l3,ll⟩⟩:=t
 show Calls Tryz.prog 11 #[.agg #[.string ⟨nm.toArray⟩,.int .i64 qu,.int .i64 nx,.slice s1 sn s3,.slice gA gN gC,.slice t1 tn t3,.slice l1 ln l3],.string ⟨p.toArray⟩,.int .i64 4,.int .i64 0,.int .i64 0,.string ⟨pn.toArray⟩,.string ⟨#[]⟩] w _
 have hb:=(((Below.refl w.heap.size w).alloc (Nat.le_refl _) (.cells #[.string ⟨nm.toArray⟩,.int .i64 qu,.int .i64 nx,.slice s1 sn s3,.slice gA gN gC,.slice t1 tn t3,.slice l1 ln l3] 27)).alloc tZ3 (.cells #[.string ⟨#[]⟩,.int .i64 0,.int .i64 0,.slice none 0 0,.slice none 0 0,.slice none 0 0,.slice none 0 0] 27))
 have kt:=Blk.new w 27 #[.string ⟨nm.toArray⟩,.int .i64 qu,.int .i64 nx,.slice s1 sn s3,.slice gA gN gC,.slice t1 tn t3,.slice l1 ln l3]
 replace kt:=kt.alloc (.cells #[.string ⟨#[]⟩,.int .i64 0,.int .i64 0,.slice none 0 0,.slice none 0 0,.slice none 0 0,.slice none 0 0] 27)
 have kz:=Blk.new (w.alloc (.cells #[.string ⟨nm.toArray⟩,.int .i64 qu,.int .i64 nx,.slice s1 sn s3,.slice gA gN gC,.slice t1 tn t3,.slice l1 ln l3] 27)) 27 #[.string ⟨#[]⟩,.int .i64 0,.int .i64 0,.slice none 0 0,.slice none 0 0,.slice none 0 0,.slice none 0 0]
 rw [show (w.alloc (.cells #[.string ⟨nm.toArray⟩,.int .i64 qu,.int .i64 nx,.slice s1 sn s3,.slice gA gN gC,.slice t1 tn t3,.slice l1 ln l3] 27)).heap.size=w.heap.size+1 by simp] at kz
 have hsz:((w.alloc (.cells #[.string ⟨nm.toArray⟩,.int .i64 qu,.int .i64 nx,.slice s1 sn s3,.slice gA gN gC,.slice t1 tn t3,.slice l1 ln l3] 27)).alloc (.cells #[.string ⟨#[]⟩,.int .i64 0,.int .i64 0,.slice none 0 0,.slice none 0 0,.slice none 0 0,.slice none 0 0] 27)).heap.size=w.heap.size+2:=tZ3
 obtain ⟨W1,hW1⟩:∃ W,W=((w.alloc (.cells #[.string ⟨nm.toArray⟩,.int .i64 qu,.int .i64 nx,.slice s1 sn s3,.slice gA gN gC,.slice t1 tn t3,.slice l1 ln l3] 27)).alloc (.cells #[.string ⟨#[]⟩,.int .i64 0,.int .i64 0,.slice none 0 0,.slice none 0 0,.slice none 0 0,.slice none 0 0] 27)):=⟨_,rfl⟩
 rw [← hW1] at hb hsz kt kz
 have hKt:Hid (∀ W,Below W1.heap.size W1 W→Blk W w.heap.size 27 #[.string ⟨nm.toArray⟩,.int .i64 qu,.int .i64 nx,.slice s1 sn s3,.slice gA gN gC,.slice t1 tn t3,.slice l1 ln l3]):=fun W h=>kt.below h tZ1
 have hKz:Hid (∀ W,Below W1.heap.size W1 W→Blk W (w.heap.size+1) 27 #[.string ⟨#[]⟩,.int .i64 0,.int .i64 0,.slice none 0 0,.slice none 0 0,.slice none 0 0,.slice none 0 0]):=fun W h=>kz.below h tZ1
 have hBW:Hid (∀ W,Below W1.heap.size W1 W→Below w.heap.size w W):=fun W h=>hb.trans (h.mono tZ1)
 have hSZ:Hid (∀ W,Below W1.heap.size W1 W→w.heap.size+2≤W.heap.size):=fun W h=>by have:=h.size;omega
 have hW0:Hid (Below W1.heap.size W1 W1):=Below.refl _ _
 have hrw:Hid (∀ W,Below W1.heap.size W1 W→TenR.rd W B ⟨nm,qu,nx,⟨s1,sn,s3,sl⟩,⟨gA,gN,gC,gL⟩,⟨t1,tn,t3,tl⟩,⟨l1,ln,l3,ll⟩⟩∧B≤W.heap.size):=fun W h =>
  ⟨TenR.rd.below hr ((hBW.out W h).mono hB),by have:=hSZ.out W h;omega⟩
 obtain ⟨C,hC⟩:∃ C,C=TenR.con ⟨nm,qu,nx,⟨s1,sn,s3,sl⟩,⟨gA,gN,gC,gL⟩,⟨t1,tn,t3,tl⟩,⟨l1,ln,l3,ll⟩⟩:=⟨_,rfl⟩
 have hHC:=Lib.hid hC
 rw [← hC] at h3 hVe hfk hfk2 hcz hfs
 obtain ⟨E0,hE0⟩:∃ E,E=C.ask p:=⟨_,rfl⟩
 obtain ⟨F0,hF0⟩:∃ F,F=C.find p:=⟨_,rfl⟩
 have hAS:Hid (∀ W,Below W1.heap.size W1 W→Calls Tryz.prog 48 #[.agg #[.string ⟨nm.toArray⟩,.int .i64 qu,.int .i64 nx,.slice s1 sn s3,.slice gA gN gC,.slice t1 tn t3,.slice l1 ln l3],.string ⟨p.toArray⟩] W fun e w'=>e=.returned (.int .i64 E0)∧Below W.heap.size W w'):=fun W h=>by
  exact mZ259
 have hFD:Hid (∀ W,Below W1.heap.size W1 W→Calls Tryz.prog 10 #[.agg #[.string ⟨nm.toArray⟩,.int .i64 qu,.int .i64 nx,.slice s1 sn s3,.slice gA gN gC,.slice t1 tn t3,.slice l1 ln l3],.string ⟨p.toArray⟩] W fun e w'=>e=.returned (.int .i64 F0)∧Below W.heap.size W w'):=fun W h=>by
  exact mZ258
 rw [← hE0,← hF0] at hVe
 rw [← hE0] at h3
 rw [← hF0] at hfk hfk2
 have hCP:Hid (∀ W,Below W1.heap.size W1 W→Calls Tryz.prog 49 #[.agg #[.string ⟨nm.toArray⟩,.int .i64 qu,.int .i64 nx,.slice s1 sn s3,.slice gA gN gC,.slice t1 tn t3,.slice l1 ln l3]] W fun e w'=>∃ y:TenR,e=.returned y.val∧TenO w' W.heap.size y∧TenR.eqv ⟨nm,qu,nx,⟨s1,sn,s3,sl⟩,⟨gA,gN,gC,gL⟩,⟨t1,tn,t3,tl⟩,⟨l1,ln,l3,ll⟩⟩ y∧Below W.heap.size W w'):=fun W h =>
  own14_any ⟨nm,qu,nx,⟨s1,sn,s3,sl⟩,⟨gA,gN,gC,gL⟩,⟨t1,tn,t3,tl⟩,⟨l1,ln,l3,ll⟩⟩ W B (hrw.out W h).2 (hrw.out W h).1 hz hst
 have hSN:=Lib.hid (show sn=sl.length from hr.sets.1)
 have HFK:=Lib.hid hfk
 have HCZ:=Lib.hid hcz
 have HZZ:=Lib.hid hz
 have HV:=Lib.hid hVe
 have HV1:=Lib.hid hV1
 have HZS:=Lib.hid (show sn≤1000000000000 from hz.sets)
 clear hb hsz kt kz hr hp hVe hV hV0 hV1 hfk hC hE0 hF0 hz hcz hfs hst
 go_enter Tryz.func11,Tryz.ntmps11
 have hc:=hAS.out  W1 hW0.out
 have kk:=hKt.out W1 hW0.out
 obtain ⟨c0,c1,c2,c3,c4,c5,c6⟩:=(⟨kk.cell 0,kk.cell 1,kk.cell 2,kk.cell 3,kk.cell 4,kk.cell 5,kk.cell 6⟩:_∧_∧_∧_∧_∧_∧_)
 simp only [zF,zD,zE] at c0 c1 c2 c3 c4 c5 c6
 clear kk
 go_wp2_with fail
 rw [← hW1]
 clear hW1
 refine hc.mono ?_
 clear hc c0 c1 c2 c3 c4 c5 c6
 rintro e w2 ⟨rfl,hb⟩
 have HW2:=Lib.hid (hW0.out.trans (hb.mono hW0.out.size))
 clear hb
 rcases h3 with rfl | rfl | rfl
 ·have HV:=Lib.hid (HV.out.trans (if_neg tZ4))
  have hc:=hFD.out  w2 HW2.out
  have kk:=hKt.out w2 HW2.out
  obtain ⟨c0,c1,c2,c3,c4,c5,c6⟩:=(⟨kk.cell 0,kk.cell 1,kk.cell 2,kk.cell 3,kk.cell 4,kk.cell 5,kk.cell 6⟩:_∧_∧_∧_∧_∧_∧_)
  simp only [zF,zD,zE] at c0 c1 c2 c3 c4 c5 c6
  clear kk
  go_wp2_with fail
  refine hc.mono ?_
  clear hc c0 c1 c2 c3 c4 c5 c6
  rintro e w3 ⟨rfl,hb⟩
  have HW3:=Lib.hid (HW2.out.trans (hb.mono HW2.out.size))
  clear hb
  by_cases hf0:F0<0
  ·exact mZ261
  ·have HV:=Lib.hid (HV.out.trans (if_neg hf0))
   have hFDk:∃ k:Nat,F0=(k:Int):=by
    exact mZ224
   obtain ⟨k,rfl⟩:=hFDk
   have HKL:=Lib.hid (HFK.out k rfl)
   clear hfk2 hf0 HFK
   have hc:=hCP.out w3 HW3.out
   have kk:=hKt.out w3 HW3.out
   obtain ⟨c0,c1,c2,c3,c4,c5,c6⟩:=(⟨kk.cell 0,kk.cell 1,kk.cell 2,kk.cell 3,kk.cell 4,kk.cell 5,kk.cell 6⟩:_∧_∧_∧_∧_∧_∧_)
   simp only [zF,zD,zE] at c0 c1 c2 c3 c4 c5 c6
   clear kk
   clear hCP
   go_wp2_with fail
   refine hc.mono ?_
   clear hc c0 c1 c2 c3 c4 c5 c6
   rintro e w6 ⟨y,rfl,ho6,he6,hb6⟩
   have HW6:=Lib.hid (HW3.out.trans (hb6.mono HW3.out.size))
   have HCON:=Lib.hid ((TenR.eqv_iff _ _).1 he6)
   have hlen:y.sets.n=sn:=by
    exact mZ223
   obtain ⟨mm,mq,mx,⟨m1,m2,m3,ml⟩,⟨n1,n2,n3,nl⟩,⟨p1,p2,p3,pl⟩,⟨q1,q2,q3,ql⟩⟩:=y
   replace hlen:m2=sn:=hlen
   have hms:m2=ml.length:=ho6.sets.1
   have hkm:k<m2:=tZ59
   have hkml:k<ml.length:=tZ1
   obtain ⟨gS,csS,hA,hbg,hblk⟩:=ho6.sets.blk tZ116
   replace hA:m1=some ⟨gS,0,none⟩:=hA
   subst hA
   have hgS6:=hblk.lt
   simp only [TenR.val,TenR.cells,FS.val,strV]
   have hsz3:=hSZ.out w3 HW3.out
   have hsz6:=hSZ.out w6 HW6.out
   have hks:k<sn:=tZ1
   have hB6:=(hrw.out w6 HW6.out).2
   have hb67:=(Below.refl w6.heap.size w6).alloc (Nat.le_refl _) (.cells #[.string ⟨mm.toArray⟩,.int .i64 mq,.int .i64 mx,.slice (some ⟨gS,0,none⟩) m2 m3,.slice n1 n2 n3,.slice p1 p2 p3,.slice q1 q2 q3] 27)
   have ho7:=ho6.below hb67
   have k7:=Blk.new w6 27 #[.string ⟨mm.toArray⟩,.int .i64 mq,.int .i64 mx,.slice (some ⟨gS,0,none⟩) m2 m3,.slice n1 n2 n3,.slice p1 p2 p3,.slice q1 q2 q3]
   have kz7:=(hKz.out w6 HW6.out).alloc (.cells #[.string ⟨mm.toArray⟩,.int .i64 mq,.int .i64 mx,.slice (some ⟨gS,0,none⟩) m2 m3,.slice n1 n2 n3,.slice p1 p2 p3,.slice q1 q2 q3] 27)
   have hbw7:=(hBW.out w6 HW6.out).alloc tZ1 (.cells #[.string ⟨mm.toArray⟩,.int .i64 mq,.int .i64 mx,.slice (some ⟨gS,0,none⟩) m2 m3,.slice n1 n2 n3,.slice p1 p2 p3,.slice q1 q2 q3] 27)
   have kt7:=(hKt.out w6 HW6.out).alloc (.cells #[.string ⟨mm.toArray⟩,.int .i64 mq,.int .i64 mx,.slice (some ⟨gS,0,none⟩) m2 m3,.slice n1 n2 n3,.slice p1 p2 p3,.slice q1 q2 q3] 27)
   have hr7:=(hrw.out w6 HW6.out).1.below (hb67.mono hB6)
   have hsz7:(w6.alloc (.cells #[.string ⟨mm.toArray⟩,.int .i64 mq,.int .i64 mx,.slice (some ⟨gS,0,none⟩) m2 m3,.slice n1 n2 n3,.slice p1 p2 p3,.slice q1 q2 q3] 27)).heap.size=w6.heap.size+1:=tZ3
   obtain ⟨g5,hg5⟩:∃ g,g=w6.heap.size:=⟨_,rfl⟩
   obtain ⟨w7,hW7⟩:∃ W,W=w6.alloc (.cells #[.string ⟨mm.toArray⟩,.int .i64 mq,.int .i64 mx,.slice (some ⟨gS,0,none⟩) m2 m3,.slice n1 n2 n3,.slice p1 p2 p3,.slice q1 q2 q3] 27):=⟨_,rfl⟩
   rw [← hW7] at ho7 k7 kz7 hbw7 kt7 hr7 hsz7
   rw [← hg5] at k7 hsz7
   have hB7:B≤w7.heap.size:=tZ1
   obtain ⟨ad,hsa,-,fq0,fq1,fq2,fq3,fq4⟩:=set_at hr7.sets.2.2 hSN.out hks
   simp only at hsa
   have hrb:=hr7.eachS _ (List.getElem_mem HKL.out)
   have hzx:=HZZ.out.eachS _ (List.getElem_mem HKL.out)
   obtain ⟨x,hxx⟩:∃ x,x=sl[k]'HKL.out:=⟨_,rfl⟩
   obtain ⟨xk,hxk⟩:∃ x,x=ml[k]'hkml:=⟨_,rfl⟩
   have hcon:xk.con=x.con:=by
    exact mZ256
   have hyc:Hid (TenR.con ⟨mm,mq,mx,⟨some ⟨gS,0,none⟩,m2,m3,ml⟩,⟨n1,n2,n3,nl⟩,⟨p1,p2,p3,pl⟩,⟨q1,q2,q3,ql⟩⟩=C):=tZ43
   have HGET:Hid (C.sets[((k:Nat):Int).toNat]?=some x.con):=by
    exact mZ255
   have HV:=Lib.hid (HV.out.trans tZ152)
   simp only [← hxx] at fq0 fq1 fq2 fq3 fq4 hrb hzx
   have hnc:x.own.n≤x.own.c:=hrb.own.2.1
   have HXN:Hid (x.own.n=x.own.l.length):=hrb.own.1
   have hxz:x.own.n≤1000000000000:=hzx.own
   have HCO:=Lib.hid hcon
   have HSV:Hid (strOk x.own.l):=tZ52
   replace hrb:=hrb.own.2.2
   obtain ⟨pa,og,⟨bA,bn,bc,bl⟩,⟨zA,zn,zc,zl⟩,⟨oA,on,oc,ol⟩⟩:=x
   simp only at fq0 fq1 fq2 fq3 fq4 hrb hnc hxz
   have HXN:Hid (on=ol.length):=HXN
   subst hsa
   have hb78:=(Below.refl w7.heap.size w7).alloc (Nat.le_refl _) (.cells #[.string ⟨pa.toArray⟩,.string ⟨og.toArray⟩,.slice bA bn bc,.slice zA zn zc,.slice oA on oc] 42)
   have ho8:=ho7.below hb78
   have k8:=k7.alloc (.cells #[.string ⟨pa.toArray⟩,.string ⟨og.toArray⟩,.slice bA bn bc,.slice zA zn zc,.slice oA on oc] 42)
   have ks8:=Blk.new w7 42 #[.string ⟨pa.toArray⟩,.string ⟨og.toArray⟩,.slice bA bn bc,.slice zA zn zc,.slice oA on oc]
   have kz8:=kz7.alloc (.cells #[.string ⟨pa.toArray⟩,.string ⟨og.toArray⟩,.slice bA bn bc,.slice zA zn zc,.slice oA on oc] 42)
   have hbw8:=hbw7.alloc hbw7.size (.cells #[.string ⟨pa.toArray⟩,.string ⟨og.toArray⟩,.slice bA bn bc,.slice zA zn zc,.slice oA on oc] 42)
   have hrb8:=hrb.below (hb78.mono hB7)
   have hsz8:(w7.alloc (.cells #[.string ⟨pa.toArray⟩,.string ⟨og.toArray⟩,.slice bA bn bc,.slice zA zn zc,.slice oA on oc] 42)).heap.size=w7.heap.size+1:=tZ3
   obtain ⟨w8,hW8⟩:∃ W,W=w7.alloc (.cells #[.string ⟨pa.toArray⟩,.string ⟨og.toArray⟩,.slice bA bn bc,.slice zA zn zc,.slice oA on oc] 42):=⟨_,rfl⟩
   rw [← hW8] at ho8 k8 ks8 kz8 hbw8 hrb8 hsz8
   rw [hsz7] at ks8
   have hB8:B≤w8.heap.size:=tZ1
   obtain ⟨hltS,hfzS,hcS2,hcS4⟩:=set_cells ho8 hkml rfl
   simp only [← hxk] at hcS2 hcS4
   have HG5:=Lib.hid (show gS<g5∧w.heap.size+2≤gS∧g5<w8.heap.size∧w3.heap.size≤w8.heap.size∧w.heap.size+2≤w3.heap.size by omega)
   have hfS:=hfzS (k*5+4)
   have hki:(k:Int)<(m2:Int):=tZ1
   have hki2:(k:Int)<(sn:Int):=tZ1
   have hk0:(0:Int)≤(k:Int):=tZ1
   have hcl:Hid (∀ W,Below w8.heap.size w8 W→Calls Tryz.prog 53 #[.slice oA on oc,.string ⟨pn.toArray⟩] W fun e w'=>∃ A1 n1 c1,e=.returned (.tuple #[.slice A1 n1 c1,.int .i64 (unsetE ol pn)])∧Below W.heap.size W w'∧(unsetE ol pn=0→w'.ownsRow w8.heap.size 78 2 (.slice A1 n1 c1) (dropP pn ol).length (cellsK encP (dropP pn ol)))):=fun W hW=>by
    have hsW:=hW.size
    refine (runset_any ol on HXN.out oA oc pn W B (hrb8.below (hW.mono hB8)) tZ1 tZ1 HSV.out).mono ?_
    exact mZ254
   obtain ⟨EF,hEF⟩:∃ E,E=unsetE ol pn:=⟨_,rfl⟩
   obtain ⟨L1,hL1⟩:∃ L,L=dropP pn ol:=⟨_,rfl⟩
   rw [← hEF,← hL1] at hcl
   have HVF:Hid (V0=if EF≠0 then (EF,C) else (0,C.putS k ⟨pa,og,bl,zl.map SnapR.con,L1⟩)):=by
    exact mZ253
   have d3:=k8.cell 3
   have d0:=ks8.cell 4
   have dt:=kt7.cell 3
   simp only [zF,zD,zE] at d3 d0 dt
   have K8:=Lib.hid k8
   have KZ8:=Lib.hid kz8
   have HB8:=Lib.hid hbw8
   have HO8:=Lib.hid ho8
   have HC2:Hid (w8.cell? ⟨gS,k*5+4,none⟩=some (.slice xk.own.A xk.own.n xk.own.c)):=hcS4
   have HFS:=Lib.hid hfS
   have HLT:=Lib.hid hltS
   have hSf:Hid (∀ W,Below w8.heap.size w8 W→W.cell? ⟨g5,3,none⟩=some (.slice (some ⟨gS,0,none⟩) m2 m3)∧W.cell? ⟨g5+1,4,none⟩=some (.slice oA on oc)∧W.cell? ⟨gS,k*5+4,none⟩=some (.slice xk.own.A xk.own.n xk.own.c)∧W.frozen? ⟨gS,k*5+4,none⟩=false):=fun W h=>⟨(h.cell (p:=⟨g5,3,none⟩) tZ15).trans d3,(h.cell (p:=⟨g5+1,4,none⟩) tZ93).trans d0,(h.cell (p:=⟨gS,k*5+4,none⟩) hltS).trans HC2.out,(World.frozen?_of_block (a:=⟨gS,k*5+4,none⟩) (h.block gS hltS)).trans HFS.out⟩
   have HXK:Hid (ml[k]?=some xk):=tZ56
   have HKM:=Lib.hid hkml
   clear HV hEF hL1 hfzS hcS2 hcS4 hltS hfS kt7 ho6 ho7 ho8 k7 k8 ks8 kz7 kz8 hbw7 hbw8 hrb hrb8 hr7 hb67 hb78 hxx hzx hcon hsz3 hsz6 hsz8 hlen hms hbg hblk hgS6 he6 hb6 hxk hB6 hB7 hB8 hKt hKz hBW hSZ hrw hAS hFD hkm hks hnc hxz
   go_upto_block 0 with ((refine wpList_store_new w6 rfl 27 (.tmp 18) (.tmp 34) rfl 27 [.string ⟨#[]⟩,.int .i64 0,.int .i64 0,.slice none 0 0,.slice none 0 0,.slice none 0 0,.slice none 0 0] [.string ⟨mm.toArray⟩,.int .i64 mq,.int .i64 mx,.slice (some ⟨gS,0,none⟩) m2 m3,.slice n1 n2 n3,.slice p1 p2 p3,.slice q1 q2 q3] rfl rfl rfl tZ2 tZ5 ?_;rw [show ([.string ⟨mm.toArray⟩,.int .i64 mq,.int .i64 mx,.slice (some ⟨gS,0,none⟩) m2 m3,.slice n1 n2 n3,.slice p1 p2 p3,.slice q1 q2 q3]:List Value).toArray=#[.string ⟨mm.toArray⟩,.int .i64 mq,.int .i64 mx,.slice (some ⟨gS,0,none⟩) m2 m3,.slice n1 n2 n3,.slice p1 p2 p3,.slice q1 q2 q3] from rfl,← hW7,← hg5];clear hW7 hg5))
   rw [← hW8]
   clear hW8 hsz7
   clear fq0 fq1 fq2 fq3 fq4 dt
   go_cut [2,14,16,18] from 0 to 108 (fun s2 s14 s16 s18 wx=>s2=.int .i64 4∧s14=.pointer (some ⟨w.heap.size+1,0,none⟩)∧s16=.int .i64 EF∧s18=.pointer (some ⟨g5,0,none⟩)∧∃ w9 A1 n1 c1,Hid (Below w8.heap.size w8 w9)∧Hid (EF=0→w9.ownsRow w8.heap.size 78 2 (.slice A1 n1 c1) L1.length (cellsK encP L1))∧wx=w9.setCell ⟨gS,k*5+4,none⟩ (.slice A1 n1 c1))
   case first =>
    go_upto_region 10 with (fail)
    refine wp_region_store 12 [9,13] tZ2 tZ2 [(fun v _=>v=.pointer (some ⟨g5,3,none⟩)),
      (fun v _=>v=.slice (some ⟨gS,0,none⟩) m2 m3),
      (fun v _=>v=.int .i64 (k:Int)),
      (fun v _=>v=.pointer (some ⟨g5+1,4,none⟩)),
      (fun v _=>v=.slice oA on oc),
      (fun v _=>v=.string ⟨pn.toArray⟩),
      (fun v W=>∃ A n c,v=.tuple #[.slice A n c,.int .i64 EF]∧(EF=0→W.ownsRow w8.heap.size 78 2 (.slice A n c) L1.length (cellsK encP L1))),
      (fun v W=>∃ A n c,v=.tuple #[.slice A n c,.int .i64 EF]∧(EF=0→W.ownsRow w8.heap.size 78 2 (.slice A n c) L1.length (cellsK encP L1))),
      (fun v W=>∃ A n c,v=.slice A n c∧(EF=0→W.ownsRow w8.heap.size 78 2 (.slice A n c) L1.length (cellsK encP L1))),
      (fun v _=>v=.int .i64 EF),
      (fun v _=>v=.pointer (some ⟨gS,k*5,none⟩)),
      (fun v _=>v=.pointer (some ⟨gS,k*5+4,none⟩)),
      (fun _ _=>True),
      (fun v _=>v=.int .i64 EF)] ?_ (early1 tZ2) ?_ ?_ (fun W W'=>∃ A n c,W'=W.setCell ⟨gS,k*5+4,none⟩ (.slice A n c)∧(EF=0→W.ownsRow w8.heap.size 78 2 (.slice A n c) L1.length (cellsK encP L1))) ?_ tZ4 (fun _ _=>trivial) ?_
    ·exact mZ252
    ·intro i oo ho hiS hil mf W hb0 hmi hcl hdeps AA KK hA hK
     rcases i with _ | _ | _ | _ | _ | _ | _ | _ | _ | _ | _ | _ | _ | _ | i
     ·exact mZ251
     ·injection ho with ho;subst ho
      have e0:=eD hdeps hA 0 42
      exact mZ248
     ·exact mZ250
     ·exact mZ249
     ·injection ho with ho;subst ho
      have e3:=eD hdeps hA 3 45
      exact mZ248
     ·exact mZ260
     ·injection ho with ho;subst ho
      have e4:=eD hdeps hA 4 46
      have e5:=eD hdeps hA 5 47
      exact mZ246
     ·injection ho with ho;subst ho
      obtain ⟨x6,hx6,hg6⟩:=hdeps ⟨6,.data⟩ tZ3 rfl
      have hg6:∃ A n c,x6=.tuple #[.slice A n c,.int .i64 EF]∧(EF=0→W.ownsRow w8.heap.size 78 2 (.slice A n c) L1.length (cellsK encP L1)):=hg6
      have hk6:=hg6
      obtain ⟨A6,n6,c6,rfl,how6⟩:=hg6
      have e6:AA.tmps[48]?.getD undef=.tuple #[.slice A6 n6 c6,.int .i64 EF]:=tO hA hx6
      clear hA hdeps hcl hmi hiS hil hx6
      have hK0:KK (AA.put (some 41) _) _:=hK (.tuple #[.slice A6 n6 c6,.int .i64 EF]) _ (Below.refl _ _) ⟨A6,n6,c6,rfl,how6⟩
      exact mZ73
     ·injection ho with ho;subst ho
      obtain ⟨x7,hx7,hg7⟩:=hdeps ⟨7,.data⟩ tZ3 rfl
      have hg7:∃ A n c,x7=.tuple #[.slice A n c,.int .i64 EF]∧(EF=0→W.ownsRow w8.heap.size 78 2 (.slice A n c) L1.length (cellsK encP L1)):=hg7
      have hk7:=hg7
      obtain ⟨A7,n7,c7,rfl,how7⟩:=hg7
      have e7:AA.tmps[41]?.getD undef=.tuple #[.slice A7 n7 c7,.int .i64 EF]:=tO hA hx7
      clear hA hdeps hcl hmi hiS hil hx7
      have hK0:KK (AA.put (some 49) _) _:=hK (.slice A7 n7 c7) _ (Below.refl _ _) ⟨A7,n7,c7,rfl,how7⟩
      exact mZ73
     ·exact absurd tZ4 hil
     ·injection ho with ho;subst ho
      have e1:=eD hdeps hA 1 43
      have e2:=eD hdeps hA 2 44
      exact zP
     ·injection ho with ho;subst ho
      have e10:=eD hdeps hA 10 51
      exact zP
     ·exact absurd rfl hiS
     ·exact absurd tZ4 hil
     ·simp at ho
    ·intro i oo ho hil mf W W9 hmi hdeps AA KK hA hK
     rcases i with _ | _ | _ | _ | _ | _ | _ | _ | _ | _ | _ | _ | _ | _ | i
     ·exact mZ245
     ·exact mZ245
     ·exact mZ245
     ·exact mZ245
     ·exact mZ245
     ·exact mZ245
     ·exact mZ245
     ·exact mZ245
     ·exact mZ245
     ·injection ho with ho;subst ho
      obtain ⟨x7,hx7,hg7⟩:=hdeps ⟨7,.data⟩ tZ3 rfl tZ4
      have hg7:∃ A n c,x7=.tuple #[.slice A n c,.int .i64 EF]∧(EF=0→W9.ownsRow w8.heap.size 78 2 (.slice A n c) L1.length (cellsK encP L1)):=hg7
      obtain ⟨A7,n7,c7,rfl,how7⟩:=hg7
      have e7:AA.tmps[41]?.getD undef=.tuple #[.slice A7 n7 c7,.int .i64 EF]:=tO hA hx7
      clear hA hdeps hmi
      have hK0:KK (AA.put (some 50) _) _:=hK (.int .i64 EF) (fun _=>Eq.refl _)
      exact mZ73
     ·exact mZ245
     ·exact mZ245
     ·exact mZ245
     ·injection ho with ho;subst ho
      have e9:=eL hdeps hA 9 50
      exact mZ244
     ·exact absurd hil tZ3
    ·intro oo ho mf W hb0 hmi hdeps AA KK hA hK
     injection ho with ho;subst ho
     obtain ⟨x8,hx8,hg8⟩:=hdeps ⟨8,.data⟩ tZ3 rfl
     have hg8:∃ A n c,x8=.slice A n c∧(EF=0→W.ownsRow w8.heap.size 78 2 (.slice A n c) L1.length (cellsK encP L1)):=hg8
     obtain ⟨A8,n8,c8,rfl,how8⟩:=hg8
     have e8:AA.tmps[49]?.getD undef=.slice A8 n8 c8:=tO hA hx8
     have e11:=eD hdeps hA 11 52
     clear hA hdeps hmi
     obtain ⟨r1,r2,r3,r4⟩:=hSf.out W hb0
     have hK0:KK (AA.put none undef) _:=hK (W.setCell ⟨gS,k*5+4,none⟩ (.slice A8 n8 c8)) ⟨A8,n8,c8,rfl,how8⟩
     exact mZ73
    ·intro mf W9 W hb9 hR hall hSm
     have zm0:=dV (hall 0 tZ3 tZ4)
     have zm1:=dV (hall 1 tZ3 tZ4)
     have zm2:=dV (hall 2 tZ3 tZ4)
     have zm3:=dV (hall 3 tZ3 tZ4)
     have zm4:=dV (hall 4 tZ3 tZ4)
     have zm5:=dV (hall 5 tZ3 tZ4)
     obtain ⟨x6,zm6,hg6⟩:=hall 6 tZ3 tZ4
     have hg6:∃ A n c,x6=.tuple #[.slice A n c,.int .i64 EF]∧(EF=0→W9.ownsRow w8.heap.size 78 2 (.slice A n c) L1.length (cellsK encP L1)):=hg6
     obtain ⟨x7,zm7,hg7⟩:=hall 7 tZ3 tZ4
     have hg7:∃ A n c,x7=.tuple #[.slice A n c,.int .i64 EF]∧(EF=0→W9.ownsRow w8.heap.size 78 2 (.slice A n c) L1.length (cellsK encP L1)):=hg7
     obtain ⟨x8,zm8,hg8⟩:=hall 8 tZ3 tZ4
     have hg8:∃ A n c,x8=.slice A n c∧(EF=0→W9.ownsRow w8.heap.size 78 2 (.slice A n c) L1.length (cellsK encP L1)):=hg8
     have zm9:=dV (hall 9 tZ3 tZ4)
     have zm10:=dV (hall 10 tZ3 tZ4)
     have zm11:=dV (hall 11 tZ3 tZ4)
     have zm13:=dV (hall 13 tZ3 tZ4)
     rw [frameM_all tZ2 [.pointer (some ⟨g5,3,none⟩),.slice (some ⟨gS,0,none⟩) m2 m3,.int .i64 (k:Int),.pointer (some ⟨g5+1,4,none⟩),.slice oA on oc,.string ⟨pn.toArray⟩,x6,x7,x8,.int .i64 EF,.pointer (some ⟨gS,k*5,none⟩),.pointer (some ⟨gS,k*5+4,none⟩),undef,.int .i64 EF] rfl (fun i hi=>by rcases i with _ | _ | _ | _ | _ | _ | _ | _ | _ | _ | _ | _ | _ | _ | i <;> first | assumption | (simp at hi;omega))]
     clear hall hSm zm0 zm1 zm2 zm3 zm4 zm5 zm6 zm7 zm8 zm9 zm10 zm11 zm13
     exact mZ241
   case rest =>
    obtain ⟨rfl,rfl,rfl,rfl,w9,A1,n1,c1,hb9,hown,hW10⟩:=hcut
    obtain ⟨w10,h10⟩:∃ W,W=wc:=⟨_,rfl⟩
    subst h10
    have hb9:=hb9.out
    have hown:=hown.out
    clear d3 d0
    have k10:=(K8.out.below hb9 K8.out.lt).far (p:=⟨gS,k*5+4,none⟩) tZ15 (.slice A1 n1 c1)
    have kz10:=(KZ8.out.below hb9 KZ8.out.lt).far (p:=⟨gS,k*5+4,none⟩) tZ15 (.slice A1 n1 c1)
    have hb10:=(HB8.out.trans (hb9.mono HB8.out.size)).setCell (p:=⟨gS,k*5+4,none⟩) tZ15 (.slice A1 n1 c1)
    have hset:=TenO.setF (HO8.out.below hb9) k 4 HKM.out tZ4
    have ho9:=HO8.out.below hb9
    have hb9s:=hb9.size
    rw [← hW10] at k10 kz10 hb10
    have K10:=Lib.hid k10
    have KZ10:=Lib.hid kz10
    have HB10:=Lib.hid hb10
    by_cases hE0:EF=0
    ·have hown:=hown hE0
     have hn1:n1=L1.length:=by
      exact mZ240
     subst hn1
     have hSx:=ho9.eachS _ (List.getElem_mem HKM.out)
     have hxk2:ml[k]'HKM.out=xk:=tZ24
     have hSx:SetO w9 w3.heap.size xk:=tZ121
     obtain ⟨gg,hgg,_,hTO,_⟩:=hset ⟨xk.path,xk.org,xk.body,xk.snaps,⟨A1,L1.length,c1,L1⟩⟩ (.slice A1 L1.length c1) (fun z hz=>by have h1:=HXK.out;rw [h1] at hz;cases hz;rfl) ⟨hSx.body,hSx.snaps,hSx.each,⟨rfl,own_mono hown tZ63⟩⟩
     have hgg:some (⟨gS,0,none⟩:Addr)=some ⟨gg,0,none⟩:=hgg
     injection hgg with hgg
     injection hgg with hgg
     subst hgg
     rw [← hW10] at hTO
     have HO10:=Lib.hid hTO
     have HC10:Hid (TenR.con (TenR.putS ⟨mm,mq,mx,⟨some ⟨gS,0,none⟩,m2,m3,ml⟩,⟨n1,n2,n3,nl⟩,⟨p1,p2,p3,pl⟩,⟨q1,q2,q3,ql⟩⟩ k ⟨xk.path,xk.org,xk.body,xk.snaps,⟨A1,L1.length,c1,L1⟩⟩)=C.putS k ⟨pa,og,bl,zl.map SnapR.con,L1⟩):=by
      show _=_
      rw [TenR.con_putS,hyc.out]
      have:=HCO.out
      simp only [SetR.con,SetC.mk.injEq] at this
      obtain ⟨e1,e2,e3,e4,e5⟩:=this
      simp only [SetR.con,e1,e2,e3,e4]
     subst hE0
     have HV0:=Lib.hid (HVF.out.trans (if_neg tZ4))
     obtain ⟨d0,d1,d2,d3,d4,d5,d6⟩:=(⟨K10.out.cell 0,K10.out.cell 1,K10.out.cell 2,K10.out.cell 3,K10.out.cell 4,K10.out.cell 5,K10.out.cell 6⟩:_∧_∧_∧_∧_∧_∧_)
     simp only [zF,zD,zE] at d0 d1 d2 d3 d4 d5 d6
     clear k10 kz10 hb10 hset ho9 hb9s hown hSx hxk2 hTO hb9
     have HX:Hid (V=(0,C.putS k ⟨pa,og,bl,zl.map SnapR.con,L1⟩)):=tZ131
     clear hW10
     go_upto_region 21 with (fail)
     obtain ⟨WR,hW4,hth,HL,HBW,hgw⟩:=res7 (g:=(w.heap.size+1)) [.string ⟨mm.toArray⟩,.int .i64 mq,.int .i64 mx,.slice (some ⟨gS,0,none⟩) m2 m3,.slice n1 n2 n3,.slice p1 p2 p3,.slice q1 q2 q3] KZ10.out HB10.out tZ1
     have HOO:=Lib.hid ((TenO.keptT HO10.out hgw KZ10.out offT_ten).mono (base':=w.heap.size) tZ63)
     clear hgw
     go_wp2_with (refine wpList_store_mid rfl 27 (.tmp 14) (.tmp 108) rfl ((w.heap.size+1)) 0 #[.string ⟨mm.toArray⟩,.int .i64 mq,.int .i64 mx,.slice (some ⟨gS,0,none⟩) m2 m3,.slice n1 n2 n3,.slice p1 p2 p3,.slice q1 q2 q3] rfl rfl hth.out tZ2 tZ5 ?_;rw [← hW4];clear hW4)
     exact bodyPost_ret (v:=.tuple #[.agg #[.string ⟨mm.toArray⟩,.int .i64 mq,.int .i64 mx,.slice (some ⟨gS,0,none⟩) m2 m3,.slice n1 n2 n3,.slice p1 p2 p3,.slice q1 q2 q3],.int .i64 0]) (results_cell_tmp rfl rfl HL.out) rfl (tenPost_ok HX.out HBW.out (TenR.putS ⟨mm,mq,mx,⟨some ⟨gS,0,none⟩,m2,m3,ml⟩,⟨n1,n2,n3,nl⟩,⟨p1,p2,p3,pl⟩,⟨q1,q2,q3,ql⟩⟩ k ⟨xk.path,xk.org,xk.body,xk.snaps,⟨A1,L1.length,c1,L1⟩⟩) HOO.out HC10.out)
    ·have HX:Hid (V=(EF,C)):=tZ88
     exact mZ237
 ·have HV:=Lib.hid (HV.out.trans (if_pos tZ4))
  have HX:Hid (V=(9,C)):=tZ58
  exact mZ236
 ·have HV:=Lib.hid (HV.out.trans (if_pos tZ4))
  have HX:Hid (V=(31,C)):=tZ58
  exact mZ235
end Go.Proofs.YtcgclpcocdappaaGreatDoor
namespace Go.Proofs.YtcgclpcocdappaaGreatDoor
open Go.RowKit
set_option maxRecDepth 100000 in
set_option maxHeartbeats 4000000 in
theorem setT_any (t:TenR) (p:BS) (pn:BS) (tx:BS) (w:World) (B:Nat) (hB:B≤w.heap.size) (hr:t.rd w B) (hz:t.sz) (hp:p.length≤4000000000) (htx:tx.length≤140737488351232) (hmx:HasMax w) :
  Calls Tryz.prog 31 #[t.val,.string ⟨p.toArray⟩,.string ⟨pn.toArray⟩,.string ⟨tx.toArray⟩] w (TenPost w (t.con.changed p (setF pn tx))):=by
 have hcz:=TenC.sz_of hr hz
 obtain ⟨nm,qu,nx,⟨s1,sn,s3,sl⟩,⟨u1,un,u3,ul⟩,⟨t1,tn,t3,tl⟩,⟨l1,ln,l3,ll⟩⟩:=t
 show Calls Tryz.prog 31 #[.agg #[.string ⟨nm.toArray⟩,.int .i64 qu,.int .i64 nx,.slice s1 sn s3,.slice u1 un u3,.slice t1 tn t3,.slice l1 ln l3],.string ⟨p.toArray⟩,.string ⟨pn.toArray⟩,.string ⟨tx.toArray⟩] w _
 have hb:=(((((Below.refl w.heap.size w).alloc (Nat.le_refl _) (.cells #[.string ⟨nm.toArray⟩,.int .i64 qu,.int .i64 nx,.slice s1 sn s3,.slice u1 un u3,.slice t1 tn t3,.slice l1 ln l3] 27)).alloc tZ3 (.cells #[.string ⟨pn.toArray⟩] 9)).alloc tZ6 (.cells #[.string ⟨tx.toArray⟩] 9)).alloc tZ6 (.cells #[.string ⟨#[]⟩,.int .i64 0,.int .i64 0,.slice none 0 0,.slice none 0 0,.slice none 0 0,.slice none 0 0] 27))
 have kt:=Blk.new w 27 #[.string ⟨nm.toArray⟩,.int .i64 qu,.int .i64 nx,.slice s1 sn s3,.slice u1 un u3,.slice t1 tn t3,.slice l1 ln l3]
 replace kt:=kt.alloc (.cells #[.string ⟨pn.toArray⟩] 9)
 replace kt:=kt.alloc (.cells #[.string ⟨tx.toArray⟩] 9)
 replace kt:=kt.alloc (.cells #[.string ⟨#[]⟩,.int .i64 0,.int .i64 0,.slice none 0 0,.slice none 0 0,.slice none 0 0,.slice none 0 0] 27)
 have kx0:=Blk.new (w.alloc (.cells #[.string ⟨nm.toArray⟩,.int .i64 qu,.int .i64 nx,.slice s1 sn s3,.slice u1 un u3,.slice t1 tn t3,.slice l1 ln l3] 27)) 9 #[.string ⟨pn.toArray⟩]
 rw [show (w.alloc (.cells #[.string ⟨nm.toArray⟩,.int .i64 qu,.int .i64 nx,.slice s1 sn s3,.slice u1 un u3,.slice t1 tn t3,.slice l1 ln l3] 27)).heap.size=w.heap.size+1 by simp] at kx0
 replace kx0:=kx0.alloc (.cells #[.string ⟨tx.toArray⟩] 9)
 replace kx0:=kx0.alloc (.cells #[.string ⟨#[]⟩,.int .i64 0,.int .i64 0,.slice none 0 0,.slice none 0 0,.slice none 0 0,.slice none 0 0] 27)
 have kx1:=Blk.new ((w.alloc (.cells #[.string ⟨nm.toArray⟩,.int .i64 qu,.int .i64 nx,.slice s1 sn s3,.slice u1 un u3,.slice t1 tn t3,.slice l1 ln l3] 27)).alloc (.cells #[.string ⟨pn.toArray⟩] 9)) 9 #[.string ⟨tx.toArray⟩]
 rw [show ((w.alloc (.cells #[.string ⟨nm.toArray⟩,.int .i64 qu,.int .i64 nx,.slice s1 sn s3,.slice u1 un u3,.slice t1 tn t3,.slice l1 ln l3] 27)).alloc (.cells #[.string ⟨pn.toArray⟩] 9)).heap.size=w.heap.size+2 by simp] at kx1
 replace kx1:=kx1.alloc (.cells #[.string ⟨#[]⟩,.int .i64 0,.int .i64 0,.slice none 0 0,.slice none 0 0,.slice none 0 0,.slice none 0 0] 27)
 have kz:=Blk.new (((w.alloc (.cells #[.string ⟨nm.toArray⟩,.int .i64 qu,.int .i64 nx,.slice s1 sn s3,.slice u1 un u3,.slice t1 tn t3,.slice l1 ln l3] 27)).alloc (.cells #[.string ⟨pn.toArray⟩] 9)).alloc (.cells #[.string ⟨tx.toArray⟩] 9)) 27 #[.string ⟨#[]⟩,.int .i64 0,.int .i64 0,.slice none 0 0,.slice none 0 0,.slice none 0 0,.slice none 0 0]
 rw [show (((w.alloc (.cells #[.string ⟨nm.toArray⟩,.int .i64 qu,.int .i64 nx,.slice s1 sn s3,.slice u1 un u3,.slice t1 tn t3,.slice l1 ln l3] 27)).alloc (.cells #[.string ⟨pn.toArray⟩] 9)).alloc (.cells #[.string ⟨tx.toArray⟩] 9)).heap.size=w.heap.size+3 by simp] at kz
 have hsz:((((w.alloc (.cells #[.string ⟨nm.toArray⟩,.int .i64 qu,.int .i64 nx,.slice s1 sn s3,.slice u1 un u3,.slice t1 tn t3,.slice l1 ln l3] 27)).alloc (.cells #[.string ⟨pn.toArray⟩] 9)).alloc (.cells #[.string ⟨tx.toArray⟩] 9)).alloc (.cells #[.string ⟨#[]⟩,.int .i64 0,.int .i64 0,.slice none 0 0,.slice none 0 0,.slice none 0 0,.slice none 0 0] 27)).heap.size=w.heap.size+4:=tZ3
 obtain ⟨W1,hW1⟩:∃ W,W=((((w.alloc (.cells #[.string ⟨nm.toArray⟩,.int .i64 qu,.int .i64 nx,.slice s1 sn s3,.slice u1 un u3,.slice t1 tn t3,.slice l1 ln l3] 27)).alloc (.cells #[.string ⟨pn.toArray⟩] 9)).alloc (.cells #[.string ⟨tx.toArray⟩] 9)).alloc (.cells #[.string ⟨#[]⟩,.int .i64 0,.int .i64 0,.slice none 0 0,.slice none 0 0,.slice none 0 0,.slice none 0 0] 27)):=⟨_,rfl⟩
 rw [← hW1] at hb hsz kt kx0 kx1 kz
 have hKt:Hid (∀ W,Below W1.heap.size W1 W→Blk W w.heap.size 27 #[.string ⟨nm.toArray⟩,.int .i64 qu,.int .i64 nx,.slice s1 sn s3,.slice u1 un u3,.slice t1 tn t3,.slice l1 ln l3]):=fun W h=>kt.below h tZ1
 have hKx0:Hid (∀ W,Below W1.heap.size W1 W→Blk W (w.heap.size+1) 9 #[.string ⟨pn.toArray⟩]):=fun W h=>kx0.below h tZ1
 have hKx1:Hid (∀ W,Below W1.heap.size W1 W→Blk W (w.heap.size+2) 9 #[.string ⟨tx.toArray⟩]):=fun W h=>kx1.below h tZ1
 have hKz:Hid (∀ W,Below W1.heap.size W1 W→Blk W (w.heap.size+3) 27 #[.string ⟨#[]⟩,.int .i64 0,.int .i64 0,.slice none 0 0,.slice none 0 0,.slice none 0 0,.slice none 0 0]):=fun W h=>kz.below h tZ1
 have hBW:Hid (∀ W,Below W1.heap.size W1 W→Below w.heap.size w W):=fun W h=>hb.trans (h.mono tZ1)
 have hSZ:Hid (∀ W,Below W1.heap.size W1 W→w.heap.size+4≤W.heap.size):=fun W h=>by have:=h.size;omega
 have hW0:Hid (Below W1.heap.size W1 W1):=Below.refl _ _
 have hrw:Hid (∀ W,Below W1.heap.size W1 W→TenR.rd W B ⟨nm,qu,nx,⟨s1,sn,s3,sl⟩,⟨u1,un,u3,ul⟩,⟨t1,tn,t3,tl⟩,⟨l1,ln,l3,ll⟩⟩∧B≤W.heap.size∧HasMax W):=fun W h =>
  ⟨TenR.rd.below hr ((hBW.out W h).mono hB),by have:=hSZ.out W h;omega,hmx.below (hBW.out W h)⟩
 obtain ⟨C,hC⟩:∃ C,C=TenR.con ⟨nm,qu,nx,⟨s1,sn,s3,sl⟩,⟨u1,un,u3,ul⟩,⟨t1,tn,t3,tl⟩,⟨l1,ln,l3,ll⟩⟩:=⟨_,rfl⟩
 rw [← hC] at hcz ⊢
 have hCH:Hid (∀ W,Below W1.heap.size W1 W→Calls Tryz.prog 85 #[.agg #[.string ⟨nm.toArray⟩,.int .i64 qu,.int .i64 nx,.slice s1 sn s3,.slice u1 un u3,.slice t1 tn t3,.slice l1 ln l3],.string ⟨p.toArray⟩,.func (.func 90) #[] #[.pointer (some ⟨w.heap.size+1,0,none⟩),.pointer (some ⟨w.heap.size+2,0,none⟩)]] W (TenPost W (C.changed p (setF pn tx)))):=fun W h=>by
  rw [hC]
  exact changed2_any ⟨nm,qu,nx,⟨s1,sn,s3,sl⟩,⟨u1,un,u3,ul⟩,⟨t1,tn,t3,tl⟩,⟨l1,ln,l3,ll⟩⟩ p 90 ⟨w.heap.size+1,0,none⟩ ⟨w.heap.size+2,0,none⟩ (setF pn tx) W B (hrw.out W h).2.1 (hrw.out W h).1 hz hp (hrw.out W h).2.2 (setF_turns pn tx ⟨w.heap.size+1,0,none⟩ ⟨w.heap.size+2,0,none⟩ W htx ((hKx0.out W h).cell 0) tZ45 ((hKx1.out W h).cell 0) tZ45) (fun args W=>enterC Tryz.func90 tZ2 tZ2 args W)
 obtain ⟨⟨E,C2⟩,hV⟩:∃ V:Int×TenC,V=C.changed p (setF pn tx):=⟨_,rfl⟩
 have HV:=Lib.hid hV
 rw [← hV] at hCH ⊢
 clear hb hsz kt kz kx0 kx1 hr hz hp hmx hV hC hcz htx
 go_enter Tryz.func31,Tryz.ntmps31
 exact mZ234
set_option maxRecDepth 100000 in
set_option maxHeartbeats 4000000 in
theorem unsetT_any (t:TenR) (p:BS) (pn:BS) (w:World) (B:Nat) (hB:B≤w.heap.size) (hr:t.rd w B) (hz:t.sz) (hp:p.length≤4000000000) (hmx:HasMax w) :
  Calls Tryz.prog 32 #[t.val,.string ⟨p.toArray⟩,.string ⟨pn.toArray⟩] w (TenPost w (t.con.changed p (unsetF pn))):=by
 have hcz:=TenC.sz_of hr hz
 obtain ⟨nm,qu,nx,⟨s1,sn,s3,sl⟩,⟨u1,un,u3,ul⟩,⟨t1,tn,t3,tl⟩,⟨l1,ln,l3,ll⟩⟩:=t
 show Calls Tryz.prog 32 #[.agg #[.string ⟨nm.toArray⟩,.int .i64 qu,.int .i64 nx,.slice s1 sn s3,.slice u1 un u3,.slice t1 tn t3,.slice l1 ln l3],.string ⟨p.toArray⟩,.string ⟨pn.toArray⟩] w _
 have hb:=((((Below.refl w.heap.size w).alloc (Nat.le_refl _) (.cells #[.string ⟨nm.toArray⟩,.int .i64 qu,.int .i64 nx,.slice s1 sn s3,.slice u1 un u3,.slice t1 tn t3,.slice l1 ln l3] 27)).alloc tZ3 (.cells #[.string ⟨pn.toArray⟩] 9)).alloc tZ6 (.cells #[.string ⟨#[]⟩,.int .i64 0,.int .i64 0,.slice none 0 0,.slice none 0 0,.slice none 0 0,.slice none 0 0] 27))
 have kt:=Blk.new w 27 #[.string ⟨nm.toArray⟩,.int .i64 qu,.int .i64 nx,.slice s1 sn s3,.slice u1 un u3,.slice t1 tn t3,.slice l1 ln l3]
 replace kt:=kt.alloc (.cells #[.string ⟨pn.toArray⟩] 9)
 replace kt:=kt.alloc (.cells #[.string ⟨#[]⟩,.int .i64 0,.int .i64 0,.slice none 0 0,.slice none 0 0,.slice none 0 0,.slice none 0 0] 27)
 have kx0:=Blk.new (w.alloc (.cells #[.string ⟨nm.toArray⟩,.int .i64 qu,.int .i64 nx,.slice s1 sn s3,.slice u1 un u3,.slice t1 tn t3,.slice l1 ln l3] 27)) 9 #[.string ⟨pn.toArray⟩]
 rw [show (w.alloc (.cells #[.string ⟨nm.toArray⟩,.int .i64 qu,.int .i64 nx,.slice s1 sn s3,.slice u1 un u3,.slice t1 tn t3,.slice l1 ln l3] 27)).heap.size=w.heap.size+1 by simp] at kx0
 replace kx0:=kx0.alloc (.cells #[.string ⟨#[]⟩,.int .i64 0,.int .i64 0,.slice none 0 0,.slice none 0 0,.slice none 0 0,.slice none 0 0] 27)
 have kz:=Blk.new ((w.alloc (.cells #[.string ⟨nm.toArray⟩,.int .i64 qu,.int .i64 nx,.slice s1 sn s3,.slice u1 un u3,.slice t1 tn t3,.slice l1 ln l3] 27)).alloc (.cells #[.string ⟨pn.toArray⟩] 9)) 27 #[.string ⟨#[]⟩,.int .i64 0,.int .i64 0,.slice none 0 0,.slice none 0 0,.slice none 0 0,.slice none 0 0]
 rw [show ((w.alloc (.cells #[.string ⟨nm.toArray⟩,.int .i64 qu,.int .i64 nx,.slice s1 sn s3,.slice u1 un u3,.slice t1 tn t3,.slice l1 ln l3] 27)).alloc (.cells #[.string ⟨pn.toArray⟩] 9)).heap.size=w.heap.size+2 by simp] at kz
 have hsz:(((w.alloc (.cells #[.string ⟨nm.toArray⟩,.int .i64 qu,.int .i64 nx,.slice s1 sn s3,.slice u1 un u3,.slice t1 tn t3,.slice l1 ln l3] 27)).alloc (.cells #[.string ⟨pn.toArray⟩] 9)).alloc (.cells #[.string ⟨#[]⟩,.int .i64 0,.int .i64 0,.slice none 0 0,.slice none 0 0,.slice none 0 0,.slice none 0 0] 27)).heap.size=w.heap.size+3:=tZ3
 obtain ⟨W1,hW1⟩:∃ W,W=(((w.alloc (.cells #[.string ⟨nm.toArray⟩,.int .i64 qu,.int .i64 nx,.slice s1 sn s3,.slice u1 un u3,.slice t1 tn t3,.slice l1 ln l3] 27)).alloc (.cells #[.string ⟨pn.toArray⟩] 9)).alloc (.cells #[.string ⟨#[]⟩,.int .i64 0,.int .i64 0,.slice none 0 0,.slice none 0 0,.slice none 0 0,.slice none 0 0] 27)):=⟨_,rfl⟩
 rw [← hW1] at hb hsz kt kx0 kz
 have hKt:Hid (∀ W,Below W1.heap.size W1 W→Blk W w.heap.size 27 #[.string ⟨nm.toArray⟩,.int .i64 qu,.int .i64 nx,.slice s1 sn s3,.slice u1 un u3,.slice t1 tn t3,.slice l1 ln l3]):=fun W h=>kt.below h tZ1
 have hKx0:Hid (∀ W,Below W1.heap.size W1 W→Blk W (w.heap.size+1) 9 #[.string ⟨pn.toArray⟩]):=fun W h=>kx0.below h tZ1
 have hKz:Hid (∀ W,Below W1.heap.size W1 W→Blk W (w.heap.size+2) 27 #[.string ⟨#[]⟩,.int .i64 0,.int .i64 0,.slice none 0 0,.slice none 0 0,.slice none 0 0,.slice none 0 0]):=fun W h=>kz.below h tZ1
 have hBW:Hid (∀ W,Below W1.heap.size W1 W→Below w.heap.size w W):=fun W h=>hb.trans (h.mono tZ1)
 have hSZ:Hid (∀ W,Below W1.heap.size W1 W→w.heap.size+3≤W.heap.size):=fun W h=>by have:=h.size;omega
 have hW0:Hid (Below W1.heap.size W1 W1):=Below.refl _ _
 have hrw:Hid (∀ W,Below W1.heap.size W1 W→TenR.rd W B ⟨nm,qu,nx,⟨s1,sn,s3,sl⟩,⟨u1,un,u3,ul⟩,⟨t1,tn,t3,tl⟩,⟨l1,ln,l3,ll⟩⟩∧B≤W.heap.size∧HasMax W):=fun W h =>
  ⟨TenR.rd.below hr ((hBW.out W h).mono hB),by have:=hSZ.out W h;omega,hmx.below (hBW.out W h)⟩
 obtain ⟨C,hC⟩:∃ C,C=TenR.con ⟨nm,qu,nx,⟨s1,sn,s3,sl⟩,⟨u1,un,u3,ul⟩,⟨t1,tn,t3,tl⟩,⟨l1,ln,l3,ll⟩⟩:=⟨_,rfl⟩
 rw [← hC] at hcz ⊢
 have hCH:Hid (∀ W,Below W1.heap.size W1 W→Calls Tryz.prog 85 #[.agg #[.string ⟨nm.toArray⟩,.int .i64 qu,.int .i64 nx,.slice s1 sn s3,.slice u1 un u3,.slice t1 tn t3,.slice l1 ln l3],.string ⟨p.toArray⟩,.func (.func 92) #[] #[.pointer (some ⟨w.heap.size+1,0,none⟩)]] W (TenPost W (C.changed p (unsetF pn)))):=fun W h=>by
  rw [hC]
  exact changed1_any ⟨nm,qu,nx,⟨s1,sn,s3,sl⟩,⟨u1,un,u3,ul⟩,⟨t1,tn,t3,tl⟩,⟨l1,ln,l3,ll⟩⟩ p 92 ⟨w.heap.size+1,0,none⟩ (unsetF pn) W B (hrw.out W h).2.1 (hrw.out W h).1 hz hp (hrw.out W h).2.2 (unsetF_turns pn ⟨w.heap.size+1,0,none⟩ W ((hKx0.out W h).cell 0) tZ45) (fun args W=>enterC Tryz.func92 tZ2 tZ2 args W)
 obtain ⟨⟨E,C2⟩,hV⟩:∃ V:Int×TenC,V=C.changed p (unsetF pn):=⟨_,rfl⟩
 have HV:=Lib.hid hV
 rw [← hV] at hCH ⊢
 clear hb hsz kt kz kx0 hr hz hp hmx hV hC hcz
 go_enter Tryz.func32,Tryz.ntmps32
 have hc:=hCH.out W1 hW0.out
 have kk:=hKt.out W1 hW0.out
 obtain ⟨c0,c1,c2,c3,c4,c5,c6⟩:=(⟨kk.cell 0,kk.cell 1,kk.cell 2,kk.cell 3,kk.cell 4,kk.cell 5,kk.cell 6⟩:_∧_∧_∧_∧_∧_∧_)
 simp only [zF,zD,zE] at c0 c1 c2 c3 c4 c5 c6
 clear kk
 clear hCH
 go_wp2_with fail
 rw [← hW1]
 clear hW1
 refine hc.mono ?_
 clear hc c0 c1 c2 c3 c4 c5 c6
 rintro e w2 ⟨v,rfl,hb,hcs⟩
 have HW2:=Lib.hid (hW0.out.trans (hb.mono hW0.out.size))
 clear hb
 rcases hcs with ⟨h1,rfl⟩ | ⟨h1,z,rfl,ho,hy⟩
 ·simp only at h1
  have HE:=Lib.hid h1
  clear h1
  unfold ZEROT
  have KZ:=Lib.hid (hKz.out w2 HW2.out)
  have HB:=Lib.hid (hBW.out w2 HW2.out)
  obtain ⟨WR,hW4,hth,HL,HBW,hgw⟩:=res7 (g:=(w.heap.size+2)) [.string ⟨#[]⟩,.int .i64 0,.int .i64 0,.slice none 0 0,.slice none 0 0,.slice none 0 0,.slice none 0 0] KZ.out HB.out tZ1
  clear hgw
  go_wp2_with (refine wpList_store_mid rfl 27 (.tmp 6) (.tmp 12) rfl ((w.heap.size+2)) 0 #[.string ⟨#[]⟩,.int .i64 0,.int .i64 0,.slice none 0 0,.slice none 0 0,.slice none 0 0,.slice none 0 0] rfl rfl hth.out tZ2 tZ5 ?_;rw [← hW4];clear hW4)
  exact mZ233
 ·simp only at h1
  subst h1
  have HO:=Lib.hid (ho.mono (base':=w.heap.size) tZ128)
  have HY:=Lib.hid hy
  clear ho hy
  obtain ⟨mm,mq,mx,⟨m1,m2,m3,ml⟩,⟨n1,n2,n3,nl⟩,⟨p1,p2,p3,pl⟩,⟨q1,q2,q3,ql⟩⟩:=z
  simp only [TenR.val,TenR.cells,FS.val,strV]
  have KZ:=Lib.hid (hKz.out w2 HW2.out)
  have HB:=Lib.hid (hBW.out w2 HW2.out)
  obtain ⟨WR,hW4,hth,HL,HBW,hgw⟩:=res7 (g:=(w.heap.size+2)) [.string ⟨mm.toArray⟩,.int .i64 mq,.int .i64 mx,.slice m1 m2 m3,.slice n1 n2 n3,.slice p1 p2 p3,.slice q1 q2 q3] KZ.out HB.out tZ1
  have HOO:=Lib.hid (TenO.keptT HO.out hgw KZ.out offT_ten)
  clear hgw
  go_wp2_with (refine wpList_store_mid rfl 27 (.tmp 6) (.tmp 12) rfl ((w.heap.size+2)) 0 #[.string ⟨mm.toArray⟩,.int .i64 mq,.int .i64 mx,.slice m1 m2 m3,.slice n1 n2 n3,.slice p1 p2 p3,.slice q1 q2 q3] rfl rfl hth.out tZ2 tZ5 ?_;rw [← hW4];clear hW4)
  exact mZ232
end Go.Proofs.YtcgclpcocdappaaGreatDoor
namespace Go.Proofs.YtcgclpcocdappaaGreatDoor
open Go.RowKit
theorem freeF_sz (i ct:Int):∀ s:SetC,s.sz→(freeF i ct s).1=0→(freeF i ct s).2.sz:=bodyF_sz _ _ fun l=>⟨by
 have:(freeL l i ct).length≤l.length:=List.length_filter_le _ _
 omega,fun h=>by
 unfold freeE at h
 split at h
 ·rename_i h1;have:=okL_small l h1;omega
 ·cases h⟩
theorem ownF_sz (E:List (BS×BS)→Int) (L:List (BS×BS)→List (BS×BS)) (h:∀ l,E l=0→(L l).length≤100∧∀ x∈L l,x∈l∨(x.1.length≤4000000000∧x.2.length≤4000000000)):∀ s:SetC,s.sz→(ownF E L s).1=0→(ownF E L s).2.sz:=fun s hs h0=>by
 obtain ⟨h1,h2⟩:=h s.own h0
 refine ⟨hs.path,hs.org,hs.body,hs.snaps,hs.each,by show (L s.own).length≤_;omega,fun x hx=>?_⟩
 rcases h2 x hx with h3 | h3
 ·exact hs.props x h3
 ·exact h3
theorem putP_mem (p:BS×BS) (l:List (BS×BS)):(putP p l).length≤l.length+1∧∀ x∈putP p l,x=p∨x∈l:=by
 induction l with
 | nil=>exact ⟨by simp [putP],fun x hx=>by simpa [putP] using hx⟩
 | cons y l ih =>
  unfold putP
  split
  ·exact ⟨by simp,fun x hx=>by simpa using hx⟩
  ·split
   ·refine ⟨by simp,fun x hx=>?_⟩
    rcases List.mem_cons.1 hx with h | h
    ·exact .inl h
    ·exact .inr (List.mem_cons_of_mem _ h)
   ·refine ⟨by have:=ih.1;simp only [List.length_cons];omega,fun x hx=>?_⟩
    rcases List.mem_cons.1 hx with h | h
    ·exact .inr (by rw [h];exact List.mem_cons_self)
    ·rcases ih.2 x h with h | h
     ·exact .inl h
     ·exact .inr (List.mem_cons_of_mem _ h)
theorem propsB_len (l:List (BS×BS)) (h:propsB l=true):l.length≤8:=by
 unfold propsB at h
 rw [Bool.and_eq_true] at h
 exact of_decide_eq_true h.1
theorem setF_sz (nm tx:BS) (h1:nm.length≤4000000000) (h2:tx.length≤4000000000):∀ s:SetC,s.sz→(setF nm tx s).1=0→(setF nm tx s).2.sz:=ownF_sz _ _ fun l h=>by
 have hl:l.length≤8:=by
  unfold setE at h
  split at h
  ·rename_i h1;exact propsB_len l h1
  ·cases h
 have hm:=putP_mem (nm,tx) l
 refine ⟨by omega,fun x hx=>?_⟩
 rcases hm.2 x hx with h | h
 ·subst h;exact .inr ⟨h1,h2⟩
 ·exact .inl h
theorem unsetF_sz (nm:BS):∀ s:SetC,s.sz→(unsetF nm s).1=0→(unsetF nm s).2.sz:=ownF_sz _ _ fun l h=>by
 have hl:l.length≤8:=by
  unfold unsetE at h
  split at h
  ·rename_i h1;exact propsB_len l h1
  ·cases h
 have h3:(dropP nm l).length≤l.length:=List.length_filter_le _ _
 exact ⟨by omega,fun x hx=>.inl ((List.mem_filter.1 hx).1)⟩
theorem changeS_sz {r:Int×TenC} (h:r.1=0→r.2.sz):(changeS r).1=0→(changeS r).2.sz:=by
 unfold changeS
 by_cases h1:r.1≠0
 ·rw [if_pos h1]
  exact fun h2=>absurd h2 h1
 ·rw [if_neg h1]
  intro _
  have hs:=h tZ1
  unfold TenC.settle
  split
  ·exact hs
  ·split <;> exact hs
theorem changeQ_eq (c:TenC) (p:BS) (i:Int) (d:BS):changeQ (c.changed p (writeF i d))=changeS (c.changed p (writeF i d)):=by
 obtain ⟨⟨E,c2⟩,h⟩:∃ V:Int×TenC,V=c.changed p (writeF i d):=⟨_,rfl⟩
 rw [← h]
 unfold changeQ changeS
 by_cases hE:E=0
 ·subst hE
  have:=writeF_ok h
  rw [if_neg tZ3,if_neg tZ3]
  show TenC.settled c2=TenC.settle c2
  unfold TenC.settled TenC.settle
  rw [if_neg (show ¬ c2.E=9 by rw [this];decide)]
 ·rw [if_pos hE,if_pos hE]
theorem changed_sz' {c:TenC} {p:BS} {F:SetC→Int×SetC} (hc:c.sz) (hF:∀ s:SetC,s.sz→(F s).1=0→(F s).2.sz):(c.changed p F).1=0→(c.changed p F).2.sz:=fun h=>by
 obtain ⟨⟨E,c2⟩,hV⟩:∃ V:Int×TenC,V=c.changed p F:=⟨_,rfl⟩
 rw [← hV] at h ⊢
 have h:E=0:=h
 subst h
 exact changed_sz hc hV hF
end Go.Proofs.YtcgclpcocdappaaGreatDoor
