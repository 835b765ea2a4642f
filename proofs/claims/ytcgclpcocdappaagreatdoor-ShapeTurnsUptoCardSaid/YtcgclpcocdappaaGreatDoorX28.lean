/-
  shape.changed: a tenant with a set turned by something.
-/
import Derived.Test.YtcgclpcocdappaaGreatDoorXM1
import Derived.Test.YtcgclpcocdappaaGreatDoorX0
import Derived.Test.YtcgclpcocdappaaGreatDoorX27
namespace Go.Proofs.YtcgclpcocdappaaGreatDoor
open Go.RowKit
/-- a set is turned by something -/
def TenC.changed (c:TenC) (p:BS) (F:SetC→Int×SetC):Int×TenC:=if c.ask p≠0 then (c.ask p,c) else if c.find p<0 then (71,c) else match c.sets[(c.find p).toNat]? with
 | none=>(71,c)
 | some s=>if (F s).1≠0 then ((F s).1,c) else (0,c.putS (c.find p).toNat (F s).2)
theorem enterC {P:Program} {f:FuncId} {fn:Func} (hf:P.funcs[f]?=some fn) (hname:(fn.name == "runtime.NumGoroutine")=false) (hb:fn.body.isNone=false) (args:Array Value) (w:World) :
  (callFunc f args).run P w=.ok (.enter f args) w:=by
 have h1:fn.name ≠ "runtime.NumGoroutine" := by simpa using hname
 cases hc:fn.body with
 | none=>rw [hc] at hb;cases hb
 | some c=>simp [callFunc,hf,h1,hc]
/-- what turns one set, in place -/
def Turns (fn:FuncId) (caps:Array Value) (F:SetC→Int×SetC) (w:World):Prop:=∀ (y:TenR) (k:Nat) (hk:k<y.sets.l.length) (gS base:Nat) (W:World),Below w.heap.size w W→w.heap.size≤base→TenO W base y→y.con.sz→y.sets.A=some ⟨gS,0,none⟩ →
 Calls Tryz.prog fn (#[.pointer (some ⟨gS,k*5,none⟩)]++caps) W fun e W'=>e=.returned (.int .i64 (F (y.sets.l[k]'hk).con).1)∧W.grownBy W' (some gS)∧((F (y.sets.l[k]'hk).con).1=0→∃ x':SetR,x'.con=(F (y.sets.l[k]'hk).con).2∧TenO W' base (y.putS k x'))
set_option maxRecDepth 100000 in
set_option maxHeartbeats 8000000 in
theorem changed2_any (t:TenR) (p:BS) (fn:FuncId) (cp1 cp2:Addr) (F:SetC→Int×SetC) (w:World) (B:Nat) (hB:B≤w.heap.size) (hr:t.rd w B) (hz:t.sz) (hp:p.length≤4000000000) (hmx:HasMax w) (hF:Turns fn #[.pointer (some cp1),.pointer (some cp2)] F w) (hen:∀ args W,(callFunc fn args).run Tryz.prog W=.ok (.enter fn args) W) :
  Calls Tryz.prog 85 #[t.val,.string ⟨p.toArray⟩,.func (.func fn) #[] #[.pointer (some cp1),.pointer (some cp2)]] w (TenPost w (t.con.changed p F)):=by
 have h3:t.con.ask p=0∨t.con.ask p=9∨t.con.ask p=31:=tZ42
 obtain ⟨V,hV⟩:∃ V,V=t.con.changed p F:=⟨_,rfl⟩
 have hVe:V=if t.con.ask p≠0 then (t.con.ask p,t.con) else if t.con.find p<0 then (71,t.con) else match t.con.sets[(t.con.find p).toNat]? with
  | none=>(71,t.con)
  | some s=>if (F s).1≠0 then ((F s).1,t.con) else (0,t.con.putS (t.con.find p).toNat (F s).2):=hV
 rw [← hV]
 have hcz:=TenC.sz_of hr hz
 have hpl:=placeP_con t p
 have hfk:∀ k:Nat,t.con.find p=(k:Int)→k<t.sets.l.length:=fun k hk=>by
  exact mZ228
 have hfk2:t.con.find p<0∨∃ k:Nat,t.con.find p=(k:Int):=by
  exact mZ227
 obtain ⟨nm,qu,nx,⟨s1,sn,s3,sl⟩,⟨u1,un,u3,ul⟩,⟨t1,tn,t3,tl⟩,⟨l1,ln,l3,ll⟩⟩:=t
 show Calls Tryz.prog 85 #[.agg #[.string ⟨nm.toArray⟩,.int .i64 qu,.int .i64 nx,.slice s1 sn s3,.slice u1 un u3,.slice t1 tn t3,.slice l1 ln l3],.string ⟨p.toArray⟩,.func (.func fn) #[] #[.pointer (some cp1),.pointer (some cp2)]] w _
 have hb:=(((Below.refl w.heap.size w).alloc (Nat.le_refl _) (.cells #[.string ⟨nm.toArray⟩,.int .i64 qu,.int .i64 nx,.slice s1 sn s3,.slice u1 un u3,.slice t1 tn t3,.slice l1 ln l3] 27)).alloc tZ3 (.cells #[.string ⟨#[]⟩,.int .i64 0,.int .i64 0,.slice none 0 0,.slice none 0 0,.slice none 0 0,.slice none 0 0] 27))
 have kt:=Blk.new w 27 #[.string ⟨nm.toArray⟩,.int .i64 qu,.int .i64 nx,.slice s1 sn s3,.slice u1 un u3,.slice t1 tn t3,.slice l1 ln l3]
 replace kt:=kt.alloc (.cells #[.string ⟨#[]⟩,.int .i64 0,.int .i64 0,.slice none 0 0,.slice none 0 0,.slice none 0 0,.slice none 0 0] 27)
 have kz:=Blk.new (w.alloc (.cells #[.string ⟨nm.toArray⟩,.int .i64 qu,.int .i64 nx,.slice s1 sn s3,.slice u1 un u3,.slice t1 tn t3,.slice l1 ln l3] 27)) 27 #[.string ⟨#[]⟩,.int .i64 0,.int .i64 0,.slice none 0 0,.slice none 0 0,.slice none 0 0,.slice none 0 0]
 rw [show (w.alloc (.cells #[.string ⟨nm.toArray⟩,.int .i64 qu,.int .i64 nx,.slice s1 sn s3,.slice u1 un u3,.slice t1 tn t3,.slice l1 ln l3] 27)).heap.size=w.heap.size+1 by simp] at kz
 have hsz:((w.alloc (.cells #[.string ⟨nm.toArray⟩,.int .i64 qu,.int .i64 nx,.slice s1 sn s3,.slice u1 un u3,.slice t1 tn t3,.slice l1 ln l3] 27)).alloc (.cells #[.string ⟨#[]⟩,.int .i64 0,.int .i64 0,.slice none 0 0,.slice none 0 0,.slice none 0 0,.slice none 0 0] 27)).heap.size=w.heap.size+2:=tZ3
 obtain ⟨W1,hW1⟩:∃ W,W=((w.alloc (.cells #[.string ⟨nm.toArray⟩,.int .i64 qu,.int .i64 nx,.slice s1 sn s3,.slice u1 un u3,.slice t1 tn t3,.slice l1 ln l3] 27)).alloc (.cells #[.string ⟨#[]⟩,.int .i64 0,.int .i64 0,.slice none 0 0,.slice none 0 0,.slice none 0 0,.slice none 0 0] 27)):=⟨_,rfl⟩
 rw [← hW1] at hb hsz kt kz
 have hKt:Hid (∀ W,Below W1.heap.size W1 W→Blk W w.heap.size 27 #[.string ⟨nm.toArray⟩,.int .i64 qu,.int .i64 nx,.slice s1 sn s3,.slice u1 un u3,.slice t1 tn t3,.slice l1 ln l3]):=fun W h=>kt.below h tZ1
 have hKz:Hid (∀ W,Below W1.heap.size W1 W→Blk W (w.heap.size+1) 27 #[.string ⟨#[]⟩,.int .i64 0,.int .i64 0,.slice none 0 0,.slice none 0 0,.slice none 0 0,.slice none 0 0]):=fun W h=>kz.below h tZ1
 have hBW:Hid (∀ W,Below W1.heap.size W1 W→Below w.heap.size w W):=fun W h=>hb.trans (h.mono tZ1)
 have hSZ:Hid (∀ W,Below W1.heap.size W1 W→w.heap.size+2≤W.heap.size):=fun W h=>by have:=h.size;omega
 have hW0:Hid (Below W1.heap.size W1 W1):=Below.refl _ _
 have hrw:Hid (∀ W,Below W1.heap.size W1 W→TenR.rd W B ⟨nm,qu,nx,⟨s1,sn,s3,sl⟩,⟨u1,un,u3,ul⟩,⟨t1,tn,t3,tl⟩,⟨l1,ln,l3,ll⟩⟩∧B≤W.heap.size∧HasMax W):=fun W h =>
  ⟨TenR.rd.below hr ((hBW.out W h).mono hB),by have:=hSZ.out W h;omega,hmx.below (hBW.out W h)⟩
 obtain ⟨C,hC⟩:∃ C,C=TenR.con ⟨nm,qu,nx,⟨s1,sn,s3,sl⟩,⟨u1,un,u3,ul⟩,⟨t1,tn,t3,tl⟩,⟨l1,ln,l3,ll⟩⟩:=⟨_,rfl⟩
 have hHC:=Lib.hid hC
 rw [← hC] at h3 hVe hpl hfk hfk2 hcz
 obtain ⟨E0,hE0⟩:∃ E,E=C.ask p:=⟨_,rfl⟩
 obtain ⟨F0,hF0⟩:∃ F,F=C.find p:=⟨_,rfl⟩
 have hPL:Hid (∀ W,Below W1.heap.size W1 W→Calls Tryz.prog 100 #[.agg #[.string ⟨nm.toArray⟩,.int .i64 qu,.int .i64 nx,.slice s1 sn s3,.slice u1 un u3,.slice t1 tn t3,.slice l1 ln l3],.string ⟨p.toArray⟩] W fun e w'=>e=.returned (.tuple #[.int .i64 (if E0≠0 then (0,E0) else if F0<0 then (0,71) else (F0,0)).1,.int .i64 (if E0≠0 then (0,E0) else if F0<0 then (0,71) else (F0,0)).2])∧Below W.heap.size W w'):=fun W h=>by
  exact mZ226
 rw [← hE0,← hF0] at hVe
 rw [← hE0] at h3
 rw [← hF0] at hfk hfk2
 have hCP:Hid (∀ W,Below W1.heap.size W1 W→Calls Tryz.prog 44 #[.agg #[.string ⟨nm.toArray⟩,.int .i64 qu,.int .i64 nx,.slice s1 sn s3,.slice u1 un u3,.slice t1 tn t3,.slice l1 ln l3]] W fun e w'=>∃ y:TenR,e=.returned y.val∧TenO w' W.heap.size y∧TenR.eqv ⟨nm,qu,nx,⟨s1,sn,s3,sl⟩,⟨u1,un,u3,ul⟩,⟨t1,tn,t3,tl⟩,⟨l1,ln,l3,ll⟩⟩ y∧Below W.heap.size W w'):=fun W h =>
  tcopy_any ⟨nm,qu,nx,⟨s1,sn,s3,sl⟩,⟨u1,un,u3,ul⟩,⟨t1,tn,t3,tl⟩,⟨l1,ln,l3,ll⟩⟩ W B (hrw.out W h).2.1 (hrw.out W h).1 hz
 have hSN:=Lib.hid (show sn=sl.length from hr.sets.1)
 have HFK:=Lib.hid hfk
 have HCZ:=Lib.hid hcz
 have HF:=Lib.hid hF
 have HV:=Lib.hid hVe
 have HZS:=Lib.hid (show sn≤1000000000000 from hz.sets)
 clear hb hsz kt kz hr hp hmx hVe hV hpl hfk hC hE0 hF0 hz hF hcz
 go_enter Tryz.func85,Tryz.ntmps85
 obtain ⟨pv,hpv⟩:∃ v,v=(if E0≠0 then ((0:Int),E0) else if F0<0 then (0,71) else (F0,0)):=⟨_,rfl⟩
 rw [← hpv] at hPL
 have HPV:=Lib.hid hpv
 clear hpv
 obtain ⟨pv1,pv2⟩:=pv
 have hc:=hPL.out  W1 hW0.out
 have kk:=hKt.out W1 hW0.out
 obtain ⟨c0,c1,c2,c3,c4,c5,c6⟩:=(⟨kk.cell 0,kk.cell 1,kk.cell 2,kk.cell 3,kk.cell 4,kk.cell 5,kk.cell 6⟩:_∧_∧_∧_∧_∧_∧_)
 simp only [zF,zD,zE] at c0 c1 c2 c3 c4 c5 c6
 clear kk
 go_wp2_with fail
 rw [← hW1]
 clear hW1
 refine hc.mono ?_
 clear hc c0 c1 c2 c3 c4 c5 c6
 rintro e w2 ⟨rfl,hb⟩
 have HW2:=Lib.hid (hW0.out.trans (hb.mono hW0.out.size))
 clear hb
 rcases h3 with rfl | rfl | rfl
 ·have HV:=Lib.hid (HV.out.trans (if_neg tZ4))
  by_cases hf0:F0<0
  ·exact mZ225
  ·have hpv:F0=pv1∧pv2=0:=by have h:=HPV.out;rw [if_neg tZ4,if_neg hf0] at h;injection h with h1 h2;exact ⟨h1.symm,h2⟩
   obtain ⟨rfl,rfl⟩:=hpv
   have HV:=Lib.hid (HV.out.trans (if_neg hf0))
   clear HPV
   have hFD:∃ k:Nat,F0=(k:Int):=by
    exact mZ224
   obtain ⟨k,rfl⟩:=hFD
   have HKL:=Lib.hid (HFK.out k rfl)
   clear hfk2 hf0 HFK
   have hc:=hCP.out w2 HW2.out
   have kk:=hKt.out w2 HW2.out
   obtain ⟨c0,c1,c2,c3,c4,c5,c6⟩:=(⟨kk.cell 0,kk.cell 1,kk.cell 2,kk.cell 3,kk.cell 4,kk.cell 5,kk.cell 6⟩:_∧_∧_∧_∧_∧_∧_)
   simp only [zF,zD,zE] at c0 c1 c2 c3 c4 c5 c6
   clear kk
   clear hCP
   go_wp2_with fail
   refine hc.mono ?_
   clear hc c0 c1 c2 c3 c4 c5 c6
   rintro e w6 ⟨y,rfl,ho6,he6,hb6⟩
   have HW6:=Lib.hid (HW2.out.trans (hb6.mono HW2.out.size))
   have HCON:=Lib.hid ((TenR.eqv_iff _ _).1 he6)
   have hlen:y.sets.n=sn:=by
    exact mZ223
   obtain ⟨mm,mq,mx,⟨m1,m2,m3,ml⟩,⟨n1,n2,n3,nl⟩,⟨p1,p2,p3,pl⟩,⟨q1,q2,q3,ql⟩⟩:=y
   replace hlen:m2=sn:=hlen
   have hms:m2=ml.length:=ho6.sets.1
   have hkm:k<m2:=tZ59
   obtain ⟨gS,csS,hA,hbg,hblk⟩:=ho6.sets.blk tZ116
   replace hA:m1=some ⟨gS,0,none⟩:=hA
   subst hA
   have hgS6:=hblk.lt
   simp only [TenR.val,TenR.cells,FS.val,strV]
   have hsz3:=hSZ.out w2 HW2.out
   have hsz6:=hSZ.out w6 HW6.out
   have ho7:=ho6.below ((Below.refl w6.heap.size w6).alloc (Nat.le_refl _) (.cells #[.string ⟨mm.toArray⟩,.int .i64 mq,.int .i64 mx,.slice (some ⟨gS,0,none⟩) m2 m3,.slice n1 n2 n3,.slice p1 p2 p3,.slice q1 q2 q3] 27))
   have k7:=Blk.new w6 27 #[.string ⟨mm.toArray⟩,.int .i64 mq,.int .i64 mx,.slice (some ⟨gS,0,none⟩) m2 m3,.slice n1 n2 n3,.slice p1 p2 p3,.slice q1 q2 q3]
   have kz7:=(hKz.out w6 HW6.out).alloc (.cells #[.string ⟨mm.toArray⟩,.int .i64 mq,.int .i64 mx,.slice (some ⟨gS,0,none⟩) m2 m3,.slice n1 n2 n3,.slice p1 p2 p3,.slice q1 q2 q3] 27)
   have hbw7:=(hBW.out w6 HW6.out).alloc tZ1 (.cells #[.string ⟨mm.toArray⟩,.int .i64 mq,.int .i64 mx,.slice (some ⟨gS,0,none⟩) m2 m3,.slice n1 n2 n3,.slice p1 p2 p3,.slice q1 q2 q3] 27)
   obtain ⟨g5,hg5⟩:∃ g,g=w6.heap.size:=⟨_,rfl⟩
   have HG5:=Lib.hid (show g5=w6.heap.size∧w.heap.size+2≤g5∧w.heap.size+2≤w2.heap.size∧gS<g5∧w2.heap.size≤gS by omega)
   have hki:(k:Int)<(m2:Int):=tZ1
   have hk0:(0:Int)≤(k:Int):=tZ1
   obtain ⟨W7,hW7⟩:∃ W,W=w6.alloc (.cells #[.string ⟨mm.toArray⟩,.int .i64 mq,.int .i64 mx,.slice (some ⟨gS,0,none⟩) m2 m3,.slice n1 n2 n3,.slice p1 p2 p3,.slice q1 q2 q3] 27):=⟨_,rfl⟩
   rw [← hW7] at ho7 k7 kz7 hbw7
   rw [← hg5] at k7
   have hyc:Hid (TenR.con ⟨mm,mq,mx,⟨some ⟨gS,0,none⟩,m2,m3,ml⟩,⟨n1,n2,n3,nl⟩,⟨p1,p2,p3,pl⟩,⟨q1,q2,q3,ql⟩⟩=C):=tZ43
   have hcF0:=HF.out ⟨mm,mq,mx,⟨some ⟨gS,0,none⟩,m2,m3,ml⟩,⟨n1,n2,n3,nl⟩,⟨p1,p2,p3,pl⟩,⟨q1,q2,q3,ql⟩⟩ k (by show k<ml.length;omega) gS w2.heap.size W7 hbw7 tZ1 ho7 (by rw [hyc.out];exact HCZ.out) rfl
   obtain ⟨xs,hxs⟩:∃ x,x=ml[k]'tZ1:=⟨_,rfl⟩
   have hcF:Calls Tryz.prog fn (#[.pointer (some ⟨gS,k*5,none⟩)]++#[.pointer (some cp1),.pointer (some cp2)]) W7 fun e W'=>e=.returned (.int .i64 (F xs.con).1)∧W7.grownBy W' (some gS)∧((F xs.con).1=0→∃ x':SetR,x'.con=(F xs.con).2∧TenO W' w2.heap.size (TenR.putS ⟨mm,mq,mx,⟨some ⟨gS,0,none⟩,m2,m3,ml⟩,⟨n1,n2,n3,nl⟩,⟨p1,p2,p3,pl⟩,⟨q1,q2,q3,ql⟩⟩ k x')):=by rw [hxs];exact hcF0
   exact mZ222
 ·have HX:=Lib.hid (HV.out.trans (if_pos tZ4))
  have hpv:pv1=0∧pv2=9:=by have h:=HPV.out;rw [if_pos tZ4] at h;injection h with h1 h2;exact ⟨h1,h2⟩
  obtain ⟨rfl,rfl⟩:=hpv
  clear HV HPV
  have KZ:=Lib.hid (hKz.out w2 HW2.out)
  have HB:=Lib.hid (hBW.out w2 HW2.out)
  obtain ⟨WR,hW4,hth,HL,HBW,hgw⟩:=res7 (g:=(w.heap.size+1)) [.string ⟨#[]⟩,.int .i64 0,.int .i64 0,.slice none 0 0,.slice none 0 0,.slice none 0 0,.slice none 0 0] KZ.out HB.out tZ1
  clear hgw
  go_wp2_with (refine wpList_store_mid rfl 27 (.tmp 6) (.tmp 20) rfl ((w.heap.size+1)) 0 #[.string ⟨#[]⟩,.int .i64 0,.int .i64 0,.slice none 0 0,.slice none 0 0,.slice none 0 0,.slice none 0 0] rfl rfl hth.out tZ2 tZ5 ?_;rw [← hW4];clear hW4)
  exact mZ218
 ·have HX:=Lib.hid (HV.out.trans (if_pos tZ4))
  have hpv:pv1=0∧pv2=31:=by have h:=HPV.out;rw [if_pos tZ4] at h;injection h with h1 h2;exact ⟨h1,h2⟩
  obtain ⟨rfl,rfl⟩:=hpv
  clear HV HPV
  have KZ:=Lib.hid (hKz.out w2 HW2.out)
  have HB:=Lib.hid (hBW.out w2 HW2.out)
  obtain ⟨WR,hW4,hth,HL,HBW,hgw⟩:=res7 (g:=(w.heap.size+1)) [.string ⟨#[]⟩,.int .i64 0,.int .i64 0,.slice none 0 0,.slice none 0 0,.slice none 0 0,.slice none 0 0] KZ.out HB.out tZ1
  clear hgw
  go_wp2_with (refine wpList_store_mid rfl 27 (.tmp 6) (.tmp 20) rfl ((w.heap.size+1)) 0 #[.string ⟨#[]⟩,.int .i64 0,.int .i64 0,.slice none 0 0,.slice none 0 0,.slice none 0 0,.slice none 0 0] rfl rfl hth.out tZ2 tZ5 ?_;rw [← hW4];clear hW4)
  exact mZ217
set_option maxRecDepth 100000 in
set_option maxHeartbeats 8000000 in
theorem changed1_any (t:TenR) (p:BS) (fn:FuncId) (cp1:Addr) (F:SetC→Int×SetC) (w:World) (B:Nat) (hB:B≤w.heap.size) (hr:t.rd w B) (hz:t.sz) (hp:p.length≤4000000000) (hmx:HasMax w) (hF:Turns fn #[.pointer (some cp1)] F w) (hen:∀ args W,(callFunc fn args).run Tryz.prog W=.ok (.enter fn args) W) :
  Calls Tryz.prog 85 #[t.val,.string ⟨p.toArray⟩,.func (.func fn) #[] #[.pointer (some cp1)]] w (TenPost w (t.con.changed p F)):=by
 have h3:t.con.ask p=0∨t.con.ask p=9∨t.con.ask p=31:=tZ42
 obtain ⟨V,hV⟩:∃ V,V=t.con.changed p F:=⟨_,rfl⟩
 have hVe:V=if t.con.ask p≠0 then (t.con.ask p,t.con) else if t.con.find p<0 then (71,t.con) else match t.con.sets[(t.con.find p).toNat]? with
  | none=>(71,t.con)
  | some s=>if (F s).1≠0 then ((F s).1,t.con) else (0,t.con.putS (t.con.find p).toNat (F s).2):=hV
 rw [← hV]
 have hcz:=TenC.sz_of hr hz
 have hpl:=placeP_con t p
 have hfk:∀ k:Nat,t.con.find p=(k:Int)→k<t.sets.l.length:=fun k hk=>by
  exact mZ228
 have hfk2:t.con.find p<0∨∃ k:Nat,t.con.find p=(k:Int):=by
  exact mZ227
 obtain ⟨nm,qu,nx,⟨s1,sn,s3,sl⟩,⟨u1,un,u3,ul⟩,⟨t1,tn,t3,tl⟩,⟨l1,ln,l3,ll⟩⟩:=t
 show Calls Tryz.prog 85 #[.agg #[.string ⟨nm.toArray⟩,.int .i64 qu,.int .i64 nx,.slice s1 sn s3,.slice u1 un u3,.slice t1 tn t3,.slice l1 ln l3],.string ⟨p.toArray⟩,.func (.func fn) #[] #[.pointer (some cp1)]] w _
 have hb:=(((Below.refl w.heap.size w).alloc (Nat.le_refl _) (.cells #[.string ⟨nm.toArray⟩,.int .i64 qu,.int .i64 nx,.slice s1 sn s3,.slice u1 un u3,.slice t1 tn t3,.slice l1 ln l3] 27)).alloc tZ3 (.cells #[.string ⟨#[]⟩,.int .i64 0,.int .i64 0,.slice none 0 0,.slice none 0 0,.slice none 0 0,.slice none 0 0] 27))
 have kt:=Blk.new w 27 #[.string ⟨nm.toArray⟩,.int .i64 qu,.int .i64 nx,.slice s1 sn s3,.slice u1 un u3,.slice t1 tn t3,.slice l1 ln l3]
 replace kt:=kt.alloc (.cells #[.string ⟨#[]⟩,.int .i64 0,.int .i64 0,.slice none 0 0,.slice none 0 0,.slice none 0 0,.slice none 0 0] 27)
 have kz:=Blk.new (w.alloc (.cells #[.string ⟨nm.toArray⟩,.int .i64 qu,.int .i64 nx,.slice s1 sn s3,.slice u1 un u3,.slice t1 tn t3,.slice l1 ln l3] 27)) 27 #[.string ⟨#[]⟩,.int .i64 0,.int .i64 0,.slice none 0 0,.slice none 0 0,.slice none 0 0,.slice none 0 0]
 rw [show (w.alloc (.cells #[.string ⟨nm.toArray⟩,.int .i64 qu,.int .i64 nx,.slice s1 sn s3,.slice u1 un u3,.slice t1 tn t3,.slice l1 ln l3] 27)).heap.size=w.heap.size+1 by simp] at kz
 have hsz:((w.alloc (.cells #[.string ⟨nm.toArray⟩,.int .i64 qu,.int .i64 nx,.slice s1 sn s3,.slice u1 un u3,.slice t1 tn t3,.slice l1 ln l3] 27)).alloc (.cells #[.string ⟨#[]⟩,.int .i64 0,.int .i64 0,.slice none 0 0,.slice none 0 0,.slice none 0 0,.slice none 0 0] 27)).heap.size=w.heap.size+2:=tZ3
 obtain ⟨W1,hW1⟩:∃ W,W=((w.alloc (.cells #[.string ⟨nm.toArray⟩,.int .i64 qu,.int .i64 nx,.slice s1 sn s3,.slice u1 un u3,.slice t1 tn t3,.slice l1 ln l3] 27)).alloc (.cells #[.string ⟨#[]⟩,.int .i64 0,.int .i64 0,.slice none 0 0,.slice none 0 0,.slice none 0 0,.slice none 0 0] 27)):=⟨_,rfl⟩
 rw [← hW1] at hb hsz kt kz
 have hKt:Hid (∀ W,Below W1.heap.size W1 W→Blk W w.heap.size 27 #[.string ⟨nm.toArray⟩,.int .i64 qu,.int .i64 nx,.slice s1 sn s3,.slice u1 un u3,.slice t1 tn t3,.slice l1 ln l3]):=fun W h=>kt.below h tZ1
 have hKz:Hid (∀ W,Below W1.heap.size W1 W→Blk W (w.heap.size+1) 27 #[.string ⟨#[]⟩,.int .i64 0,.int .i64 0,.slice none 0 0,.slice none 0 0,.slice none 0 0,.slice none 0 0]):=fun W h=>kz.below h tZ1
 have hBW:Hid (∀ W,Below W1.heap.size W1 W→Below w.heap.size w W):=fun W h=>hb.trans (h.mono tZ1)
 have hSZ:Hid (∀ W,Below W1.heap.size W1 W→w.heap.size+2≤W.heap.size):=fun W h=>by have:=h.size;omega
 have hW0:Hid (Below W1.heap.size W1 W1):=Below.refl _ _
 have hrw:Hid (∀ W,Below W1.heap.size W1 W→TenR.rd W B ⟨nm,qu,nx,⟨s1,sn,s3,sl⟩,⟨u1,un,u3,ul⟩,⟨t1,tn,t3,tl⟩,⟨l1,ln,l3,ll⟩⟩∧B≤W.heap.size∧HasMax W):=fun W h =>
  ⟨TenR.rd.below hr ((hBW.out W h).mono hB),by have:=hSZ.out W h;omega,hmx.below (hBW.out W h)⟩
 obtain ⟨C,hC⟩:∃ C,C=TenR.con ⟨nm,qu,nx,⟨s1,sn,s3,sl⟩,⟨u1,un,u3,ul⟩,⟨t1,tn,t3,tl⟩,⟨l1,ln,l3,ll⟩⟩:=⟨_,rfl⟩
 have hHC:=Lib.hid hC
 rw [← hC] at h3 hVe hpl hfk hfk2 hcz
 obtain ⟨E0,hE0⟩:∃ E,E=C.ask p:=⟨_,rfl⟩
 obtain ⟨F0,hF0⟩:∃ F,F=C.find p:=⟨_,rfl⟩
 have hPL:Hid (∀ W,Below W1.heap.size W1 W→Calls Tryz.prog 100 #[.agg #[.string ⟨nm.toArray⟩,.int .i64 qu,.int .i64 nx,.slice s1 sn s3,.slice u1 un u3,.slice t1 tn t3,.slice l1 ln l3],.string ⟨p.toArray⟩] W fun e w'=>e=.returned (.tuple #[.int .i64 (if E0≠0 then (0,E0) else if F0<0 then (0,71) else (F0,0)).1,.int .i64 (if E0≠0 then (0,E0) else if F0<0 then (0,71) else (F0,0)).2])∧Below W.heap.size W w'):=fun W h=>by
  exact mZ226
 rw [← hE0,← hF0] at hVe
 rw [← hE0] at h3
 rw [← hF0] at hfk hfk2
 have hCP:Hid (∀ W,Below W1.heap.size W1 W→Calls Tryz.prog 44 #[.agg #[.string ⟨nm.toArray⟩,.int .i64 qu,.int .i64 nx,.slice s1 sn s3,.slice u1 un u3,.slice t1 tn t3,.slice l1 ln l3]] W fun e w'=>∃ y:TenR,e=.returned y.val∧TenO w' W.heap.size y∧TenR.eqv ⟨nm,qu,nx,⟨s1,sn,s3,sl⟩,⟨u1,un,u3,ul⟩,⟨t1,tn,t3,tl⟩,⟨l1,ln,l3,ll⟩⟩ y∧Below W.heap.size W w'):=fun W h =>
  tcopy_any ⟨nm,qu,nx,⟨s1,sn,s3,sl⟩,⟨u1,un,u3,ul⟩,⟨t1,tn,t3,tl⟩,⟨l1,ln,l3,ll⟩⟩ W B (hrw.out W h).2.1 (hrw.out W h).1 hz
 have hSN:=Lib.hid (show sn=sl.length from hr.sets.1)
 have HFK:=Lib.hid hfk
 have HCZ:=Lib.hid hcz
 have HF:=Lib.hid hF
 have HV:=Lib.hid hVe
 have HZS:=Lib.hid (show sn≤1000000000000 from hz.sets)
 clear hb hsz kt kz hr hp hmx hVe hV hpl hfk hC hE0 hF0 hz hF hcz
 go_enter Tryz.func85,Tryz.ntmps85
 obtain ⟨pv,hpv⟩:∃ v,v=(if E0≠0 then ((0:Int),E0) else if F0<0 then (0,71) else (F0,0)):=⟨_,rfl⟩
 rw [← hpv] at hPL
 have HPV:=Lib.hid hpv
 clear hpv
 obtain ⟨pv1,pv2⟩:=pv
 have hc:=hPL.out  W1 hW0.out
 have kk:=hKt.out W1 hW0.out
 obtain ⟨c0,c1,c2,c3,c4,c5,c6⟩:=(⟨kk.cell 0,kk.cell 1,kk.cell 2,kk.cell 3,kk.cell 4,kk.cell 5,kk.cell 6⟩:_∧_∧_∧_∧_∧_∧_)
 simp only [zF,zD,zE] at c0 c1 c2 c3 c4 c5 c6
 clear kk
 go_wp2_with fail
 rw [← hW1]
 clear hW1
 refine hc.mono ?_
 clear hc c0 c1 c2 c3 c4 c5 c6
 rintro e w2 ⟨rfl,hb⟩
 have HW2:=Lib.hid (hW0.out.trans (hb.mono hW0.out.size))
 clear hb
 rcases h3 with rfl | rfl | rfl
 ·have HV:=Lib.hid (HV.out.trans (if_neg tZ4))
  by_cases hf0:F0<0
  ·exact mZ225
  ·have hpv:F0=pv1∧pv2=0:=by have h:=HPV.out;rw [if_neg tZ4,if_neg hf0] at h;injection h with h1 h2;exact ⟨h1.symm,h2⟩
   obtain ⟨rfl,rfl⟩:=hpv
   have HV:=Lib.hid (HV.out.trans (if_neg hf0))
   clear HPV
   have hFD:∃ k:Nat,F0=(k:Int):=by
    exact mZ224
   obtain ⟨k,rfl⟩:=hFD
   have HKL:=Lib.hid (HFK.out k rfl)
   clear hfk2 hf0 HFK
   have hc:=hCP.out w2 HW2.out
   have kk:=hKt.out w2 HW2.out
   obtain ⟨c0,c1,c2,c3,c4,c5,c6⟩:=(⟨kk.cell 0,kk.cell 1,kk.cell 2,kk.cell 3,kk.cell 4,kk.cell 5,kk.cell 6⟩:_∧_∧_∧_∧_∧_∧_)
   simp only [zF,zD,zE] at c0 c1 c2 c3 c4 c5 c6
   clear kk
   clear hCP
   go_wp2_with fail
   refine hc.mono ?_
   clear hc c0 c1 c2 c3 c4 c5 c6
   rintro e w6 ⟨y,rfl,ho6,he6,hb6⟩
   have HW6:=Lib.hid (HW2.out.trans (hb6.mono HW2.out.size))
   have HCON:=Lib.hid ((TenR.eqv_iff _ _).1 he6)
   have hlen:y.sets.n=sn:=by
    exact mZ223
   obtain ⟨mm,mq,mx,⟨m1,m2,m3,ml⟩,⟨n1,n2,n3,nl⟩,⟨p1,p2,p3,pl⟩,⟨q1,q2,q3,ql⟩⟩:=y
   replace hlen:m2=sn:=hlen
   have hms:m2=ml.length:=ho6.sets.1
   have hkm:k<m2:=tZ59
   obtain ⟨gS,csS,hA,hbg,hblk⟩:=ho6.sets.blk tZ116
   replace hA:m1=some ⟨gS,0,none⟩:=hA
   subst hA
   have hgS6:=hblk.lt
   simp only [TenR.val,TenR.cells,FS.val,strV]
   have hsz3:=hSZ.out w2 HW2.out
   have hsz6:=hSZ.out w6 HW6.out
   have ho7:=ho6.below ((Below.refl w6.heap.size w6).alloc (Nat.le_refl _) (.cells #[.string ⟨mm.toArray⟩,.int .i64 mq,.int .i64 mx,.slice (some ⟨gS,0,none⟩) m2 m3,.slice n1 n2 n3,.slice p1 p2 p3,.slice q1 q2 q3] 27))
   have k7:=Blk.new w6 27 #[.string ⟨mm.toArray⟩,.int .i64 mq,.int .i64 mx,.slice (some ⟨gS,0,none⟩) m2 m3,.slice n1 n2 n3,.slice p1 p2 p3,.slice q1 q2 q3]
   have kz7:=(hKz.out w6 HW6.out).alloc (.cells #[.string ⟨mm.toArray⟩,.int .i64 mq,.int .i64 mx,.slice (some ⟨gS,0,none⟩) m2 m3,.slice n1 n2 n3,.slice p1 p2 p3,.slice q1 q2 q3] 27)
   have hbw7:=(hBW.out w6 HW6.out).alloc tZ1 (.cells #[.string ⟨mm.toArray⟩,.int .i64 mq,.int .i64 mx,.slice (some ⟨gS,0,none⟩) m2 m3,.slice n1 n2 n3,.slice p1 p2 p3,.slice q1 q2 q3] 27)
   obtain ⟨g5,hg5⟩:∃ g,g=w6.heap.size:=⟨_,rfl⟩
   have HG5:=Lib.hid (show g5=w6.heap.size∧w.heap.size+2≤g5∧w.heap.size+2≤w2.heap.size∧gS<g5∧w2.heap.size≤gS by omega)
   have hki:(k:Int)<(m2:Int):=tZ1
   have hk0:(0:Int)≤(k:Int):=tZ1
   obtain ⟨W7,hW7⟩:∃ W,W=w6.alloc (.cells #[.string ⟨mm.toArray⟩,.int .i64 mq,.int .i64 mx,.slice (some ⟨gS,0,none⟩) m2 m3,.slice n1 n2 n3,.slice p1 p2 p3,.slice q1 q2 q3] 27):=⟨_,rfl⟩
   rw [← hW7] at ho7 k7 kz7 hbw7
   rw [← hg5] at k7
   have hyc:Hid (TenR.con ⟨mm,mq,mx,⟨some ⟨gS,0,none⟩,m2,m3,ml⟩,⟨n1,n2,n3,nl⟩,⟨p1,p2,p3,pl⟩,⟨q1,q2,q3,ql⟩⟩=C):=tZ43
   have hcF0:=HF.out ⟨mm,mq,mx,⟨some ⟨gS,0,none⟩,m2,m3,ml⟩,⟨n1,n2,n3,nl⟩,⟨p1,p2,p3,pl⟩,⟨q1,q2,q3,ql⟩⟩ k (by show k<ml.length;omega) gS w2.heap.size W7 hbw7 tZ1 ho7 (by rw [hyc.out];exact HCZ.out) rfl
   obtain ⟨xs,hxs⟩:∃ x,x=ml[k]'tZ1:=⟨_,rfl⟩
   have hcF:Calls Tryz.prog fn (#[.pointer (some ⟨gS,k*5,none⟩)]++#[.pointer (some cp1)]) W7 fun e W'=>e=.returned (.int .i64 (F xs.con).1)∧W7.grownBy W' (some gS)∧((F xs.con).1=0→∃ x':SetR,x'.con=(F xs.con).2∧TenO W' w2.heap.size (TenR.putS ⟨mm,mq,mx,⟨some ⟨gS,0,none⟩,m2,m3,ml⟩,⟨n1,n2,n3,nl⟩,⟨p1,p2,p3,pl⟩,⟨q1,q2,q3,ql⟩⟩ k x')):=by rw [hxs];exact hcF0
   exact mZ222
 ·have HX:=Lib.hid (HV.out.trans (if_pos tZ4))
  have hpv:pv1=0∧pv2=9:=by have h:=HPV.out;rw [if_pos tZ4] at h;injection h with h1 h2;exact ⟨h1,h2⟩
  obtain ⟨rfl,rfl⟩:=hpv
  clear HV HPV
  have KZ:=Lib.hid (hKz.out w2 HW2.out)
  have HB:=Lib.hid (hBW.out w2 HW2.out)
  obtain ⟨WR,hW4,hth,HL,HBW,hgw⟩:=res7 (g:=(w.heap.size+1)) [.string ⟨#[]⟩,.int .i64 0,.int .i64 0,.slice none 0 0,.slice none 0 0,.slice none 0 0,.slice none 0 0] KZ.out HB.out tZ1
  clear hgw
  go_wp2_with (refine wpList_store_mid rfl 27 (.tmp 6) (.tmp 20) rfl ((w.heap.size+1)) 0 #[.string ⟨#[]⟩,.int .i64 0,.int .i64 0,.slice none 0 0,.slice none 0 0,.slice none 0 0,.slice none 0 0] rfl rfl hth.out tZ2 tZ5 ?_;rw [← hW4];clear hW4)
  exact mZ218
 ·have HX:=Lib.hid (HV.out.trans (if_pos tZ4))
  have hpv:pv1=0∧pv2=31:=by have h:=HPV.out;rw [if_pos tZ4] at h;injection h with h1 h2;exact ⟨h1,h2⟩
  obtain ⟨rfl,rfl⟩:=hpv
  clear HV HPV
  have KZ:=Lib.hid (hKz.out w2 HW2.out)
  have HB:=Lib.hid (hBW.out w2 HW2.out)
  obtain ⟨WR,hW4,hth,HL,HBW,hgw⟩:=res7 (g:=(w.heap.size+1)) [.string ⟨#[]⟩,.int .i64 0,.int .i64 0,.slice none 0 0,.slice none 0 0,.slice none 0 0,.slice none 0 0] KZ.out HB.out tZ1
  clear hgw
  go_wp2_with (refine wpList_store_mid rfl 27 (.tmp 6) (.tmp 20) rfl ((w.heap.size+1)) 0 #[.string ⟨#[]⟩,.int .i64 0,.int .i64 0,.slice none 0 0,.slice none 0 0,.slice none 0 0,.slice none 0 0] rfl rfl hth.out tZ2 tZ5 ?_;rw [← hW4];clear hW4)
  exact mZ217
end Go.Proofs.YtcgclpcocdappaaGreatDoor
