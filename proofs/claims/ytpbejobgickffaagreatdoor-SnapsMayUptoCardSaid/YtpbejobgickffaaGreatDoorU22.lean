/-
  snaps.found, snaps.guid: by their contracts. shape.With: a tenant with a set more. The page's New: the root alone. What is told of tenants, laid side by side: two of one content are the same. The page's Check of what may be. The example of chapter 16: the page's New, and a set made. shape.Destroy: a set is gone. A set that was made and is destroyed: the content is as it was (plain law). What may be, by content: sets one by one; a set more, a set less, a set turned. shape.Write, Free, Set, Unset: a set's body or its properties turned.
-/
import Derived.Test.YtpbejobgickffaaGreatDoorU0
import Derived.Test.YtpbejobgickffaaGreatDoorU21
import Derived.Test.YtpbejobgickffaaGreatDoorU5
import Derived.Test.YtpbejobgickffaaGreatDoorU20
import Derived.Test.YtpbejobgickffaaGreatDoorU15
import Derived.Test.YtpbejobgickffaaGreatDoorU3
import Derived.Test.YtpbejobgickffaaGreatDoorU17
import Derived.Test.YtpbejobgickffaaGreatDoorU19
import Derived.Test.YtpbejobgickffaaGreatDoorU18
import Derived.Test.YtpbejobgickffaaGreatDoorU7
import Derived.Test.YtpbejobgickffaaGreatDoorU6
import Derived.Test.YtpbejobgickffaaGreatDoorRows
import Derived.Handy
import Derived.Lib.Hide
import Derived.Deep.RegionLaw
import Derived.Test.YtpbejobgickffaaGreatDoorU10
import Derived.Test.YtpbejobgickffaaGreatDoorU2
import Derived.ProofKit
import Derived.Lib.AppendZeros
namespace Go.Proofs.YtpbejobgickffaaGreatDoor
open Go.RowKit
/-- likewise, of a snapshot that must be there -/
def foundI (t:TenR) (p n:BS) (bad:Bool):Int×Int×Int :=
 if (askI t p n bad).2.2=0∧(askI t p n bad).2.1<0 then ((askI t p n bad).1,(askI t p n bad).2.1,71) else askI t p n bad
set_option maxRecDepth 100000 in
set_option maxHeartbeats 2000000 in
theorem found_any (t:TenR) (p n:BS) (ms:List Bool) (mA:Option Addr) (mn mc:Nat) (w:World) (B:Nat) (hB:B≤w.heap.size) (hr:t.rd w B) (hz:t.sz) (hp:p.length≤4000000000) (hmx:HasMax w) (hmn:mn=ms.length) (hm5:mn≤5) (hms:Reads w B 1 mA mn (cellsK (fun b:Bool=>[Value.bool b]) ms)) :
  Calls Tryz.prog 56 #[t.val,.string ⟨p.toArray⟩,.string ⟨n.toArray⟩,.slice mA mn mc] w fun e w'=>e=.returned (askV (foundI t p n (ms.contains false)))∧Below w.heap.size w w':=by
 obtain ⟨nm,qu,nx,⟨s1,sn,s3,sl⟩,⟨g1,gn,g3,gl⟩,⟨t1,tn,t3,tl⟩,⟨l1,ln,l3,ll⟩⟩:=t
 show Calls Tryz.prog 56 #[.agg #[.string ⟨nm.toArray⟩,.int .i64 qu,.int .i64 nx,.slice s1 sn s3,.slice g1 gn g3,.slice t1 tn t3,.slice l1 ln l3],.string ⟨p.toArray⟩,.string ⟨n.toArray⟩,.slice mA mn mc] w _
 have hb1:=(Below.refl w.heap.size w).alloc (Nat.le_refl _) (.cells #[.string ⟨nm.toArray⟩,.int .i64 qu,.int .i64 nx,.slice s1 sn s3,.slice g1 gn g3,.slice t1 tn t3,.slice l1 ln l3] 27)
 have hc:Calls Tryz.prog 45 #[.agg #[.string ⟨nm.toArray⟩,.int .i64 qu,.int .i64 nx,.slice s1 sn s3,.slice g1 gn g3,.slice t1 tn t3,.slice l1 ln l3],.string ⟨p.toArray⟩,.string ⟨n.toArray⟩,.slice mA mn mc] (w.alloc (.cells #[.string ⟨nm.toArray⟩,.int .i64 qu,.int .i64 nx,.slice s1 sn s3,.slice g1 gn g3,.slice t1 tn t3,.slice l1 ln l3] 27)) _:=asked_any ⟨nm,qu,nx,⟨s1,sn,s3,sl⟩,⟨g1,gn,g3,gl⟩,⟨t1,tn,t3,tl⟩,⟨l1,ln,l3,ll⟩⟩ p n ms mA mn mc (w.alloc (.cells #[.string ⟨nm.toArray⟩,.int .i64 qu,.int .i64 nx,.slice s1 sn s3,.slice g1 gn g3,.slice t1 tn t3,.slice l1 ln l3] 27)) B (by simp;omega) (TenR.rd.below hr (hb1.mono hB)) hz hp (hmx.below hb1) hmn hm5 (hms.below (hb1.mono hB))
 obtain ⟨V,hV⟩:∃ V,V=askI ⟨nm,qu,nx,⟨s1,sn,s3,sl⟩,⟨g1,gn,g3,gl⟩,⟨t1,tn,t3,tl⟩,⟨l1,ln,l3,ll⟩⟩ p n (ms.contains false):=⟨_,rfl⟩
 have hF:Hid (foundI ⟨nm,qu,nx,⟨s1,sn,s3,sl⟩,⟨g1,gn,g3,gl⟩,⟨t1,tn,t3,tl⟩,⟨l1,ln,l3,ll⟩⟩ p n (ms.contains false)=if V.2.2=0∧V.2.1<0 then (V.1,V.2.1,71) else V):=by show _=_;unfold foundI;rw [← hV]
 rw [← hV] at hc
 obtain ⟨a,k,e0⟩:=V
 simp only [askV] at hc hF
 have HB1:=Lib.hid hb1
 clear hb1 hr hz hmx hms hmn hV
 go_enter Tryz.func56,Tryz.ntmps56
 go_wp2_with fail
 refine hc.mono ?_
 clear hc
 rintro e w2 ⟨rfl,hb2⟩
 have HB2:=Lib.hid (HB1.out.trans (hb2.mono HB1.out.size))
 clear hb2 HB1
 by_cases he:e0=0
 ·subst he
  by_cases hk:k<0
  ·have HF1:Hid (foundI ⟨nm,qu,nx,⟨s1,sn,s3,sl⟩,⟨g1,gn,g3,gl⟩,⟨t1,tn,t3,tl⟩,⟨l1,ln,l3,ll⟩⟩ p n (ms.contains false)=(a,k,71)):=by show _=_;rw [hF.out,if_pos ⟨rfl,hk⟩]
   clear hF
   go_wp2_with fail
   exact bodyPost_ret (v:=.tuple #[.int .i64 a,.int .i64 k,.int .i64 71]) (by simp [results,Tryz.results56,go_sem]) rfl ⟨by rw [HF1.out];rfl,HB2.out⟩
  ·have HF1:Hid (foundI ⟨nm,qu,nx,⟨s1,sn,s3,sl⟩,⟨g1,gn,g3,gl⟩,⟨t1,tn,t3,tl⟩,⟨l1,ln,l3,ll⟩⟩ p n (ms.contains false)=(a,k,0)):=by show _=_;rw [hF.out,if_neg (fun h=>hk h.2)]
   clear hF
   go_wp2_with fail
   exact bodyPost_ret (v:=.tuple #[.int .i64 a,.int .i64 k,.int .i64 0]) (by simp [results,Tryz.results56,go_sem]) rfl ⟨by rw [HF1.out];rfl,HB2.out⟩
 ·have HF1:Hid (foundI ⟨nm,qu,nx,⟨s1,sn,s3,sl⟩,⟨g1,gn,g3,gl⟩,⟨t1,tn,t3,tl⟩,⟨l1,ln,l3,ll⟩⟩ p n (ms.contains false)=(a,k,e0)):=by show _=_;rw [hF.out,if_neg (fun h=>he h.1)]
  clear hF
  have heb:(e0 == 0)=false:=by simpa using he
  go_wp2_with fail
  exact bodyPost_ret (v:=.tuple #[.int .i64 a,.int .i64 k,.int .i64 e0]) (by simp [results,Tryz.results56,go_sem]) rfl ⟨by rw [HF1.out];rfl,HB2.out⟩
/-- the next number of a set's -/
def guidI (nx:Int) (l:List SnapR):Int:=match l.getLast? with
 | none=>nx
 | some x=>max nx (x.gd+1)
set_option maxRecDepth 100000 in
set_option maxHeartbeats 2000000 in
theorem guid_any (v0 v1 v3 v4 v5 v6:Value) (nx:Int) (u0 u1 u2 u4:Value) (zl:List SnapR) (zA:Option Addr) (zn zc:Nat) (w:World) (B:Nat) (hB:B≤w.heap.size) (hz:Reads w B 5 zA zn (cellsK encSnap zl)) (hn:zn=zl.length) (hm:zn≤1000000) (hg:∀ x∈zl,-4000000000000000000≤x.gd∧x.gd≤4000000000000000000) :
  Calls Tryz.prog 46 #[.agg #[v0,v1,.int .i64 nx,v3,v4,v5,v6],.agg #[u0,u1,u2,.slice zA zn zc,u4]] w fun e w'=>e=.returned (.int .i64 (guidI nx zl))∧Below w.heap.size w w':=by
 have hb1:=(Below.refl w.heap.size w).alloc (Nat.le_refl _) (.cells #[v0,v1,.int .i64 nx,v3,v4,v5,v6] 27)
 have hb2:=hb1.alloc hb1.size (.cells #[u0,u1,u2,.slice zA zn zc,u4] 42)
 have HB2:=Lib.hid hb2
 have hz2:=hz.below (hb2.mono hB)
 have HN:=Lib.hid hn
 rcases Nat.eq_zero_or_pos zn with h0 | h0
 ·subst h0
  have hl:zl=[]:=List.eq_nil_of_length_eq_zero hn.symm
  subst hl
  clear hb1 hb2 hz hz2 hn
  go_enter Tryz.func46,Tryz.ntmps46
  go_wp2_with fail
  go_ret
  exact ⟨rfl,HB2.out⟩
 ·have hlt:zn-1<zn:=by omega
  have hzi:(0:Int)<(zn:Int):=by omega
  have hsub:IntKind.i64.wrap ((zn:Int)-1)=((zn-1:Nat):Int):=by rw [show (zn:Int)-1=((zn-1:Nat):Int) by omega];exact IntWalk.i64_in _ (by omega)
  have hi2:((zn-1:Nat):Int)<(zn:Int):=by omega
  obtain ⟨ad,rfl,-,r0,r1,r2,r3,r4⟩:=snap_at hz2 hn hlt
  have hkl:zn-1<zl.length:=by omega
  have hgl:=hg _ (List.getElem_mem hkl)
  have HL:Hid (zl.getLast?=some (zl[zn-1]'hkl)):=by
   show _=_
   rw [List.getLast?_eq_getElem?,← hn,List.getElem?_eq_getElem hkl]
  obtain ⟨x,hx⟩:∃ x,x=zl[zn-1]'hkl:=⟨_,rfl⟩
  rw [← hx] at r1 HL hgl
  have hadd:IntKind.i64.wrap (x.gd+1)=x.gd+1:=IntWalk.i64_in _ (by omega)
  clear hb1 hb2 hz hz2 hn hx r0 r2 r3 r4 hg
  go_enter Tryz.func46,Tryz.ntmps46
  go_wp2_with fail
  go_ret
  refine ⟨?_,HB2.out⟩
  unfold guidI
  rw [HL.out]
  rfl
end Go.Proofs.YtpbejobgickffaaGreatDoor
namespace Go.Proofs.YtpbejobgickffaaGreatDoor
open Go.RowKit
theorem encSet_one (x:SetR):∀ u∈encSet x,u.oneCell'=true:=by intro u hu;simp [encSet,strV,FS.val] at hu;rcases hu with rfl | rfl | rfl | rfl | rfl <;> rfl
set_option maxRecDepth 100000 in
set_option maxHeartbeats 4000000 in
theorem with_any (t:TenR) (s:SetR) (w:World) (B base:Nat) (hB:B≤w.heap.size) (hr:t.rd w B) (hz:t.sz) (hs:SetO w base s) (hbs:base≤w.heap.size) (hlt:t.sets.n≤1000000000) (hasc:SignAsc (fun x:SetR=>cmpS x.path s.path) t.sets.l) :
  Calls Tryz.prog 61 #[t.val,.agg (encSet s).toArray] w fun e w'=>∃ y:TenR,e=.returned y.val∧TenO w' base y∧y.con=t.con.withS s.con∧Below w.heap.size w w':=by
 obtain ⟨nm,qu,nx,⟨s1,sn,s3,sl⟩,⟨u1,un,u3,ul⟩,⟨t1,tn,t3,tl⟩,⟨l1,ln,l3,ll⟩⟩:=t
 obtain ⟨pa,og,⟨bA,bn,bc,bl⟩,⟨zA,zn,zc,zl⟩,⟨oA,on,oc,ol⟩⟩:=s
 show Calls Tryz.prog 61 #[.agg #[.string ⟨nm.toArray⟩,.int .i64 qu,.int .i64 nx,.slice s1 sn s3,.slice u1 un u3,.slice t1 tn t3,.slice l1 ln l3],.agg #[.string ⟨pa.toArray⟩,.string ⟨og.toArray⟩,.slice bA bn bc,.slice zA zn zc,.slice oA on oc]] w _
 have hb3:=((((Below.refl w.heap.size w).alloc (Nat.le_refl _) (.cells #[.string ⟨nm.toArray⟩,.int .i64 qu,.int .i64 nx,.slice s1 sn s3,.slice u1 un u3,.slice t1 tn t3,.slice l1 ln l3] 27)).alloc (by simp) (.cells #[.string ⟨pa.toArray⟩,.string ⟨og.toArray⟩,.slice bA bn bc,.slice zA zn zc,.slice oA on oc] 42)).alloc (by simp;omega) (.cells #[.string ⟨#[]⟩,.int .i64 0,.int .i64 0,.slice none 0 0,.slice none 0 0,.slice none 0 0,.slice none 0 0] 27))
 have kT:=((Blk.new w 27 #[.string ⟨nm.toArray⟩,.int .i64 qu,.int .i64 nx,.slice s1 sn s3,.slice u1 un u3,.slice t1 tn t3,.slice l1 ln l3]).alloc (.cells #[.string ⟨pa.toArray⟩,.string ⟨og.toArray⟩,.slice bA bn bc,.slice zA zn zc,.slice oA on oc] 42)).alloc (.cells #[.string ⟨#[]⟩,.int .i64 0,.int .i64 0,.slice none 0 0,.slice none 0 0,.slice none 0 0,.slice none 0 0] 27)
 have kS:=(Blk.new (w.alloc (.cells #[.string ⟨nm.toArray⟩,.int .i64 qu,.int .i64 nx,.slice s1 sn s3,.slice u1 un u3,.slice t1 tn t3,.slice l1 ln l3] 27)) 42 #[.string ⟨pa.toArray⟩,.string ⟨og.toArray⟩,.slice bA bn bc,.slice zA zn zc,.slice oA on oc]).alloc (.cells #[.string ⟨#[]⟩,.int .i64 0,.int .i64 0,.slice none 0 0,.slice none 0 0,.slice none 0 0,.slice none 0 0] 27)
 have kZ:=Blk.new ((w.alloc (.cells #[.string ⟨nm.toArray⟩,.int .i64 qu,.int .i64 nx,.slice s1 sn s3,.slice u1 un u3,.slice t1 tn t3,.slice l1 ln l3] 27)).alloc (.cells #[.string ⟨pa.toArray⟩,.string ⟨og.toArray⟩,.slice bA bn bc,.slice zA zn zc,.slice oA on oc] 42)) 27 #[.string ⟨#[]⟩,.int .i64 0,.int .i64 0,.slice none 0 0,.slice none 0 0,.slice none 0 0,.slice none 0 0]
 rw [show (w.alloc (.cells #[.string ⟨nm.toArray⟩,.int .i64 qu,.int .i64 nx,.slice s1 sn s3,.slice u1 un u3,.slice t1 tn t3,.slice l1 ln l3] 27)).heap.size=w.heap.size+1 by simp] at kS
 rw [show ((w.alloc (.cells #[.string ⟨nm.toArray⟩,.int .i64 qu,.int .i64 nx,.slice s1 sn s3,.slice u1 un u3,.slice t1 tn t3,.slice l1 ln l3] 27)).alloc (.cells #[.string ⟨pa.toArray⟩,.string ⟨og.toArray⟩,.slice bA bn bc,.slice zA zn zc,.slice oA on oc] 42)).heap.size=w.heap.size+2 by simp] at kZ
 have hsz3:(((w.alloc (.cells #[.string ⟨nm.toArray⟩,.int .i64 qu,.int .i64 nx,.slice s1 sn s3,.slice u1 un u3,.slice t1 tn t3,.slice l1 ln l3] 27)).alloc (.cells #[.string ⟨pa.toArray⟩,.string ⟨og.toArray⟩,.slice bA bn bc,.slice zA zn zc,.slice oA on oc] 42)).alloc (.cells #[.string ⟨#[]⟩,.int .i64 0,.int .i64 0,.slice none 0 0,.slice none 0 0,.slice none 0 0,.slice none 0 0] 27)).heap.size=w.heap.size+3:=by simp
 obtain ⟨W3,hW3⟩:∃ W,W=(((w.alloc (.cells #[.string ⟨nm.toArray⟩,.int .i64 qu,.int .i64 nx,.slice s1 sn s3,.slice u1 un u3,.slice t1 tn t3,.slice l1 ln l3] 27)).alloc (.cells #[.string ⟨pa.toArray⟩,.string ⟨og.toArray⟩,.slice bA bn bc,.slice zA zn zc,.slice oA on oc] 42)).alloc (.cells #[.string ⟨#[]⟩,.int .i64 0,.int .i64 0,.slice none 0 0,.slice none 0 0,.slice none 0 0,.slice none 0 0] 27)):=⟨_,rfl⟩
 rw [← hW3] at hb3 kT kS kZ hsz3
 have hCP:Hid (Calls Tryz.prog 47 #[.agg #[.string ⟨nm.toArray⟩,.int .i64 qu,.int .i64 nx,.slice s1 sn s3,.slice u1 un u3,.slice t1 tn t3,.slice l1 ln l3]] W3 fun e w'=>∃ y:TenR,e=.returned y.val∧TenO w' W3.heap.size y∧TenR.eqv ⟨nm,qu,nx,⟨s1,sn,s3,sl⟩,⟨u1,un,u3,ul⟩,⟨t1,tn,t3,tl⟩,⟨l1,ln,l3,ll⟩⟩ y∧Below W3.heap.size W3 w') :=
  tcopy_any ⟨nm,qu,nx,⟨s1,sn,s3,sl⟩,⟨u1,un,u3,ul⟩,⟨t1,tn,t3,tl⟩,⟨l1,ln,l3,ll⟩⟩ W3 B (by omega) (TenR.rd.below hr (hb3.mono hB)) hz
 have HSN:=Lib.hid (show sl.length≤1000000000 by have h:=hr.sets.1;simp only at h hlt;omega)
 have HASC:=Lib.hid hasc
 have HSO3:=Lib.hid (hs.below (hb3.mono (Nat.le_refl _)))
 have HB3:=Lib.hid hb3
 have KS3:=Lib.hid kS
 have KZ3:=Lib.hid kZ
 have HSZ3:=Lib.hid hsz3
 have HBS:=Lib.hid hbs
 obtain ⟨c0,c1,c2,c3,c4,c5,c6⟩:=(⟨kT.cell 0,kT.cell 1,kT.cell 2,kT.cell 3,kT.cell 4,kT.cell 5,kT.cell 6⟩:_∧_∧_∧_∧_∧_∧_)
 simp only [zF,zD,zE] at c0 c1 c2 c3 c4 c5 c6
 clear hb3 kS kZ hr hz hs hlt hasc hsz3 kT hbs
 go_enter Tryz.func61,Tryz.ntmps61
 go_wp2_with fail
 rw [← hW3]
 clear hW3
 refine hCP.out.mono ?_
 clear hCP c0 c1 c2 c3 c4 c5 c6
 rintro e w4 ⟨y,rfl,ho4,he4,hb4⟩
 have HCON:=Lib.hid ((TenR.eqv_iff _ _).1 he4)
 have HE4:=Lib.hid he4
 have hY2:y.sets.n≤1000000000:=by
  have h1:=he4.lenS
  have h2:=ho4.sets.1
  simp only at h1
  have:=HSN.out
  omega
 have hYA:SignAsc (fun x:SetR=>cmpS x.path pa) y.sets.l:=by
  refine asc_eqv _ _ pa ?_ HASC.out
  have h:=congrArg (fun c:TenC=>c.sets.map SetC.path) HCON.out
  simpa [TenR.con,List.map_map,SetR.con,Function.comp_def] using h
 have HYA:=Lib.hid hYA
 obtain ⟨mm,mq,mx,⟨m1,m2,m3,ml⟩,⟨n1,n2,n3,nl⟩,⟨p1,p2,p3,pl⟩,⟨q1,q2,q3,ql⟩⟩:=y
 simp only [TenR.val,TenR.cells,FS.val,strV]
 have hszb:=HSZ3.out
 have hsz4:=hb4.size
 have kz4:=KZ3.out.below hb4 KZ3.out.lt
 have ks4:=KS3.out.below hb4 KS3.out.lt
 have hbw4:=HB3.out.trans (hb4.mono (by omega))
 have hso4:=HSO3.out.below hb4
 have ho5:=ho4.below ((Below.refl w4.heap.size w4).alloc (Nat.le_refl _) (.cells #[.string ⟨mm.toArray⟩,.int .i64 mq,.int .i64 mx,.slice m1 m2 m3,.slice n1 n2 n3,.slice p1 p2 p3,.slice q1 q2 q3] 27))
 have k5:=Blk.new w4 27 #[.string ⟨mm.toArray⟩,.int .i64 mq,.int .i64 mx,.slice m1 m2 m3,.slice n1 n2 n3,.slice p1 p2 p3,.slice q1 q2 q3]
 have kz5:=kz4.alloc (.cells #[.string ⟨mm.toArray⟩,.int .i64 mq,.int .i64 mx,.slice m1 m2 m3,.slice n1 n2 n3,.slice p1 p2 p3,.slice q1 q2 q3] 27)
 have ks5:=ks4.alloc (.cells #[.string ⟨mm.toArray⟩,.int .i64 mq,.int .i64 mx,.slice m1 m2 m3,.slice n1 n2 n3,.slice p1 p2 p3,.slice q1 q2 q3] 27)
 have hbw5:=hbw4.alloc (by omega) (.cells #[.string ⟨mm.toArray⟩,.int .i64 mq,.int .i64 mx,.slice m1 m2 m3,.slice n1 n2 n3,.slice p1 p2 p3,.slice q1 q2 q3] 27)
 have hso5:=hso4.below ((Below.refl w4.heap.size w4).alloc (Nat.le_refl _) (.cells #[.string ⟨mm.toArray⟩,.int .i64 mq,.int .i64 mx,.slice m1 m2 m3,.slice n1 n2 n3,.slice p1 p2 p3,.slice q1 q2 q3] 27))
 have hsz5:(w4.alloc (.cells #[.string ⟨mm.toArray⟩,.int .i64 mq,.int .i64 mx,.slice m1 m2 m3,.slice n1 n2 n3,.slice p1 p2 p3,.slice q1 q2 q3] 27)).heap.size=w4.heap.size+1:=by simp
 have hset:∀ g,(FS.val (⟨m1,m2,m3,ml⟩:FS SetR)).ownBlock=some g→w.heap.size+3≤g∧g<w4.heap.size:=fun g e=>by
  have:=ho4.sets.2.lt _ e
  omega
 have HSET:=Lib.hid hset
 have HSZ4:=Lib.hid (show w.heap.size+3≤w4.heap.size by omega)
 obtain ⟨g5,hg5⟩:∃ g,g=w4.heap.size:=⟨_,rfl⟩
 go_wp2_with (refine wpList_store_new w4 rfl 27 (.tmp 5) (.tmp 9) rfl 27 [.string ⟨#[]⟩,.int .i64 0,.int .i64 0,.slice none 0 0,.slice none 0 0,.slice none 0 0,.slice none 0 0] [.string ⟨mm.toArray⟩,.int .i64 mq,.int .i64 mx,.slice m1 m2 m3,.slice n1 n2 n3,.slice p1 p2 p3,.slice q1 q2 q3] rfl rfl rfl (by kernel_rfl) (by simp [Value.oneCell']) ?_;obtain ⟨W5,hW5⟩:∃ W,W=w4.alloc (.cells #[.string ⟨mm.toArray⟩,.int .i64 mq,.int .i64 mx,.slice m1 m2 m3,.slice n1 n2 n3,.slice p1 p2 p3,.slice q1 q2 q3] 27):=⟨_,rfl⟩;rw [show ([.string ⟨mm.toArray⟩,.int .i64 mq,.int .i64 mx,.slice m1 m2 m3,.slice n1 n2 n3,.slice p1 p2 p3,.slice q1 q2 q3]:List Value).toArray=#[.string ⟨mm.toArray⟩,.int .i64 mq,.int .i64 mx,.slice m1 m2 m3,.slice n1 n2 n3,.slice p1 p2 p3,.slice q1 q2 q3] from rfl,← hW5];rw [← hW5] at ho5 k5 kz5 ks5 hbw5 hso5 hsz5;have HO5:=Lib.hid ho5;have K5:=Lib.hid k5;have KZ5:=Lib.hid kz5;have KS5:=Lib.hid ks5;have HB5:=Lib.hid hbw5;have HSO5:=Lib.hid hso5;have HSZ5:=Lib.hid hsz5;have HG5:=Lib.hid hg5;have d3:=k5.cell 3;have e0:=ks5.cell 0;simp only [zF,zD,zE] at d3 e0;rw [← hg5] at d3 ⊢;have hcS:=Lib.hid (searchSets_any ml pa HYA.out m2 ho5.sets.1 m1 m3 W5 W5.heap.size ho5.rd.sets.2.2 (Nat.le_refl _) (by have h:=hY2;simp only at h;omega));clear hW5 hb4 ho4 ho5 k5 kz5 ks5 hbw5 hso5 hsz5 kz4 ks4 hbw4 hso4 hset HSO3 KZ3 KS3 HB3 hg5)
 refine hcS.out.mono ?_
 clear hcS
 rintro e w6 ⟨rfl,hb6⟩
 obtain ⟨i,hi⟩:∃ i,i=posF (fun s:SetR=>cmpS s.path pa) ml:=⟨_,rfl⟩
 rw [← hi]
 have hil:i≤m2:=by have h:=HO5.out.sets.1;simp only at h;rw [hi];have:=posF_le (fun s:SetR=>cmpS s.path pa) ml;omega
 have HI:=Lib.hid hi
 have HIL:=Lib.hid hil
 have hsz5:=HSZ5.out
 have hsz6:=hb6.size
 have HSZ6:=Lib.hid (show w.heap.size+3≤w6.heap.size∧g5<w6.heap.size by have:=HG5.out;omega)
 have ho6:=HO5.out.below hb6
 have k6:=K5.out.below hb6 K5.out.lt
 have kz6:=KZ5.out.below hb6 KZ5.out.lt
 have ks6:=KS5.out.below hb6 KS5.out.lt
 have hbw6:=HB5.out.trans (hb6.mono (by omega))
 have hso6:=HSO5.out.below hb6
 have ho7:=ho6.below ((Below.refl w6.heap.size w6).alloc (Nat.le_refl _) (.cells #[.string ⟨pa.toArray⟩,.string ⟨og.toArray⟩,.slice bA bn bc,.slice zA zn zc,.slice oA on oc] 42))
 have kn7:=Blk.new w6 42 #[.string ⟨pa.toArray⟩,.string ⟨og.toArray⟩,.slice bA bn bc,.slice zA zn zc,.slice oA on oc]
 have k7:=k6.alloc (.cells #[.string ⟨pa.toArray⟩,.string ⟨og.toArray⟩,.slice bA bn bc,.slice zA zn zc,.slice oA on oc] 42)
 have kz7:=kz6.alloc (.cells #[.string ⟨pa.toArray⟩,.string ⟨og.toArray⟩,.slice bA bn bc,.slice zA zn zc,.slice oA on oc] 42)
 have hbw7:=hbw6.alloc (by omega) (.cells #[.string ⟨pa.toArray⟩,.string ⟨og.toArray⟩,.slice bA bn bc,.slice zA zn zc,.slice oA on oc] 42)
 have hso7:=hso6.below ((Below.refl w6.heap.size w6).alloc (Nat.le_refl _) (.cells #[.string ⟨pa.toArray⟩,.string ⟨og.toArray⟩,.slice bA bn bc,.slice zA zn zc,.slice oA on oc] 42))
 have hsz7:(w6.alloc (.cells #[.string ⟨pa.toArray⟩,.string ⟨og.toArray⟩,.slice bA bn bc,.slice zA zn zc,.slice oA on oc] 42)).heap.size=w6.heap.size+1:=by simp
 have d3:=k6.cell 3
 obtain ⟨e0,e1,e2,e3,e4⟩:=(⟨ks6.cell 0,ks6.cell 1,ks6.cell 2,ks6.cell 3,ks6.cell 4⟩:_∧_∧_∧_∧_)
 simp only [zF,zD,zE] at e0 e1 e2 e3 e4
 simp only [zF,zD,zE] at d3
 rw [← HG5.out] at d3
 have hbs:=HBS.out
 have hsz3:=HSZ3.out
 have hcI:Hid (Calls Tryz.prog 121 #[.slice m1 m2 m3,.int .i64 (i:Int),.slice (some ⟨w6.heap.size,0,none⟩) 1 1] (w6.alloc (.cells #[.string ⟨pa.toArray⟩,.string ⟨og.toArray⟩,.slice bA bn bc,.slice zA zn zc,.slice oA on oc] 42)) fun e w' =>
    ∃ v,e=.returned v∧w'.ownsRow base 42 5 v (m2+1) ((cellsK encSet ml).take (i*5)++(encSet ⟨pa,og,⟨bA,bn,bc,bl⟩,⟨zA,zn,zc,zl⟩,⟨oA,on,oc,ol⟩⟩)++(cellsK encSet ml).drop (i*5))∧(w6.alloc (.cells #[.string ⟨pa.toArray⟩,.string ⟨og.toArray⟩,.slice bA bn bc,.slice zA zn zc,.slice oA on oc] 42)).grownBy w' (Value.slice m1 m2 m3).ownBlock) :=
  insSet_any (news:=#[.string ⟨pa.toArray⟩,.string ⟨og.toArray⟩,.slice bA bn bc,.slice zA zn zc,.slice oA on oc]) rfl (by simp [Value.oneCell']) (cellsK encSet ml) (cells_one encSet_one ml) w6.heap.size 42 base m2 i m1 m3 _ hil (own_mono ho7.sets.2 (by omega)) (by omega) (by have h:=hY2;omega) kn7 (fun e=>by have:=(ho6.sets.2.lt _ e).2;omega)
 clear hb6 hbs hsz3 hi hil hsz5 hsz6 HO5 K5 KZ5 KS5 HB5 HSO5 HSZ5 HYA ho6 k6 kz6 ks6 hbw6 hso6
 obtain ⟨W7,hW7⟩:∃ W,W=w6.alloc (.cells #[.string ⟨pa.toArray⟩,.string ⟨og.toArray⟩,.slice bA bn bc,.slice zA zn zc,.slice oA on oc] 42):=⟨_,rfl⟩
 rw [← hW7] at ho7 k7 kz7 hbw7 hso7 hsz7 hcI kn7
 have HO7:=Lib.hid ho7
 have K7:=Lib.hid k7
 have KZ7:=Lib.hid kz7
 have HB7:=Lib.hid hbw7
 have HSO7:=Lib.hid hso7
 have HSZ7:=Lib.hid hsz7
 clear ho7 k7 kz7 hbw7 hso7 hsz7 kn7
 go_wp2_with fail
 rw [← hW7]
 clear hW7
 refine hcI.out.mono ?_
 clear hcI
 rintro e w8 ⟨v,rfl,hv8,hg8⟩
 obtain ⟨v1,v3,rfl,_⟩:=own_form hv8
 obtain ⟨W9,hW9⟩:∃ W,W=w8.setCell ⟨g5,3,none⟩ (.slice v1 (m2+1) v3):=⟨_,rfl⟩
 have hne5:some g5≠(Value.slice m1 m2 m3).ownBlock:=fun e=>by have:=(HSET.out g5 e.symm).2;have:=HG5.out;omega
 have hneZ:some (w.heap.size+2)≠(Value.slice m1 m2 m3).ownBlock:=fun e=>by have:=(HSET.out _ e.symm).1;omega
 have k8:Blk w8 g5 27 #[.string ⟨mm.toArray⟩,.int .i64 mq,.int .i64 mx,.slice m1 m2 m3,.slice n1 n2 n3,.slice p1 p2 p3,.slice q1 q2 q3]:=by have:=K7.out;rw [← HG5.out] at this;exact this.grown hg8 hne5
 have kz8:=KZ7.out.grown hg8 hneZ
 have hb8:Below w.heap.size w w8:=HB7.out.grown hg8 (by have:=HSZ7.out;have:=HSZ6.out;omega) (fun k hk=>by have:=(HSET.out k hk).1;omega)
 have hsz8:=hg8.size
 have hY:Hid (∃ y:TenR,y.val=.agg #[.string ⟨mm.toArray⟩,.int .i64 mq,.int .i64 mx,.slice v1 (m2+1) v3,.slice n1 n2 n3,.slice p1 p2 p3,.slice q1 q2 q3]∧TenO w8 base y∧y.con=TenC.withS (TenR.con ⟨nm,qu,nx,⟨s1,sn,s3,sl⟩,⟨u1,un,u3,ul⟩,⟨t1,tn,t3,tl⟩,⟨l1,ln,l3,ll⟩⟩) (SetR.con ⟨pa,og,⟨bA,bn,bc,bl⟩,⟨zA,zn,zc,zl⟩,⟨oA,on,oc,ol⟩⟩)):=by
  have hms:m2=ml.length:=HO7.out.sets.1
  have hrow:cellsK encSet (ml.take i++[⟨pa,og,⟨bA,bn,bc,bl⟩,⟨zA,zn,zc,zl⟩,⟨oA,on,oc,ol⟩⟩]++ml.drop i)=(cellsK encSet ml).take (i*5)++(encSet ⟨pa,og,⟨bA,bn,bc,bl⟩,⟨zA,zn,zc,zl⟩,⟨oA,on,oc,ol⟩⟩)++(cellsK encSet ml).drop (i*5):=by
   rw [cellsK_append,cellsK_append,cellsK_take (enc:=encSet) (k:=5) (fun _=>rfl),cellsK_drop (enc:=encSet) (k:=5) (fun _=>rfl),cellsK_one]
  have hlen:(ml.take i++[(⟨pa,og,⟨bA,bn,bc,bl⟩,⟨zA,zn,zc,zl⟩,⟨oA,on,oc,ol⟩⟩:SetR)]++ml.drop i).length=m2+1:=by
   have:=HIL.out
   simp only [List.length_append,List.length_take,List.length_drop,List.length_cons,List.length_nil]
   omega
  have hk:∀ z:SetR,SetO W7 base z→SetO w8 base z:=fun z hz=>by
   cases he:(Value.slice m1 m2 m3).ownBlock with
   | none=>rw [he] at hg8;exact hz.below ⟨hg8.os,hg8.tape,hg8.output,hg8.size,fun k hk=>hg8.block k hk (by simp)⟩
   | some g =>
    rw [he] at hg8
    obtain ⟨h1,h2⟩:=HSET.out g he
    rcases HO7.out.sets.2.2 with ⟨e,_⟩ | ⟨g',cap,cur,e,_,hh,_⟩
    ·rw [show (Value.slice m1 m2 m3)=.slice none 0 0 from e] at he;simp [Value.ownBlock] at he
    ·rw [show (Value.slice m1 m2 m3)=.slice (some ⟨g',0,none⟩) m2 cap from e] at he
     have he:g'=g:=by simpa [Value.ownBlock] using he
     subst he
     exact hz.keptS hg8 (show Blk W7 g' 42 cur from hh)
  refine ⟨⟨mm,mq,mx,⟨v1,m2+1,v3,ml.take i++[⟨pa,og,⟨bA,bn,bc,bl⟩,⟨zA,zn,zc,zl⟩,⟨oA,on,oc,ol⟩⟩]++ml.drop i⟩,⟨n1,n2,n3,nl⟩,⟨p1,p2,p3,pl⟩,⟨q1,q2,q3,ql⟩⟩,rfl,?_,?_⟩
  ·refine TenO.setsO (HO7.out.mono (base':=base) (by have:=HBS.out;have:=HSZ3.out;omega)) ⟨v1,m2+1,v3,ml.take i++[⟨pa,og,⟨bA,bn,bc,bl⟩,⟨zA,zn,zc,zl⟩,⟨oA,on,oc,ol⟩⟩]++ml.drop i⟩ hg8 ⟨hlen.symm,?_⟩ ?_
   ·show World.ownsRow _ _ _ _ _ _ (cellsK encSet (ml.take i++[⟨pa,og,⟨bA,bn,bc,bl⟩,⟨zA,zn,zc,zl⟩,⟨oA,on,oc,ol⟩⟩]++ml.drop i))
    rw [hrow]
    exact hv8
   ·intro z hz
    simp only [List.mem_append,List.mem_cons,List.not_mem_nil,or_false] at hz
    rcases hz with (hz | rfl) | hz
    ·exact hk z ((HO7.out.eachS z (List.mem_of_mem_take hz)).mono (by have:=HBS.out;have:=HSZ3.out;omega))
    ·exact hk _ HSO7.out
    ·exact hk z ((HO7.out.eachS z (List.mem_of_mem_drop hz)).mono (by have:=HBS.out;have:=HSZ3.out;omega))
  ·rw [HCON.out,HI.out]
   exact con_withS ⟨mm,mq,mx,⟨m1,m2,m3,ml⟩,⟨n1,n2,n3,nl⟩,⟨p1,p2,p3,pl⟩,⟨q1,q2,q3,ql⟩⟩ ⟨pa,og,⟨bA,bn,bc,bl⟩,⟨zA,zn,zc,zl⟩,⟨oA,on,oc,ol⟩⟩ v1 (m2+1) v3
 obtain ⟨y,hyv,hyo,hyc⟩:=hY.out
 have hb9:=hb8.setCell (p:=⟨g5,3,none⟩) (by have:=HSZ6.out;have:=HG5.out;have:=HSZ4.out;simp only;omega) (.slice v1 (m2+1) v3)
 have k9:=k8.set_ 3 (.slice v1 (m2+1) v3)
 have kz9:=kz8.far (p:=⟨g5,3,none⟩) (by have:=HG5.out;have:=HSZ4.out;simp only;omega) (.slice v1 (m2+1) v3)
 have hyo9:=hyo.keptT (grown_box w8 g5 3 (.slice v1 (m2+1) v3)) k8 offT_ten
 simp only [List.setIfInBounds_toArray,zC,zB] at k9
 obtain ⟨W9,hW9⟩:∃ W,W=w8.setCell ⟨g5,3,none⟩ (.slice v1 (m2+1) v3):=⟨_,rfl⟩
 rw [← hW9] at hb9 k9 kz9 hyo9
 have HB9:=Lib.hid hb9
 have KZ9:=Lib.hid kz9
 have HYO9:=Lib.hid hyo9
 have HYV:=Lib.hid hyv
 have HYC:=Lib.hid hyc
 obtain ⟨d0,d1,d2,d3,d4,d5,d6⟩:=(⟨k9.cell 0,k9.cell 1,k9.cell 2,k9.cell 3,k9.cell 4,k9.cell 5,k9.cell 6⟩:_∧_∧_∧_∧_∧_∧_)
 simp only [zF,zD,zE] at d0 d1 d2 d3 d4 d5 d6
 have hth8:=k8.cell 3
 have hfz8:=k8.frozen 3
 simp only [zF,zD,zE] at hth8
 clear hb8 k8 kz8 hv8 hg8 hY hyo hyc hyv hb9 kz9 hyo9 hne5 hneZ hsz8 K7 KZ7 HB7 HSO7 HO7 HSET k9
 go_upto_region 4 with (fail)
 rw [← hW9]
 clear hW9 hth8 hfz8
 obtain ⟨WR,hW4,hth,HL,HBW,hgw⟩:=res7 (g:=(w.heap.size+2)) [.string ⟨mm.toArray⟩,.int .i64 mq,.int .i64 mx,.slice v1 (m2+1) v3,.slice n1 n2 n3,.slice p1 p2 p3,.slice q1 q2 q3] KZ9.out HB9.out (by omega)
 have HOO:=Lib.hid (TenO.keptT HYO9.out hgw KZ9.out offT_ten)
 clear hgw
 go_wp2_with (refine wpList_store_mid rfl 27 (.tmp 4) (.tmp 25) rfl ((w.heap.size+2)) 0 #[.string ⟨mm.toArray⟩,.int .i64 mq,.int .i64 mx,.slice v1 (m2+1) v3,.slice n1 n2 n3,.slice p1 p2 p3,.slice q1 q2 q3] rfl rfl hth.out (by kernel_rfl) (by simp [Value.oneCell']) ?_;rw [← hW4];clear hW4)
 exact bodyPost_ret (v:=.agg #[.string ⟨mm.toArray⟩,.int .i64 mq,.int .i64 mx,.slice v1 (m2+1) v3,.slice n1 n2 n3,.slice p1 p2 p3,.slice q1 q2 q3]) (results_cell rfl rfl HL.out) rfl ⟨y,by rw [HYV.out],HOO.out,HYC.out,HBW.out⟩
end Go.Proofs.YtpbejobgickffaaGreatDoor
namespace Go.Proofs.YtpbejobgickffaaGreatDoor
open Go.RowKit
def new0C (q:Int):TenC:=⟨[116],q,1,[set0C []],[],[],[]⟩
set_option maxRecDepth 100000 in
set_option maxHeartbeats 2000000 in
theorem rnew_any (q:Int) (h0:0<q) (h1:q≤1099511627776) (w:World) :
  Calls Tryz.prog 44 #[.string ⟨#[116]⟩,.int .i64 q] w fun e w'=>∃ y:TenR,e=.returned (.tuple #[y.val,.int .i64 0])∧TenO w' w.heap.size y∧y.con=new0C q∧Below w.heap.size w w':=by
 have hb:=((Below.refl w.heap.size w).alloc (Nat.le_refl _) (.cells #[.string ⟨#[]⟩,.int .i64 0,.int .i64 0,.slice none 0 0,.slice none 0 0,.slice none 0 0,.slice none 0 0] 27))
 have kz:=Blk.new w 27 #[.string ⟨#[]⟩,.int .i64 0,.int .i64 0,.slice none 0 0,.slice none 0 0,.slice none 0 0,.slice none 0 0]
 have hsz:(w.alloc (.cells #[.string ⟨#[]⟩,.int .i64 0,.int .i64 0,.slice none 0 0,.slice none 0 0,.slice none 0 0,.slice none 0 0] 27)).heap.size=w.heap.size+1:=by simp
 obtain ⟨W1,hW1⟩:∃ W,W=(w.alloc (.cells #[.string ⟨#[]⟩,.int .i64 0,.int .i64 0,.slice none 0 0,.slice none 0 0,.slice none 0 0,.slice none 0 0] 27)):=⟨_,rfl⟩
 rw [← hW1] at hb hsz kz
 have hKz:Hid (∀ W,Below W1.heap.size W1 W→Blk W w.heap.size 27 #[.string ⟨#[]⟩,.int .i64 0,.int .i64 0,.slice none 0 0,.slice none 0 0,.slice none 0 0,.slice none 0 0]):=fun W h=>kz.below h (by omega)
 have hBW:Hid (∀ W,Below W1.heap.size W1 W→Below w.heap.size w W):=fun W h=>hb.trans (h.mono (by omega))
 have hSZ:Hid (∀ W,Below W1.heap.size W1 W→w.heap.size+1≤W.heap.size):=fun W h=>by have:=h.size;omega
 have hW0:Hid (Below W1.heap.size W1 W1):=Below.refl _ _
 have hNM:Hid (∀ W,Below W1.heap.size W1 W→Calls Tryz.prog 87 #[.string ⟨#[116]⟩] W fun e w'=>e=.returned (.bool true)∧Below W.heap.size W w'):=fun W _=>by
  have h:=refNameB_any [116] W (by decide)
  rw [show nameB [116]=true by decide +kernel] at h
  exact h
 have hAM:Hid (∀ W,Below W1.heap.size W1 W→Calls Tryz.prog 88 #[.int .i64 q,.int .i64 0] W fun e w'=>e=.returned (.bool true)∧Below W.heap.size W w'):=fun W _=>by
  have h:=refAmountB_any q 0 W
  rw [show amt q 0=true by unfold amt;simp;omega] at h
  exact h
 have hq0:¬ q=0:=by omega
 clear hb hsz kz
 go_enter Tryz.func44,Tryz.ntmps44
 have hc:=hNM.out  W1 hW0.out
 go_wp2_with fail
 rw [← hW1]
 clear hW1
 refine hc.mono ?_
 clear hc 
 rintro e w2 ⟨rfl,hb⟩
 have HW2:=Lib.hid (hW0.out.trans (hb.mono hW0.out.size))
 clear hb
 have hc:=hAM.out  w2 HW2.out
 go_wp2_with fail
 refine hc.mono ?_
 clear hc 
 rintro e w3 ⟨rfl,hb⟩
 have HW3:=Lib.hid (HW2.out.trans (hb.mono HW2.out.size))
 clear hb
 have kz:=(hKz.out w3 HW3.out).alloc (.cells #[.string ⟨#[]⟩,.string ⟨#[]⟩,.slice none 0 0,.slice none 0 0,.slice none 0 0] 42)
 have kr:=Blk.new w3 42 #[.string ⟨#[]⟩,.string ⟨#[]⟩,.slice none 0 0,.slice none 0 0,.slice none 0 0]
 have hb:=(hBW.out w3 HW3.out).alloc (by have:=hSZ.out w3 HW3.out;omega) (.cells #[.string ⟨#[]⟩,.string ⟨#[]⟩,.slice none 0 0,.slice none 0 0,.slice none 0 0] 42)
 have hszr:(w3.alloc (.cells #[.string ⟨#[]⟩,.string ⟨#[]⟩,.slice none 0 0,.slice none 0 0,.slice none 0 0] 42)).heap.size=w3.heap.size+1:=by simp
 obtain ⟨W4,hW4'⟩:∃ W,W=w3.alloc (.cells #[.string ⟨#[]⟩,.string ⟨#[]⟩,.slice none 0 0,.slice none 0 0,.slice none 0 0] 42):=⟨_,rfl⟩
 rw [← hW4'] at kz kr hb hszr
 have KZ:=Lib.hid kz
 have HB:=Lib.hid hb
 have HSZ3:=Lib.hid (show w.heap.size+1≤w3.heap.size∧W4.heap.size=w3.heap.size+1 by have:=hSZ.out w3 HW3.out;omega)
 have HO:Hid (TenO W4 w.heap.size ⟨[116],q,1,⟨some ⟨w3.heap.size,0,none⟩,1,1,[⟨[],[],⟨none,0,0,[]⟩,⟨none,0,0,[]⟩,⟨none,0,0,[]⟩⟩]⟩,⟨none,0,0,[]⟩,⟨none,0,0,[]⟩,⟨none,0,0,[]⟩⟩):=by
  show TenO _ _ _
  refine ⟨⟨rfl,own_of_row (cap:=1) (cur:=[.string ⟨#[]⟩,.string ⟨#[]⟩,.slice none 0 0,.slice none 0 0,.slice none 0 0]) kr (by have:=HSZ3.out;omega) (Nat.le_refl _) (by decide) rfl rfl⟩,fun y hy=>?_,⟨rfl,rfl,.inl ⟨rfl,rfl⟩⟩,⟨rfl,rfl,.inl ⟨rfl,rfl⟩⟩,fun y hy=>absurd hy (by simp),⟨rfl,rfl,.inl ⟨rfl,rfl⟩⟩⟩
  rw [List.mem_singleton] at hy
  subst hy
  exact ⟨⟨rfl,rfl,.inl ⟨rfl,rfl⟩⟩,⟨rfl,rfl,.inl ⟨rfl,rfl⟩⟩,fun y hy=>absurd hy (by simp),⟨rfl,rfl,.inl ⟨rfl,rfl⟩⟩⟩
 clear kz kr hb hszr
 go_upto_region 7 with (fail)
 obtain ⟨WR,hW4,hth,HL,HBW,hgw⟩:=res7 (g:=w.heap.size) [.string ⟨#[116]⟩,.int .i64 q,.int .i64 1,.slice (some ⟨w3.heap.size,0,none⟩) 1 1,.slice none 0 0,.slice none 0 0,.slice none 0 0] KZ.out HB.out (by omega)
 have HOO:=Lib.hid (TenO.keptT HO.out hgw KZ.out offT_ten)
 clear hgw
 go_wp2_with ((try rw [← hW4']);refine wpList_store_mid rfl 27 (.tmp 4) (.tmp 24) rfl (w.heap.size) 0 #[.string ⟨#[116]⟩,.int .i64 q,.int .i64 1,.slice (some ⟨w3.heap.size,0,none⟩) 1 1,.slice none 0 0,.slice none 0 0,.slice none 0 0] rfl rfl hth.out (by kernel_rfl) (by simp [Value.oneCell']) ?_;rw [← hW4];clear hW4)
 exact bodyPost_ret (v:=.tuple #[.agg #[.string ⟨#[116]⟩,.int .i64 q,.int .i64 1,.slice (some ⟨w3.heap.size,0,none⟩) 1 1,.slice none 0 0,.slice none 0 0,.slice none 0 0],.int .i64 0]) (results_cell_tmp rfl rfl HL.out) rfl ⟨⟨[116],q,1,⟨some ⟨w3.heap.size,0,none⟩,1,1,[⟨[],[],⟨none,0,0,[]⟩,⟨none,0,0,[]⟩,⟨none,0,0,[]⟩⟩]⟩,⟨none,0,0,[]⟩,⟨none,0,0,[]⟩,⟨none,0,0,[]⟩⟩,rfl,HOO.out,rfl,HBW.out⟩
end Go.Proofs.YtpbejobgickffaaGreatDoor
namespace Go.Proofs.YtpbejobgickffaaGreatDoor
open Go.RowKit
def ten0C:TenC:=⟨[],0,0,[],[],[],[]⟩
def ten0R:TenR:=⟨[],0,0,⟨none,0,0,[]⟩,⟨none,0,0,[]⟩,⟨none,0,0,[]⟩,⟨none,0,0,[]⟩⟩
theorem rd_nil {α:Type} {w:World} {B k:Nat} {enc:α→List Value}:FS.rd w B k enc ⟨none,0,0,[]⟩:=⟨rfl,Nat.le_refl _,Reads.none_⟩
/-- the content of what is told: an error's is the zero one -/
def tenOr (r:Int×TenC):TenC:=if r.1=0 then r.2 else ten0C
theorem TenPost.all {w w':World} {c:Int×TenC} {e:Ending} (h:TenPost w c e w'):∃ y:TenR,e=.returned (.tuple #[y.val,.int .i64 c.1])∧Below w.heap.size w w'∧y.rd w' w'.heap.size∧y.con=tenOr c:=by
 obtain ⟨v,rfl,hb,h⟩:=h
 unfold tenOr
 rcases h with ⟨h1,rfl⟩ | ⟨h1,y,rfl,h2,h3⟩
 ·exact ⟨ten0R,rfl,hb,⟨rd_nil,fun y hy=>(by cases hy),rd_nil,rd_nil,fun y hy=>(by cases hy),rd_nil⟩,by rw [if_neg h1];rfl⟩
 ·exact ⟨y,rfl,hb,h2.rd,by rw [if_pos h1];exact h3⟩
end Go.Proofs.YtpbejobgickffaaGreatDoor
namespace Go.Proofs.YtpbejobgickffaaGreatDoor
open Go.RowKit
theorem check_said {y:TenR} {c:TenC} {W:World} (hr:y.rd W W.heap.size) (hc:y.con=c) (hs:c.sz) (hE:c.E=0):Calls Tryz.prog 36 #[y.val] W fun e w'=>e=.returned (.int .i64 0)∧Below W.heap.size W w':=by
 have h1:=rcheck14_any y W W.heap.size hr (Nat.le_refl _) (TenR.sz_of hr (by rw [hc];exact hs))
 rw [tenE_con,hc,hE] at h1
 exact h1
end Go.Proofs.YtpbejobgickffaaGreatDoor
namespace Go.Proofs.YtpbejobgickffaaGreatDoor
open Go.RowKit
theorem new0C_sz (q:Int):(new0C q).sz where
 nm:=by show (1:Nat)≤4000000000;decide
 sets:=by show (1:Nat)≤1000000000000;decide
 eachS:=by
  intro y hy
  rw [show (new0C q).sets=[set0C []] from rfl,List.mem_singleton] at hy
  subst hy
  exact set0C_sz [] (by decide)
 grants:=by show (0:Nat)≤1000000000000;decide
 eachG:=fun y hy=>by cases hy
 stages:=by show (0:Nat)≤1000000000000;decide
 eachT:=fun y hy=>by cases hy
 log:=by show (0:Nat)≤1000000000000;decide
 eachL:=fun y hy=>by cases hy
end Go.Proofs.YtpbejobgickffaaGreatDoor
namespace Go.Proofs.YtpbejobgickffaaGreatDoor
open Go.RowKit
def TenC.clones (c:TenC) (p q:BS):Nat:=(c.sets.filter fun s=>clP p q s.org).length
theorem clones_con (t:TenR) (p q:BS):(clonesL t.sets.l p q).length=t.con.clones p q:=by
 unfold clonesL TenC.clones
 rw [List.length_map]
 show _=((t.sets.l.map SetR.con).filter _).length
 rw [List.filter_map,List.length_map]
 rfl
end Go.Proofs.YtpbejobgickffaaGreatDoor
namespace Go.Proofs.YtpbejobgickffaaGreatDoor
open Go.RowKit
theorem TenC.E_sets (c:TenC) (h:c.E=0):c.sets.length≤32∧(c.sets.any fun x=>x.path == [])=true∧(∀ s∈c.sets,setB (c.sets.map SetC.r) s.r=true)∧c.sets.Pairwise fun a b=>Op.bytesLess a.path b.path=true:=by
 unfold TenC.E tenE at h
 have hb:tenB c.r=true:=by
  by_cases hb:tenB c.r=true
  ·exact hb
  ·rw [if_neg hb] at h;exact absurd h (by decide)
 unfold tenB at hb
 simp only [Bool.and_eq_true] at hb
 have hS:setsB (c.sets.map SetC.r)=true:=hb.1.1.1.2
 unfold setsB at hS
 simp only [Bool.and_eq_true,decide_eq_true_eq,List.length_map,List.any_map] at hS
 obtain ⟨⟨h1,h2⟩,h3⟩:=hS
 obtain ⟨h4,h5,-⟩:=(setsFrom_iff _ _ _).1 h3
 exact ⟨h1,h2,fun s hs=>h4 _ (List.mem_map_of_mem hs),List.pairwise_map.1 h5⟩
end Go.Proofs.YtpbejobgickffaaGreatDoor
namespace Go.Proofs.YtpbejobgickffaaGreatDoor
open Go.RowKit
structure SetOk (l:List SetC) (s:SetC):Prop where
 path:pathB s.path=true
 par:∀ u,parB s.path=some u→∃ x∈l,x.path=u
 own:propsB s.own=true
 body:okL s.body=true
 snaps:snapsB (s.snaps.map SnapC.r)=true
 org:s.org=[]∨∃ a b,splitL s.org=some (a,b)∧a≠s.path∧∃ x,l.find? (fun x=>x.path == a)=some x∧∃ y∈x.snaps,y.nm=b
theorem setB_iff (l:List SetC) (s:SetC):setB (l.map SetC.r) s.r=true↔SetOk l s:=by
 have hpar:(match parB s.path with | none=>true | some u=>(l.map SetC.r).any fun x=>x.path == u)=true↔∀ u,parB s.path=some u→∃ x∈l,x.path=u:=by
  cases hp:parB s.path with
  | none=>exact ⟨fun _ u h=>by (cases h),fun _=>rfl⟩
  | some u =>
   simp only [List.any_map]
   constructor
   ·intro h v hv
    cases hv
    obtain ⟨x,hx,e⟩:=List.any_eq_true.1 h
    exact ⟨x,hx,by simpa [SetC.r] using e⟩
   ·intro h
    obtain ⟨x,hx,e⟩:=h u rfl
    exact List.any_eq_true.2 ⟨x,hx,by simpa [SetC.r] using e⟩
 have horg:originB (l.map SetC.r) s.r=true↔(s.org=[]∨∃ a b,splitL s.org=some (a,b)∧a≠s.path∧∃ x,l.find? (fun x=>x.path == a)=some x∧∃ y∈x.snaps,y.nm=b):=by
  unfold originB
  show (s.org == [] || match splitL s.org with
   | none=>false
   | some (p,n)=>!(p == s.path) && match (l.map SetC.r).find? (fun x=>x.path == p) with
    | none=>false
    | some x=>x.snaps.l.any fun y=>y.nm == n)=true↔_
  rw [Bool.or_eq_true]
  refine or_congr (by simp) ?_
  cases hsp:splitL s.org with
  | none=>simp
  | some v =>
   obtain ⟨a,b⟩:=v
   simp only [Bool.and_eq_true,find_map]
   have e:(l.find? fun x:SetC=>(SetC.r x).path == a)=l.find? fun x=>x.path == a:=rfl
   rw [e]
   constructor
   ·rintro ⟨h1,h2⟩
    refine ⟨a,b,rfl,by simpa using h1,?_⟩
    cases hf:l.find? (fun x=>x.path == a) with
    | none=>rw [hf] at h2;cases h2
    | some x =>
     rw [hf] at h2
     simp only [Option.map_some] at h2
     have h2:((x.snaps.map SnapC.r).any fun y=>y.nm == b)=true:=h2
     rw [List.any_map] at h2
     obtain ⟨y,hy,ey⟩:=List.any_eq_true.1 h2
     exact ⟨x,rfl,y,hy,by simpa [SnapC.r] using ey⟩
   ·rintro ⟨a',b',h0,h1,x,hf,y,hy,ey⟩
    cases h0
    refine ⟨by simpa using h1,?_⟩
    rw [hf]
    show ((x.snaps.map SnapC.r).any fun y=>y.nm == b)=true
    rw [List.any_map]
    exact List.any_eq_true.2 ⟨y,hy,by simpa [SnapC.r] using ey⟩
 unfold setB
 rw [Bool.and_eq_true,Bool.and_eq_true,Bool.and_eq_true,Bool.and_eq_true,Bool.and_eq_true,horg]
 constructor
 ·rintro ⟨⟨⟨⟨⟨h1,h2⟩,h3⟩,h4⟩,h5⟩,h6⟩
  exact ⟨h1,hpar.1 h2,h3,h4,h5,h6⟩
 ·rintro ⟨h1,h2,h3,h4,h5,h6⟩
  exact ⟨⟨⟨⟨⟨h1,hpar.2 h2⟩,h3⟩,h4⟩,h5⟩,h6⟩
structure SetsOk (l:List SetC):Prop where
 len:l.length≤32
 root:∃ x∈l,x.path=[]
 each:∀ s∈l,SetOk l s
 asc:l.Pairwise fun a b=>Op.bytesLess a.path b.path=true
theorem setsB_iff (l:List SetC):setsB (l.map SetC.r)=true↔SetsOk l:=by
 unfold setsB
 rw [Bool.and_eq_true,Bool.and_eq_true,setsFrom_iff]
 simp only [decide_eq_true_eq,List.length_map,List.any_map]
 constructor
 ·rintro ⟨⟨h1,h2⟩,h3,h4,-⟩
  obtain ⟨x,hx,e⟩:=List.any_eq_true.1 h2
  exact ⟨h1,⟨x,hx,by simpa [SetC.r] using e⟩,fun s hs=>(setB_iff l s).1 (h3 _ (List.mem_map_of_mem hs)),List.pairwise_map.1 h4⟩
 ·rintro ⟨h1,⟨x,hx,e⟩,h3,h4⟩
  refine ⟨⟨h1,List.any_eq_true.2 ⟨x,hx,by simpa [SetC.r] using e⟩⟩,fun s hs=>?_,List.pairwise_map.2 h4,fun q hq=>by cases hq⟩
  obtain ⟨y,hy,rfl⟩:=List.mem_map.1 hs
  exact (setB_iff l y).2 (h3 y hy)
structure TenC.Ok (c:TenC):Prop where
 nm:nameB c.nm=true
 quota:amt c.quota 0=true
 next:amt c.next 1=true
 sets:SetsOk c.sets
 grants:grantsB c.grants=true
 stages:stagesB (c.stages.map StageC.r)=true
 log:logB c.log=true
theorem TenC.E_ok (c:TenC):c.E=0↔c.Ok:=by
 unfold TenC.E tenE
 constructor
 ·intro h
  have hb:tenB c.r=true:=by
   by_cases hb:tenB c.r=true
   ·exact hb
   ·rw [if_neg hb] at h;exact absurd h (by decide)
  unfold tenB at hb
  rw [Bool.and_eq_true,Bool.and_eq_true,Bool.and_eq_true,Bool.and_eq_true,Bool.and_eq_true,Bool.and_eq_true] at hb
  obtain ⟨⟨⟨⟨⟨⟨h1,h2⟩,h3⟩,h4⟩,h5⟩,h6⟩,h7⟩:=hb
  exact ⟨h1,h2,h3,(setsB_iff _).1 h4,h5,h6,h7⟩
 ·rintro ⟨h1,h2,h3,h4,h5,h6,h7⟩
  rw [if_pos]
  unfold tenB
  rw [Bool.and_eq_true,Bool.and_eq_true,Bool.and_eq_true,Bool.and_eq_true,Bool.and_eq_true,Bool.and_eq_true]
  exact ⟨⟨⟨⟨⟨⟨h1,h2⟩,h3⟩,(setsB_iff _).2 h4⟩,h5⟩,h6⟩,h7⟩
/-- sets in order: each is found by its path -/
theorem find_of_mem {l:List SetC} (h:l.Pairwise fun a b=>Op.bytesLess a.path b.path=true) {x:SetC} (hx:x∈l):l.find? (fun y=>y.path == x.path)=some x:=by
 induction l with
 | nil=>cases hx
 | cons y r ih =>
  obtain ⟨h1,h2⟩:=List.pairwise_cons.1 h
  rcases List.mem_cons.1 hx with rfl | hx
  ·rw [List.find?_cons_of_pos (by simp)]
  ·rw [List.find?_cons_of_neg (by simpa using bl_ne (h1 x hx))]
   exact ih h2 hx
/-! ### a set less -/
theorem mem_at' {α:Type} {a b:List α} {x y:α} (h:y∈a++x :: b):y=x∨y∈a++b:=by
 rcases List.mem_append.1 h with h | h
 ·exact .inr (List.mem_append_left _ h)
 ·rcases List.mem_cons.1 h with h | h
  ·exact .inl h
  ·exact .inr (List.mem_append_right _ h)
/-! ### a set turned -/
end Go.Proofs.YtpbejobgickffaaGreatDoor
namespace Go.Proofs.YtpbejobgickffaaGreatDoor
open Go.RowKit
def ownF (E:List (BS×BS)→Int) (L:List (BS×BS)→List (BS×BS)) (s:SetC):Int×SetC:=(E s.own,⟨s.path,s.org,s.body,s.snaps,L s.own⟩)
def setF (nm tx:BS):SetC→Int×SetC:=ownF (fun l=>setE l nm tx) (fun l=>putP (nm,tx) l)
end Go.Proofs.YtpbejobgickffaaGreatDoor
