/-
  What a function tells that answers by a tenant and an error; sizes by content. snaps.found, snaps.guid: by their contracts. The page's New: the root alone. What is told of tenants, laid side by side: two of one content are the same. The example of chapter 16: the page's New, and a set made. shape.Destroy: a set is gone. What may be, by content: sets one by one; a set more, a set less, a set turned. Snapshots by content: what is asked, found, made, and gone. What is found, as the walks of chapter 17 need it; what is told then. What snapshots, clones and rollbacks that are told are; sizes; the plain law of clones.
-/
import Derived.Test.YtmladblmknbgnaaGreatDoorH0
import Derived.Test.YtmladblmknbgnaaGreatDoorH19
import Derived.Test.YtmladblmknbgnaaGreatDoorH2
import Derived.Test.YtmladblmknbgnaaGreatDoorH3
import Derived.Test.YtmladblmknbgnaaGreatDoorRows
import Derived.Handy
import Derived.Test.YtmladblmknbgnaaGreatDoorH6
import Derived.Test.YtmladblmknbgnaaGreatDoorH4
import Derived.Test.YtmladblmknbgnaaGreatDoorH8
import Derived.Test.YtmladblmknbgnaaGreatDoorH15
import Derived.Test.YtmladblmknbgnaaGreatDoorH9
import Derived.Test.YtmladblmknbgnaaGreatDoorH12
import Derived.Test.YtmladblmknbgnaaGreatDoorH16
import Derived.Test.YtmladblmknbgnaaGreatDoorH17
import Derived.Lib.AppendZeros
import Derived.Test.YtmladblmknbgnaaGreatDoorH18
import Derived.Test.YtmladblmknbgnaaGreatDoorH5
import Derived.Lib.Hide
import Derived.Deep.RegionLaw
namespace Go.Proofs.YtmladblmknbgnaaGreatDoor
open Go.RowKit
/-! ### sizes, by content -/
structure SnapC.sz (x:SnapC):Prop where
 nm:x.nm.length≤4000000000
 body:x.body.length≤1000000000000
 tags:x.tags.length≤1000000000000
 each:∀ t∈x.tags,t.length≤4000000000
 own:x.own.length≤1000000000000
 props:∀ p∈x.own,p.1.length≤4000000000∧p.2.length≤4000000000
structure SetC.sz (x:SetC):Prop where
 path:x.path.length≤4000000000
 org:x.org.length≤4000000000
 body:x.body.length≤1000000000000
 snaps:x.snaps.length≤1000000000000
 each:∀ y∈x.snaps,y.sz
 own:x.own.length≤1000000000000
 props:∀ p∈x.own,p.1.length≤4000000000∧p.2.length≤4000000000
structure StageC.sz (x:StageC):Prop where
 into:x.into.length≤4000000000
 nm:x.nm.length≤4000000000
 dt:x.dt.length≤4000000000
 own:x.own.length≤1000000000000
 props:∀ p∈x.own,p.1.length≤4000000000∧p.2.length≤4000000000
 body:x.body.length≤1000000000000
structure TenC.sz (t:TenC):Prop where
 nm:t.nm.length≤4000000000
 sets:t.sets.length≤1000000000000
 eachS:∀ y∈t.sets,y.sz
 grants:t.grants.length≤1000000000000
 eachG:∀ g∈t.grants,g.1.length≤4000000000∧g.2.1.length≤4000000000
 stages:t.stages.length≤1000000000000
 eachT:∀ y∈t.stages,y.sz
 log:t.log.length≤1000000000000
 eachL:∀ y∈t.log,y.sz
section
variable {w:World} {B:Nat}
theorem SnapR.sz_of {x:SnapR} (h:x.rd w B) (hc:x.con.sz):x.sz:=⟨hc.nm,by rw [h.body.1];exact hc.body,by rw [h.tags.1];exact hc.tags,hc.each,by rw [h.own.1];exact hc.own,hc.props⟩
theorem SnapC.sz_of {x:SnapR} (h:x.rd w B) (hc:x.sz):x.con.sz:=⟨hc.nm,by have:=hc.body;rw [h.body.1] at this;exact this,by have:=hc.tags;rw [h.tags.1] at this;exact this,hc.each,by have:=hc.own;rw [h.own.1] at this;exact this,hc.props⟩
theorem SetR.sz_of {x:SetR} (h:x.rd w B) (hc:x.con.sz):x.sz :=
 ⟨hc.path,hc.org,by rw [h.body.1];exact hc.body,by rw [h.snaps.1];have:=hc.snaps;rwa [show x.con.snaps.length=x.snaps.l.length from List.length_map ..] at this,fun y hy=>SnapR.sz_of (h.each y hy) (hc.each _ (List.mem_map_of_mem hy)),by rw [h.own.1];exact hc.own,hc.props⟩
theorem SetC.sz_of {x:SetR} (h:x.rd w B) (hc:x.sz):x.con.sz:=by
 refine ⟨hc.path,hc.org,by have:=hc.body;rw [h.body.1] at this;exact this,?_,fun y hy=>?_,by have:=hc.own;rw [h.own.1] at this;exact this,hc.props⟩
 ·have:=hc.snaps
  rw [h.snaps.1] at this
  rwa [show x.con.snaps.length=x.snaps.l.length from List.length_map ..]
 ·obtain ⟨z,hz,rfl⟩:=List.mem_map.1 hy
  exact SnapC.sz_of (h.each z hz) (hc.each z hz)
theorem StageR.sz_of {x:StageR} (h:x.rd w B) (hc:x.con.sz):x.sz:=⟨hc.into,hc.nm,hc.dt,by rw [h.own.1];exact hc.own,hc.props,by rw [h.body.1];exact hc.body⟩
theorem StageC.sz_of {x:StageR} (h:x.rd w B) (hc:x.sz):x.con.sz:=⟨hc.into,hc.nm,hc.dt,by have:=hc.own;rw [h.own.1] at this;exact this,hc.props,by have:=hc.body;rw [h.body.1] at this;exact this⟩
theorem TenR.sz_of {t:TenR} (h:t.rd w B) (hc:t.con.sz):t.sz :=
 ⟨hc.nm,by rw [h.sets.1];have:=hc.sets;rwa [show t.con.sets.length=t.sets.l.length from List.length_map ..] at this,fun y hy=>SetR.sz_of (h.eachS y hy) (hc.eachS _ (List.mem_map_of_mem hy)),by rw [h.grants.1];exact hc.grants,hc.eachG,by rw [h.stages.1];have:=hc.stages;rwa [show t.con.stages.length=t.stages.l.length from List.length_map ..] at this,fun y hy=>StageR.sz_of (h.eachG y hy) (hc.eachT _ (List.mem_map_of_mem hy)),by rw [h.log.1];exact hc.log,hc.eachL⟩
theorem TenC.sz_of {t:TenR} (h:t.rd w B) (hc:t.sz):t.con.sz:=by
 refine ⟨hc.nm,?_,fun y hy=>?_,by have:=hc.grants;rw [h.grants.1] at this;exact this,hc.eachG,?_,fun y hy=>?_,by have:=hc.log;rw [h.log.1] at this;exact this,hc.eachL⟩
 ·have:=hc.sets
  rw [h.sets.1] at this
  rwa [show t.con.sets.length=t.sets.l.length from List.length_map ..]
 ·obtain ⟨z,hz,rfl⟩:=List.mem_map.1 hy
  exact SetC.sz_of (h.eachS z hz) (hc.eachS z hz)
 ·have:=hc.stages
  rw [h.stages.1] at this
  rwa [show t.con.stages.length=t.stages.l.length from List.length_map ..]
 ·obtain ⟨z,hz,rfl⟩:=List.mem_map.1 hy
  exact StageC.sz_of (h.eachG z hz) (hc.eachT z hz)
end
theorem TenC.sz.putS {c:TenC} {i:Nat} {s:SetC} (h:c.sz) (hs:s.sz):(c.putS i s).sz:=by
 refine ⟨h.nm,?_,fun y hy=>?_,h.grants,h.eachG,h.stages,h.eachT,h.log,h.eachL⟩
 ·show (c.sets.set i s).length≤_
  rw [List.length_set]
  exact h.sets
 ·rcases List.mem_or_eq_of_mem_set (show y∈c.sets.set i s from hy) with hy | rfl
  ·exact h.eachS y hy
  ·exact hs
def set0C (p:BS):SetC:=⟨p,[],[],[],[]⟩
theorem set0C_sz (p:BS) (hp:p.length≤4000000000):(set0C p).sz:=⟨hp,by simp [set0C],by simp [set0C],by simp [set0C],by simp [set0C],by simp [set0C],by simp [set0C]⟩
/-- a box of results: the cells stored, and loaded again -/
theorem res7 {zs:List Value} (cs:List Value) {W w:World} {g:Nat} (hk:Blk W g 27 zs.toArray) (hb:Below w.heap.size w W) (hg:w.heap.size≤g) (hz:zs.length=7:=by rfl) (hc:cs.length=7:=by rfl) :
  ∃ WR,WR=W.setCells g 0 cs.toArray.toList∧Hid (W.there g 0 7)∧Hid ((loadVar 27 ⟨g,0,none⟩).run Tryz.prog WR=.ok (.agg cs.toArray) WR)∧Hid (Below w.heap.size w WR)∧W.grownBy WR (some g):=by
 have k4:=Blk.setCells (g:=g) cs W [] zs (by rw [hz,hc]) hk
 simp only [List.length_nil,List.nil_append] at k4
 refine ⟨_,rfl,hk.there 7 (by simp [hz]),?_,below_setCells hg cs W 0 hb,grown_cellsS g cs W 0⟩
 exact run_loadVar_at _ ⟨g,0,none⟩ 27 cs _ (fun j v hv=>by rw [addr_add0,k4.cell j,zF];exact hv) Tryz.underlying27 rfl (by rw [hc];kernel_rfl)
/-! ### what is told -/
/-- a tenant and an error: the error's tenant is the zero one; else it lies in memory of its own -/
def TenPost (w:World) (c:Int×TenC) (e:Ending) (w':World):Prop:=∃ v,e=.returned (.tuple #[v,.int .i64 c.1])∧Below w.heap.size w w' ∧
 ((c.1≠0∧v=ZEROT)∨(c.1=0∧∃ y:TenR,v=y.val∧TenO w' w.heap.size y∧y.con=c.2))
theorem tenPost_err {w w':World} {c:Int×TenC} {E:Int} {c':TenC} (hc:c=(E,c')) (hE:E≠0) (hb:Below w.heap.size w w'):TenPost w c (.returned (.tuple #[ZEROT,.int .i64 E])) w':=by
 subst hc
 exact ⟨_,rfl,hb,.inl ⟨hE,rfl⟩⟩
theorem tenPost_ok {w w':World} {c:Int×TenC} {c':TenC} (hc:c=(0,c')) (hb:Below w.heap.size w w') (y:TenR) (ho:TenO w' w.heap.size y) (hy:y.con=c'):TenPost w c (.returned (.tuple #[y.val,.int .i64 0])) w':=by
 subst hc
 exact ⟨_,rfl,hb,.inr ⟨rfl,y,rfl,ho,hy⟩⟩
def TenC.find (c:TenC) (p:BS):Int:=firstI (fun s:SetC=>s.path == p) c.sets
theorem findS_con (t:TenR) (p:BS):findS t.sets.l p=t.con.find p:=by
 unfold findS TenC.find
 exact (firstI_map SetR.con (fun s:SetC=>s.path == p) t.sets.l).symm
/-- what is settled -/
def TenC.settle (c:TenC):Int×TenC:=if c.E=9 then (9,c) else if c.quota<(c.charge:Int) then (42,c) else (0,c)
theorem settleT_any (t:TenR) (w:World) (B:Nat) (hB:B≤w.heap.size) (hr:t.rd w B) (hz:t.sz) (hmx:HasMax w) :
  Calls Tryz.prog 35 #[t.val] w (TenPost w t.con.settle):=by
 refine (settle_any t w B hB hr hz hmx).mono ?_
 rintro e w' ⟨v,E,rfl,hb,h⟩
 rw [tenE_con,tenSum_con t w B hr] at h
 unfold TenPost TenC.settle
 rcases h with ⟨h1,h2,h3⟩ | ⟨h1,h2,h3,h4⟩ | ⟨h1,h2,h3,y,h4,h5,h6⟩
 ·rw [if_pos h1]
  exact ⟨v,by rw [h2],hb,.inl ⟨(by decide:(9:Int)≠0),h3⟩⟩
 ·rw [if_neg (by rw [h1];decide),if_pos (show t.con.quota<_ from h2)]
  exact ⟨v,by rw [h3],hb,.inl ⟨(by decide:(42:Int)≠0),h4⟩⟩
 ·rw [if_neg (by rw [h1];decide),if_neg (show ¬ t.con.quota<_ from by show ¬ t.quota<_;omega)]
  exact ⟨v,by rw [h3],hb,.inr ⟨rfl,y,h4,h5,((TenR.eqv_iff _ _).1 h6).symm⟩⟩
/-! ### what stands under a set, its clones, what is held -/
end Go.Proofs.YtmladblmknbgnaaGreatDoor
namespace Go.Proofs.YtmladblmknbgnaaGreatDoor
open Go.RowKit
/-- likewise, of a snapshot that must be there -/
def foundI (t:TenR) (p n:BS) (bad:Bool):Int×Int×Int :=
 if (askI t p n bad).2.2=0∧(askI t p n bad).2.1<0 then ((askI t p n bad).1,(askI t p n bad).2.1,71) else askI t p n bad
set_option maxRecDepth 100000 in
set_option maxHeartbeats 2000000 in
theorem found_any (t:TenR) (p n:BS) (ms:List Bool) (mA:Option Addr) (mn mc:Nat) (w:World) (B:Nat) (hB:B≤w.heap.size) (hr:t.rd w B) (hz:t.sz) (hp:p.length≤4000000000) (hmx:HasMax w) (hmn:mn=ms.length) (hm5:mn≤5) (hms:Reads w B 1 mA mn (cellsK (fun b:Bool=>[Value.bool b]) ms)) :
  Calls Tryz.prog 73 #[t.val,.string ⟨p.toArray⟩,.string ⟨n.toArray⟩,.slice mA mn mc] w fun e w'=>e=.returned (askV (foundI t p n (ms.contains false)))∧Below w.heap.size w w':=by
 obtain ⟨nm,qu,nx,⟨s1,sn,s3,sl⟩,⟨g1,gn,g3,gl⟩,⟨t1,tn,t3,tl⟩,⟨l1,ln,l3,ll⟩⟩:=t
 show Calls Tryz.prog 73 #[.agg #[.string ⟨nm.toArray⟩,.int .i64 qu,.int .i64 nx,.slice s1 sn s3,.slice g1 gn g3,.slice t1 tn t3,.slice l1 ln l3],.string ⟨p.toArray⟩,.string ⟨n.toArray⟩,.slice mA mn mc] w _
 have hb1:=(Below.refl w.heap.size w).alloc (Nat.le_refl _) (.cells #[.string ⟨nm.toArray⟩,.int .i64 qu,.int .i64 nx,.slice s1 sn s3,.slice g1 gn g3,.slice t1 tn t3,.slice l1 ln l3] 27)
 have hc:Calls Tryz.prog 62 #[.agg #[.string ⟨nm.toArray⟩,.int .i64 qu,.int .i64 nx,.slice s1 sn s3,.slice g1 gn g3,.slice t1 tn t3,.slice l1 ln l3],.string ⟨p.toArray⟩,.string ⟨n.toArray⟩,.slice mA mn mc] (w.alloc (.cells #[.string ⟨nm.toArray⟩,.int .i64 qu,.int .i64 nx,.slice s1 sn s3,.slice g1 gn g3,.slice t1 tn t3,.slice l1 ln l3] 27)) _:=asked_any ⟨nm,qu,nx,⟨s1,sn,s3,sl⟩,⟨g1,gn,g3,gl⟩,⟨t1,tn,t3,tl⟩,⟨l1,ln,l3,ll⟩⟩ p n ms mA mn mc (w.alloc (.cells #[.string ⟨nm.toArray⟩,.int .i64 qu,.int .i64 nx,.slice s1 sn s3,.slice g1 gn g3,.slice t1 tn t3,.slice l1 ln l3] 27)) B (by simp;omega) (TenR.rd.below hr (hb1.mono hB)) hz hp (hmx.below hb1) hmn hm5 (hms.below (hb1.mono hB))
 obtain ⟨V,hV⟩:∃ V,V=askI ⟨nm,qu,nx,⟨s1,sn,s3,sl⟩,⟨g1,gn,g3,gl⟩,⟨t1,tn,t3,tl⟩,⟨l1,ln,l3,ll⟩⟩ p n (ms.contains false):=⟨_,rfl⟩
 have hF:Hid (foundI ⟨nm,qu,nx,⟨s1,sn,s3,sl⟩,⟨g1,gn,g3,gl⟩,⟨t1,tn,t3,tl⟩,⟨l1,ln,l3,ll⟩⟩ p n (ms.contains false)=if V.2.2=0∧V.2.1<0 then (V.1,V.2.1,71) else V):=by show _=_;unfold foundI;rw [← hV]
 rw [← hV] at hc
 obtain ⟨a,k,e0⟩:=V
 simp only [askV] at hc hF
 have HB1:=Lib.hid hb1
 clear hb1 hr hz hmx hms hmn hV
 go_enter Tryz.func73,Tryz.ntmps73
 go_wp2_with fail
 refine hc.mono ?_
 clear hc
 rintro e w2 ⟨rfl,hb2⟩
 have HB2:=Lib.hid (HB1.out.trans (hb2.mono HB1.out.size))
 clear hb2 HB1
 by_cases he:e0=0
 ·subst he
  by_cases hk:k<0
  ·have HF1:Hid (foundI ⟨nm,qu,nx,⟨s1,sn,s3,sl⟩,⟨g1,gn,g3,gl⟩,⟨t1,tn,t3,tl⟩,⟨l1,ln,l3,ll⟩⟩ p n (ms.contains false)=(a,k,71)):=by show _=_;rw [hF.out,if_pos ⟨rfl,hk⟩]
   clear hF
   go_wp2_with fail
   exact bodyPost_ret (v:=.tuple #[.int .i64 a,.int .i64 k,.int .i64 71]) (by simp [results,Tryz.results73,go_sem]) rfl ⟨by rw [HF1.out];rfl,HB2.out⟩
  ·have HF1:Hid (foundI ⟨nm,qu,nx,⟨s1,sn,s3,sl⟩,⟨g1,gn,g3,gl⟩,⟨t1,tn,t3,tl⟩,⟨l1,ln,l3,ll⟩⟩ p n (ms.contains false)=(a,k,0)):=by show _=_;rw [hF.out,if_neg (fun h=>hk h.2)]
   clear hF
   go_wp2_with fail
   exact bodyPost_ret (v:=.tuple #[.int .i64 a,.int .i64 k,.int .i64 0]) (by simp [results,Tryz.results73,go_sem]) rfl ⟨by rw [HF1.out];rfl,HB2.out⟩
 ·have HF1:Hid (foundI ⟨nm,qu,nx,⟨s1,sn,s3,sl⟩,⟨g1,gn,g3,gl⟩,⟨t1,tn,t3,tl⟩,⟨l1,ln,l3,ll⟩⟩ p n (ms.contains false)=(a,k,e0)):=by show _=_;rw [hF.out,if_neg (fun h=>he h.1)]
  clear hF
  have heb:(e0 == 0)=false:=by simpa using he
  go_wp2_with fail
  exact bodyPost_ret (v:=.tuple #[.int .i64 a,.int .i64 k,.int .i64 e0]) (by simp [results,Tryz.results73,go_sem]) rfl ⟨by rw [HF1.out];rfl,HB2.out⟩
/-- the next number of a set's -/
def guidI (nx:Int) (l:List SnapR):Int:=match l.getLast? with
 | none=>nx
 | some x=>max nx (x.gd+1)
set_option maxRecDepth 100000 in
set_option maxHeartbeats 2000000 in
theorem guid_any (v0 v1 v3 v4 v5 v6:Value) (nx:Int) (u0 u1 u2 u4:Value) (zl:List SnapR) (zA:Option Addr) (zn zc:Nat) (w:World) (B:Nat) (hB:B≤w.heap.size) (hz:Reads w B 5 zA zn (cellsK encSnap zl)) (hn:zn=zl.length) (hm:zn≤1000000) (hg:∀ x∈zl,-4000000000000000000≤x.gd∧x.gd≤4000000000000000000) :
  Calls Tryz.prog 63 #[.agg #[v0,v1,.int .i64 nx,v3,v4,v5,v6],.agg #[u0,u1,u2,.slice zA zn zc,u4]] w fun e w'=>e=.returned (.int .i64 (guidI nx zl))∧Below w.heap.size w w':=by
 have hb1:=(Below.refl w.heap.size w).alloc (Nat.le_refl _) (.cells #[v0,v1,.int .i64 nx,v3,v4,v5,v6] 27)
 have hb2:=hb1.alloc hb1.size (.cells #[u0,u1,u2,.slice zA zn zc,u4] 42)
 have HB2:=Lib.hid hb2
 have hz2:=hz.below (hb2.mono hB)
 have HN:=Lib.hid hn
 rcases Nat.eq_zero_or_pos zn with h0 | h0
 ·subst h0
  have hl:zl=[]:=List.eq_nil_of_length_eq_zero hn.symm
  subst hl
  clear hb1 hb2 hz hz2 hn
  go_enter Tryz.func63,Tryz.ntmps63
  go_wp2_with fail
  go_ret
  exact ⟨rfl,HB2.out⟩
 ·have hlt:zn-1<zn:=by omega
  have hzi:(0:Int)<(zn:Int):=by omega
  have hsub:IntKind.i64.wrap ((zn:Int)-1)=((zn-1:Nat):Int):=by rw [show (zn:Int)-1=((zn-1:Nat):Int) by omega];exact IntWalk.i64_in _ (by omega)
  have hi2:((zn-1:Nat):Int)<(zn:Int):=by omega
  obtain ⟨ad,rfl,-,r0,r1,r2,r3,r4⟩:=snap_at hz2 hn hlt
  have hkl:zn-1<zl.length:=by omega
  have hgl:=hg _ (List.getElem_mem hkl)
  have HL:Hid (zl.getLast?=some (zl[zn-1]'hkl)):=by
   show _=_
   rw [List.getLast?_eq_getElem?,← hn,List.getElem?_eq_getElem hkl]
  obtain ⟨x,hx⟩:∃ x,x=zl[zn-1]'hkl:=⟨_,rfl⟩
  rw [← hx] at r1 HL hgl
  have hadd:IntKind.i64.wrap (x.gd+1)=x.gd+1:=IntWalk.i64_in _ (by omega)
  clear hb1 hb2 hz hz2 hn hx r0 r2 r3 r4 hg
  go_enter Tryz.func63,Tryz.ntmps63
  go_wp2_with fail
  go_ret
  refine ⟨?_,HB2.out⟩
  unfold guidI
  rw [HL.out]
  rfl
end Go.Proofs.YtmladblmknbgnaaGreatDoor
namespace Go.Proofs.YtmladblmknbgnaaGreatDoor
open Go.RowKit
def new0C (q:Int):TenC:=⟨[116],q,1,[set0C []],[],[],[]⟩
set_option maxRecDepth 100000 in
set_option maxHeartbeats 2000000 in
theorem rnew_any (q:Int) (h0:0<q) (h1:q≤1099511627776) (w:World) :
  Calls Tryz.prog 61 #[.string ⟨#[116]⟩,.int .i64 q] w fun e w'=>∃ y:TenR,e=.returned (.tuple #[y.val,.int .i64 0])∧TenO w' w.heap.size y∧y.con=new0C q∧Below w.heap.size w w':=by
 have hb:=((Below.refl w.heap.size w).alloc (Nat.le_refl _) (.cells #[.string ⟨#[]⟩,.int .i64 0,.int .i64 0,.slice none 0 0,.slice none 0 0,.slice none 0 0,.slice none 0 0] 27))
 have kz:=Blk.new w 27 #[.string ⟨#[]⟩,.int .i64 0,.int .i64 0,.slice none 0 0,.slice none 0 0,.slice none 0 0,.slice none 0 0]
 have hsz:(w.alloc (.cells #[.string ⟨#[]⟩,.int .i64 0,.int .i64 0,.slice none 0 0,.slice none 0 0,.slice none 0 0,.slice none 0 0] 27)).heap.size=w.heap.size+1:=by simp
 obtain ⟨W1,hW1⟩:∃ W,W=(w.alloc (.cells #[.string ⟨#[]⟩,.int .i64 0,.int .i64 0,.slice none 0 0,.slice none 0 0,.slice none 0 0,.slice none 0 0] 27)):=⟨_,rfl⟩
 rw [← hW1] at hb hsz kz
 have hKz:Hid (∀ W,Below W1.heap.size W1 W→Blk W w.heap.size 27 #[.string ⟨#[]⟩,.int .i64 0,.int .i64 0,.slice none 0 0,.slice none 0 0,.slice none 0 0,.slice none 0 0]):=fun W h=>kz.below h (by omega)
 have hBW:Hid (∀ W,Below W1.heap.size W1 W→Below w.heap.size w W):=fun W h=>hb.trans (h.mono (by omega))
 have hSZ:Hid (∀ W,Below W1.heap.size W1 W→w.heap.size+1≤W.heap.size):=fun W h=>by have:=h.size;omega
 have hW0:Hid (Below W1.heap.size W1 W1):=Below.refl _ _
 have hNM:Hid (∀ W,Below W1.heap.size W1 W→Calls Tryz.prog 81 #[.string ⟨#[116]⟩] W fun e w'=>e=.returned (.bool true)∧Below W.heap.size W w'):=fun W _=>by
  have h:=refNameB_any [116] W (by decide)
  rw [show nameB [116]=true by decide +kernel] at h
  exact h
 have hAM:Hid (∀ W,Below W1.heap.size W1 W→Calls Tryz.prog 82 #[.int .i64 q,.int .i64 0] W fun e w'=>e=.returned (.bool true)∧Below W.heap.size W w'):=fun W _=>by
  have h:=refAmountB_any q 0 W
  rw [show amt q 0=true by unfold amt;simp;omega] at h
  exact h
 have hq0:¬ q=0:=by omega
 clear hb hsz kz
 go_enter Tryz.func61,Tryz.ntmps61
 have hc:=hNM.out  W1 hW0.out
 go_wp2_with fail
 rw [← hW1]
 clear hW1
 refine hc.mono ?_
 clear hc 
 rintro e w2 ⟨rfl,hb⟩
 have HW2:=Lib.hid (hW0.out.trans (hb.mono hW0.out.size))
 clear hb
 have hc:=hAM.out  w2 HW2.out
 go_wp2_with fail
 refine hc.mono ?_
 clear hc 
 rintro e w3 ⟨rfl,hb⟩
 have HW3:=Lib.hid (HW2.out.trans (hb.mono HW2.out.size))
 clear hb
 have kz:=(hKz.out w3 HW3.out).alloc (.cells #[.string ⟨#[]⟩,.string ⟨#[]⟩,.slice none 0 0,.slice none 0 0,.slice none 0 0] 42)
 have kr:=Blk.new w3 42 #[.string ⟨#[]⟩,.string ⟨#[]⟩,.slice none 0 0,.slice none 0 0,.slice none 0 0]
 have hb:=(hBW.out w3 HW3.out).alloc (by have:=hSZ.out w3 HW3.out;omega) (.cells #[.string ⟨#[]⟩,.string ⟨#[]⟩,.slice none 0 0,.slice none 0 0,.slice none 0 0] 42)
 have hszr:(w3.alloc (.cells #[.string ⟨#[]⟩,.string ⟨#[]⟩,.slice none 0 0,.slice none 0 0,.slice none 0 0] 42)).heap.size=w3.heap.size+1:=by simp
 obtain ⟨W4,hW4'⟩:∃ W,W=w3.alloc (.cells #[.string ⟨#[]⟩,.string ⟨#[]⟩,.slice none 0 0,.slice none 0 0,.slice none 0 0] 42):=⟨_,rfl⟩
 rw [← hW4'] at kz kr hb hszr
 have KZ:=Lib.hid kz
 have HB:=Lib.hid hb
 have HSZ3:=Lib.hid (show w.heap.size+1≤w3.heap.size∧W4.heap.size=w3.heap.size+1 by have:=hSZ.out w3 HW3.out;omega)
 have HO:Hid (TenO W4 w.heap.size ⟨[116],q,1,⟨some ⟨w3.heap.size,0,none⟩,1,1,[⟨[],[],⟨none,0,0,[]⟩,⟨none,0,0,[]⟩,⟨none,0,0,[]⟩⟩]⟩,⟨none,0,0,[]⟩,⟨none,0,0,[]⟩,⟨none,0,0,[]⟩⟩):=by
  show TenO _ _ _
  refine ⟨⟨rfl,own_of_row (cap:=1) (cur:=[.string ⟨#[]⟩,.string ⟨#[]⟩,.slice none 0 0,.slice none 0 0,.slice none 0 0]) kr (by have:=HSZ3.out;omega) (Nat.le_refl _) (by decide) rfl rfl⟩,fun y hy=>?_,⟨rfl,rfl,.inl ⟨rfl,rfl⟩⟩,⟨rfl,rfl,.inl ⟨rfl,rfl⟩⟩,fun y hy=>absurd hy (by simp),⟨rfl,rfl,.inl ⟨rfl,rfl⟩⟩⟩
  rw [List.mem_singleton] at hy
  subst hy
  exact ⟨⟨rfl,rfl,.inl ⟨rfl,rfl⟩⟩,⟨rfl,rfl,.inl ⟨rfl,rfl⟩⟩,fun y hy=>absurd hy (by simp),⟨rfl,rfl,.inl ⟨rfl,rfl⟩⟩⟩
 clear kz kr hb hszr
 go_upto_region 7 with (fail)
 obtain ⟨WR,hW4,hth,HL,HBW,hgw⟩:=res7 (g:=w.heap.size) [.string ⟨#[116]⟩,.int .i64 q,.int .i64 1,.slice (some ⟨w3.heap.size,0,none⟩) 1 1,.slice none 0 0,.slice none 0 0,.slice none 0 0] KZ.out HB.out (by omega)
 have HOO:=Lib.hid (TenO.keptT HO.out hgw KZ.out offT_ten)
 clear hgw
 go_wp2_with ((try rw [← hW4']);refine wpList_store_mid rfl 27 (.tmp 4) (.tmp 24) rfl (w.heap.size) 0 #[.string ⟨#[116]⟩,.int .i64 q,.int .i64 1,.slice (some ⟨w3.heap.size,0,none⟩) 1 1,.slice none 0 0,.slice none 0 0,.slice none 0 0] rfl rfl hth.out (by kernel_rfl) (by simp [Value.oneCell']) ?_;rw [← hW4];clear hW4)
 exact bodyPost_ret (v:=.tuple #[.agg #[.string ⟨#[116]⟩,.int .i64 q,.int .i64 1,.slice (some ⟨w3.heap.size,0,none⟩) 1 1,.slice none 0 0,.slice none 0 0,.slice none 0 0],.int .i64 0]) (results_cell_tmp rfl rfl HL.out) rfl ⟨⟨[116],q,1,⟨some ⟨w3.heap.size,0,none⟩,1,1,[⟨[],[],⟨none,0,0,[]⟩,⟨none,0,0,[]⟩,⟨none,0,0,[]⟩⟩]⟩,⟨none,0,0,[]⟩,⟨none,0,0,[]⟩,⟨none,0,0,[]⟩⟩,rfl,HOO.out,rfl,HBW.out⟩
end Go.Proofs.YtmladblmknbgnaaGreatDoor
namespace Go.Proofs.YtmladblmknbgnaaGreatDoor
open Go.RowKit
def ten0C:TenC:=⟨[],0,0,[],[],[],[]⟩
def ten0R:TenR:=⟨[],0,0,⟨none,0,0,[]⟩,⟨none,0,0,[]⟩,⟨none,0,0,[]⟩,⟨none,0,0,[]⟩⟩
theorem rd_nil {α:Type} {w:World} {B k:Nat} {enc:α→List Value}:FS.rd w B k enc ⟨none,0,0,[]⟩:=⟨rfl,Nat.le_refl _,Reads.none_⟩
/-- the content of what is told: an error's is the zero one -/
def tenOr (r:Int×TenC):TenC:=if r.1=0 then r.2 else ten0C
theorem TenPost.all {w w':World} {c:Int×TenC} {e:Ending} (h:TenPost w c e w'):∃ y:TenR,e=.returned (.tuple #[y.val,.int .i64 c.1])∧Below w.heap.size w w'∧y.rd w' w'.heap.size∧y.con=tenOr c:=by
 obtain ⟨v,rfl,hb,h⟩:=h
 unfold tenOr
 rcases h with ⟨h1,rfl⟩ | ⟨h1,y,rfl,h2,h3⟩
 ·exact ⟨ten0R,rfl,hb,⟨rd_nil,fun y hy=>(by cases hy),rd_nil,rd_nil,fun y hy=>(by cases hy),rd_nil⟩,by rw [if_neg h1];rfl⟩
 ·exact ⟨y,rfl,hb,h2.rd,by rw [if_pos h1];exact h3⟩
end Go.Proofs.YtmladblmknbgnaaGreatDoor
namespace Go.Proofs.YtmladblmknbgnaaGreatDoor
open Go.RowKit
theorem new0C_sz (q:Int):(new0C q).sz where
 nm:=by show (1:Nat)≤4000000000;decide
 sets:=by show (1:Nat)≤1000000000000;decide
 eachS:=by
  intro y hy
  rw [show (new0C q).sets=[set0C []] from rfl,List.mem_singleton] at hy
  subst hy
  exact set0C_sz [] (by decide)
 grants:=by show (0:Nat)≤1000000000000;decide
 eachG:=fun y hy=>by cases hy
 stages:=by show (0:Nat)≤1000000000000;decide
 eachT:=fun y hy=>by cases hy
 log:=by show (0:Nat)≤1000000000000;decide
 eachL:=fun y hy=>by cases hy
end Go.Proofs.YtmladblmknbgnaaGreatDoor
namespace Go.Proofs.YtmladblmknbgnaaGreatDoor
open Go.RowKit
def TenC.clones (c:TenC) (p q:BS):Nat:=(c.sets.filter fun s=>clP p q s.org).length
theorem clones_con (t:TenR) (p q:BS):(clonesL t.sets.l p q).length=t.con.clones p q:=by
 unfold clonesL TenC.clones
 rw [List.length_map]
 show _=((t.sets.l.map SetR.con).filter _).length
 rw [List.filter_map,List.length_map]
 rfl
end Go.Proofs.YtmladblmknbgnaaGreatDoor
namespace Go.Proofs.YtmladblmknbgnaaGreatDoor
open Go.RowKit
structure SetOk (l:List SetC) (s:SetC):Prop where
 path:pathB s.path=true
 par:∀ u,parB s.path=some u→∃ x∈l,x.path=u
 own:propsB s.own=true
 body:okL s.body=true
 snaps:snapsB (s.snaps.map SnapC.r)=true
 org:s.org=[]∨∃ a b,splitL s.org=some (a,b)∧a≠s.path∧∃ x,l.find? (fun x=>x.path == a)=some x∧∃ y∈x.snaps,y.nm=b
theorem setB_iff (l:List SetC) (s:SetC):setB (l.map SetC.r) s.r=true↔SetOk l s:=by
 have hpar:(match parB s.path with | none=>true | some u=>(l.map SetC.r).any fun x=>x.path == u)=true↔∀ u,parB s.path=some u→∃ x∈l,x.path=u:=by
  cases hp:parB s.path with
  | none=>exact ⟨fun _ u h=>by (cases h),fun _=>rfl⟩
  | some u =>
   simp only [List.any_map]
   constructor
   ·intro h v hv
    cases hv
    obtain ⟨x,hx,e⟩:=List.any_eq_true.1 h
    exact ⟨x,hx,by simpa [SetC.r] using e⟩
   ·intro h
    obtain ⟨x,hx,e⟩:=h u rfl
    exact List.any_eq_true.2 ⟨x,hx,by simpa [SetC.r] using e⟩
 have horg:originB (l.map SetC.r) s.r=true↔(s.org=[]∨∃ a b,splitL s.org=some (a,b)∧a≠s.path∧∃ x,l.find? (fun x=>x.path == a)=some x∧∃ y∈x.snaps,y.nm=b):=by
  unfold originB
  show (s.org == [] || match splitL s.org with
   | none=>false
   | some (p,n)=>!(p == s.path) && match (l.map SetC.r).find? (fun x=>x.path == p) with
    | none=>false
    | some x=>x.snaps.l.any fun y=>y.nm == n)=true↔_
  rw [Bool.or_eq_true]
  refine or_congr (by simp) ?_
  cases hsp:splitL s.org with
  | none=>simp
  | some v =>
   obtain ⟨a,b⟩:=v
   simp only [Bool.and_eq_true,find_map]
   have e:(l.find? fun x:SetC=>(SetC.r x).path == a)=l.find? fun x=>x.path == a:=rfl
   rw [e]
   constructor
   ·rintro ⟨h1,h2⟩
    refine ⟨a,b,rfl,by simpa using h1,?_⟩
    cases hf:l.find? (fun x=>x.path == a) with
    | none=>rw [hf] at h2;cases h2
    | some x =>
     rw [hf] at h2
     simp only [Option.map_some] at h2
     have h2:((x.snaps.map SnapC.r).any fun y=>y.nm == b)=true:=h2
     rw [List.any_map] at h2
     obtain ⟨y,hy,ey⟩:=List.any_eq_true.1 h2
     exact ⟨x,rfl,y,hy,by simpa [SnapC.r] using ey⟩
   ·rintro ⟨a',b',h0,h1,x,hf,y,hy,ey⟩
    cases h0
    refine ⟨by simpa using h1,?_⟩
    rw [hf]
    show ((x.snaps.map SnapC.r).any fun y=>y.nm == b)=true
    rw [List.any_map]
    exact List.any_eq_true.2 ⟨y,hy,by simpa [SnapC.r] using ey⟩
 unfold setB
 rw [Bool.and_eq_true,Bool.and_eq_true,Bool.and_eq_true,Bool.and_eq_true,Bool.and_eq_true,horg]
 constructor
 ·rintro ⟨⟨⟨⟨⟨h1,h2⟩,h3⟩,h4⟩,h5⟩,h6⟩
  exact ⟨h1,hpar.1 h2,h3,h4,h5,h6⟩
 ·rintro ⟨h1,h2,h3,h4,h5,h6⟩
  exact ⟨⟨⟨⟨⟨h1,hpar.2 h2⟩,h3⟩,h4⟩,h5⟩,h6⟩
structure SetsOk (l:List SetC):Prop where
 len:l.length≤32
 root:∃ x∈l,x.path=[]
 each:∀ s∈l,SetOk l s
 asc:l.Pairwise fun a b=>Op.bytesLess a.path b.path=true
theorem setsB_iff (l:List SetC):setsB (l.map SetC.r)=true↔SetsOk l:=by
 unfold setsB
 rw [Bool.and_eq_true,Bool.and_eq_true,setsFrom_iff]
 simp only [decide_eq_true_eq,List.length_map,List.any_map]
 constructor
 ·rintro ⟨⟨h1,h2⟩,h3,h4,-⟩
  obtain ⟨x,hx,e⟩:=List.any_eq_true.1 h2
  exact ⟨h1,⟨x,hx,by simpa [SetC.r] using e⟩,fun s hs=>(setB_iff l s).1 (h3 _ (List.mem_map_of_mem hs)),List.pairwise_map.1 h4⟩
 ·rintro ⟨h1,⟨x,hx,e⟩,h3,h4⟩
  refine ⟨⟨h1,List.any_eq_true.2 ⟨x,hx,by simpa [SetC.r] using e⟩⟩,fun s hs=>?_,List.pairwise_map.2 h4,fun q hq=>by cases hq⟩
  obtain ⟨y,hy,rfl⟩:=List.mem_map.1 hs
  exact (setB_iff l y).2 (h3 y hy)
structure TenC.Ok (c:TenC):Prop where
 nm:nameB c.nm=true
 quota:amt c.quota 0=true
 next:amt c.next 1=true
 sets:SetsOk c.sets
 grants:grantsB c.grants=true
 stages:stagesB (c.stages.map StageC.r)=true
 log:logB c.log=true
theorem TenC.E_ok (c:TenC):c.E=0↔c.Ok:=by
 unfold TenC.E tenE
 constructor
 ·intro h
  have hb:tenB c.r=true:=by
   by_cases hb:tenB c.r=true
   ·exact hb
   ·rw [if_neg hb] at h;exact absurd h (by decide)
  unfold tenB at hb
  rw [Bool.and_eq_true,Bool.and_eq_true,Bool.and_eq_true,Bool.and_eq_true,Bool.and_eq_true,Bool.and_eq_true] at hb
  obtain ⟨⟨⟨⟨⟨⟨h1,h2⟩,h3⟩,h4⟩,h5⟩,h6⟩,h7⟩:=hb
  exact ⟨h1,h2,h3,(setsB_iff _).1 h4,h5,h6,h7⟩
 ·rintro ⟨h1,h2,h3,h4,h5,h6,h7⟩
  rw [if_pos]
  unfold tenB
  rw [Bool.and_eq_true,Bool.and_eq_true,Bool.and_eq_true,Bool.and_eq_true,Bool.and_eq_true,Bool.and_eq_true]
  exact ⟨⟨⟨⟨⟨⟨h1,h2⟩,h3⟩,(setsB_iff _).2 h4⟩,h5⟩,h6⟩,h7⟩
/-- sets in order: each is found by its path -/
theorem find_of_mem {l:List SetC} (h:l.Pairwise fun a b=>Op.bytesLess a.path b.path=true) {x:SetC} (hx:x∈l):l.find? (fun y=>y.path == x.path)=some x:=by
 induction l with
 | nil=>cases hx
 | cons y r ih =>
  obtain ⟨h1,h2⟩:=List.pairwise_cons.1 h
  rcases List.mem_cons.1 hx with rfl | hx
  ·rw [List.find?_cons_of_pos (by simp)]
  ·rw [List.find?_cons_of_neg (by simpa using bl_ne (h1 x hx))]
   exact ih h2 hx
/-! ### a set less -/
/-! ### a set turned -/
end Go.Proofs.YtmladblmknbgnaaGreatDoor
namespace Go.Proofs.YtmladblmknbgnaaGreatDoor
open Go.RowKit
def SetC.findN (s:SetC) (n:BS):Int:=firstI (fun x:SnapC=>x.nm == n) s.snaps
theorem findN_con (s:SetR) (n:BS):findN s.snaps.l n=s.con.findN n:=(firstI_map SnapR.con (fun x:SnapC=>x.nm == n) s.snaps.l).symm
/-- places and an error, by content -/
def TenC.askS (c:TenC) (p n:BS) (bad:Bool):Int×Int×Int :=
 if c.E=9 then (0,0,9) else if pathB p=false∨nameB n=false∨bad=true then (0,0,31) else
  match c.sets.find? (fun s=>s.path == p) with
  | none=>(0,0,71)
  | some s=>(c.find p,s.findN n,0)
theorem askS_con (t:TenR) (p n:BS) (bad:Bool):askI t p n bad=t.con.askS p n bad:=by
 unfold askI TenC.askS
 rw [tenE_con,show t.con.sets=t.sets.l.map SetR.con from rfl,find_map]
 have e:(t.sets.l.find? fun x:SetR=>(SetR.con x).path == p)=t.sets.l.find? fun x=>x.path == p:=rfl
 rw [e]
 cases t.sets.l.find? (fun x=>x.path == p) with
 | none=>rfl
 | some s=>simp only [Option.map_some];rw [findS_con,findN_con]
def TenC.foundS (c:TenC) (p n:BS) (bad:Bool):Int×Int×Int :=
 if (c.askS p n bad).2.2=0∧(c.askS p n bad).2.1<0 then ((c.askS p n bad).1,(c.askS p n bad).2.1,71) else c.askS p n bad
theorem foundS_con (t:TenR) (p n:BS) (bad:Bool):foundI t p n bad=t.con.foundS p n bad:=by
 unfold foundI TenC.foundS
 rw [askS_con]
/-- a set that is found -/
structure AtS (c:TenC) (p n:BS) (bad:Bool) (k:Nat):Prop where
 E:c.E=0
 path:pathB p=true
 name:nameB n=true
 good:bad=false
 lt:k<c.sets.length
 at_:(c.sets[k]'lt).path=p
 find:c.find p=(k:Int)
theorem TenC.askS_cases (c:TenC) (p n:BS) (bad:Bool):(∃ E:Int,(E=9∨E=31∨E=71)∧c.askS p n bad=(0,0,E))∨∃ k,∃ h:AtS c p n bad k,c.askS p n bad=((k:Int),(c.sets[k]'h.lt).findN n,0):=by
 unfold TenC.askS
 rcases c.E_two with hE | hE
 ·rw [if_neg (by rw [hE];decide)]
  by_cases hb:pathB p=false∨nameB n=false∨bad=true
  ·rw [if_pos hb]
   exact .inl ⟨31,.inr (.inl rfl),rfl⟩
  ·rw [if_neg hb]
   have h1:pathB p=true:=by cases h:pathB p with
    | true=>rfl
    | false=>exact absurd (.inl h) hb
   have h2:nameB n=true:=by cases h:nameB n with
    | true=>rfl
    | false=>exact absurd (.inr (.inl h)) hb
   have h3:bad=false:=by cases h:bad with
    | false=>rfl
    | true=>exact absurd (.inr (.inr h)) hb
   rcases firstI_cases (fun s:SetC=>s.path == p) c.sets with ⟨e1,e2⟩ | ⟨k,hk,e1,e2⟩
   ·rw [e2]
    exact .inl ⟨71,.inr (.inr rfl),rfl⟩
   ·have e1:c.find p=(k:Int):=e1
    rw [e2]
    exact .inr ⟨k,⟨hE,h1,h2,h3,hk,by simpa using List.find?_some e2,e1⟩,by simp only [e1]⟩
 ·rw [if_pos hE]
  exact .inl ⟨9,.inl rfl,rfl⟩
/-- a snapshot that is found -/
theorem findN_cases (s:SetC) (n:BS):(s.findN n=-1∧∀ x∈s.snaps,x.nm≠n)∨∃ i,∃ hi:i<s.snaps.length,s.findN n=(i:Int)∧(s.snaps[i]'hi).nm=n:=by
 rcases firstI_cases (fun x:SnapC=>x.nm == n) s.snaps with ⟨e1,e2⟩ | ⟨k,hk,e1,e2⟩
 ·refine .inl ⟨e1,fun x hx=>?_⟩
  have:=List.find?_eq_none.1 e2 x hx
  simpa using this
 ·exact .inr ⟨k,hk,e1,by simpa using List.find?_some e2⟩
theorem TenC.foundS_cases (c:TenC) (p n:BS) (bad:Bool):(∃ a k E:Int,(E=9∨E=31∨E=71)∧c.foundS p n bad=(a,k,E))∨∃ k,∃ h:AtS c p n bad k,∃ i,∃ hi:i<(c.sets[k]'h.lt).snaps.length,c.foundS p n bad=((k:Int),(i:Int),0)∧(c.sets[k]'h.lt).findN n=(i:Int)∧((c.sets[k]'h.lt).snaps[i]'hi).nm=n:=by
 unfold TenC.foundS
 rcases c.askS_cases p n bad with ⟨E,hE,e⟩ | ⟨k,h,e⟩
 ·rw [e]
  rw [if_neg (by rintro ⟨h1,-⟩;rcases hE with rfl | rfl | rfl <;> exact absurd h1 (by decide))]
  exact .inl ⟨0,0,E,hE,rfl⟩
 ·rw [e]
  rcases findN_cases (c.sets[k]'h.lt) n with ⟨e1,-⟩ | ⟨i,hi,e1,e2⟩
  ·rw [e1,if_pos ⟨rfl,(by decide:(-1:Int)<0)⟩]
   exact .inl ⟨_,_,71,.inr (.inr rfl),rfl⟩
  ·rw [e1,if_neg (by rintro ⟨-,h1⟩;have h1:(i:Int)<0:=h1;omega)]
   exact .inr ⟨k,h,i,hi,rfl,e1,e2⟩
def guidC (nx:Int) (l:List SnapC):Int:=match l.getLast? with
 | none=>nx
 | some x=>max nx (x.gd+1)
theorem guid_con (nx:Int) (l:List SnapR):guidI nx l=guidC nx (l.map SnapR.con):=by
 unfold guidI guidC
 rw [List.getLast?_map]
 cases l.getLast? <;> rfl
/-! ### what is made -/
def SetC.addSnap (s:SetC) (x:SnapC):SetC:=⟨s.path,s.org,s.body,s.snaps++[x],s.own⟩
def SetC.dropSnap (s:SetC) (i:Nat):SetC:=⟨s.path,s.org,s.body,s.snaps.take i++s.snaps.drop (i+1),s.own⟩
def TenC.nextN (c:TenC) (n:Int):TenC:=⟨c.nm,c.quota,n,c.sets,c.grants,c.stages,c.log⟩
def snapOf (s:SetC) (n:BS) (g:Int):SnapC:=⟨n,g,s.body,[],s.own⟩
def TenC.snapped (c:TenC) (k:Nat) (s:SetC) (n:BS) (g:Int):TenC:=(c.putS k (s.addSnap (snapOf s n g))).nextN (g+1)
def TenC.snapshot (c:TenC) (p n:BS):Int×TenC :=
 if (c.askS p n false).2.2≠0 then ((c.askS p n false).2.2,c) else match c.sets[(c.askS p n false).1.toNat]? with
 | none=>(71,c)
 | some s=>if 0≤(c.askS p n false).2.1 then (6,c) else if s.snaps.length=16 then (3,c) else if 1099511627776≤guidC c.next s.snaps then (15,c) else (c.snapped (c.askS p n false).1.toNat s n (guidC c.next s.snaps)).settle
def TenC.guidAt (c:TenC) (p:BS):Int:=match c.sets[(c.find p).toNat]? with
 | none=>0
 | some s=>guidC c.next s.snaps
def TenC.unsnap (c:TenC) (p n:BS):Int×TenC :=
 if (c.foundS p n false).2.2≠0 then ((c.foundS p n false).2.2,c) else if 0<c.clones p n then (44,c) else match c.sets[(c.foundS p n false).1.toNat]? with
 | none=>(71,c)
 | some s=>match s.snaps[(c.foundS p n false).2.1.toNat]? with
  | none=>(71,c)
  | some x=>if 0<x.tags.length then (43,c) else (0,c.putS (c.foundS p n false).1.toNat (s.dropSnap (c.foundS p n false).2.1.toNat))
/-! ### what may be -/
structure SnapsOk (l:List SnapC):Prop where
 len:l.length≤16
 each:∀ x∈l,snapOk x.r=true∧nameB x.nm=true
 asc:l.Pairwise fun a b=>a.gd<b.gd
 nodup:(l.map SnapC.nm).Nodup
theorem snapsFrom_iff (p:Option Int) (l:List SnapR):snapsFrom p l=true↔(∀ x∈l,snapOk x=true)∧(l.Pairwise fun a b=>a.gd<b.gd)∧∀ q,p=some q→∀ x∈l,q<x.gd:=by
 induction l generalizing p with
 | nil=>cases p <;> simp [snapsFrom]
 | cons y l ih =>
  rw [snapsFrom_cons,Bool.and_eq_true,Bool.and_eq_true,ih]
  constructor
  ·rintro ⟨⟨h1,h2⟩,h3,h4,h5⟩
   refine ⟨fun x hx=>?_,List.pairwise_cons.2 ⟨fun z hz=>h5 _ rfl z hz,h4⟩,fun q hq x hx=>?_⟩
   ·rcases List.mem_cons.1 hx with rfl | hx
    ·exact h1
    ·exact h3 x hx
   ·subst hq
    have h2:q<y.gd:=by simpa using h2
    rcases List.mem_cons.1 hx with rfl | hx
    ·exact h2
    ·have:=h5 _ rfl x hx
     omega
  ·rintro ⟨h1,h2,h3⟩
   obtain ⟨h4,h5⟩:=List.pairwise_cons.1 h2
   refine ⟨⟨h1 y List.mem_cons_self,?_⟩,fun x hx=>h1 x (List.mem_cons_of_mem _ hx),h5,fun q hq x hx=>by cases hq;exact h4 x hx⟩
   cases p with
   | none=>rfl
   | some q=>simpa using h3 q rfl y List.mem_cons_self
theorem unlikeF_iff (acc l:List BS):unlikeF acc l=true↔(∀ x∈l,nameB x=true)∧l.Nodup∧∀ x∈l,x ∉ acc:=by
 induction l generalizing acc with
 | nil=>simp [unlikeF]
 | cons y l ih =>
  rw [unlikeF_cons,Bool.and_eq_true,Bool.and_eq_true,ih,Bool.not_eq_true',← Bool.not_eq_true,List.contains_iff_mem]
  constructor
  ·rintro ⟨⟨h1,h2⟩,h3,h4,h5⟩
   refine ⟨fun x hx=>?_,List.nodup_cons.2 ⟨fun hy=>h5 y hy (by simp),h4⟩,fun x hx=>?_⟩
   ·rcases List.mem_cons.1 hx with rfl | hx
    ·exact h1
    ·exact h3 x hx
   ·rcases List.mem_cons.1 hx with rfl | hx
    ·exact h2
    ·exact fun h=>h5 x hx (by simp [h])
  ·rintro ⟨h1,h2,h3⟩
   obtain ⟨h4,h5⟩:=List.nodup_cons.1 h2
   refine ⟨⟨h1 y List.mem_cons_self,h3 y List.mem_cons_self⟩,fun x hx=>h1 x (List.mem_cons_of_mem _ hx),h5,fun x hx h=>?_⟩
   rcases List.mem_append.1 h with h | h
   ·exact h3 x (List.mem_cons_of_mem _ hx) h
   ·rw [List.mem_singleton] at h
    subst h
    exact h4 hx
theorem snapsB_iff (l:List SnapC):snapsB (l.map SnapC.r)=true↔SnapsOk l:=by
 unfold snapsB unlikeB
 rw [Bool.and_eq_true,Bool.and_eq_true,snapsFrom_iff,unlikeF_iff]
 simp only [decide_eq_true_eq,List.length_map,List.map_map]
 have e:((fun x:SnapR=>x.nm) ∘ SnapC.r)=SnapC.nm:=rfl
 rw [e]
 constructor
 ·rintro ⟨⟨h1,h2,h3,-⟩,h4,h5,-⟩
  exact ⟨h1,fun x hx=>⟨h2 _ (List.mem_map_of_mem hx),h4 _ (List.mem_map_of_mem hx)⟩,(List.pairwise_map (f:=SnapC.r)).1 h3,h5⟩
 ·rintro ⟨h1,h2,h3,h4⟩
  refine ⟨⟨h1,fun x hx=>?_,(List.pairwise_map (f:=SnapC.r)).2 h3,fun q hq=>by cases hq⟩,fun x hx=>?_,h4,fun x hx=>by simp⟩
  ·obtain ⟨y,hy,rfl⟩:=List.mem_map.1 hx
   exact (h2 y hy).1
  ·obtain ⟨y,hy,rfl⟩:=List.mem_map.1 hx
   exact (h2 y hy).2
theorem SetOk.all {l:List SetC} {z:SetC} (h:SetOk l z):propsB z.own=true∧okL z.body=true∧SnapsOk z.snaps∧(z.org=[]∨∃ a b,splitL z.org=some (a,b)∧a≠z.path∧∃ x∈l,x.path=a∧∃ y∈x.snaps,y.nm=b):=by
 refine ⟨h.own,h.body,(snapsB_iff _).1 h.snaps,?_⟩
 rcases h.org with h | ⟨a,b,h1,h2,x,hf,y,hy,e⟩
 ·exact .inl h
 ·exact .inr ⟨a,b,h1,h2,x,List.mem_of_find?_eq_some hf,by simpa using List.find?_some hf,y,hy,e⟩
/-! ### another name -/
end Go.Proofs.YtmladblmknbgnaaGreatDoor
namespace Go.Proofs.YtmladblmknbgnaaGreatDoor
open Go.RowKit
theorem results_cell_tmp2 {P:Program} {fn:Func} {tmps:Array Value} {a b c:Tmp} {t:TypeId} {ad:Addr} {v u x:Value} {w:World} (hr:fn.results=#[.cell a t,.tmp b,.tmp c]) (ha:tmps[a]?.getD undef=.pointer (some ad)) (hl:(loadVar t ad).run P w=.ok v w) (hu:tmps[b]?.getD undef=u:=by rfl) (hx:tmps[c]?.getD undef=x:=by rfl):(results fn tmps).run P w=.ok (.tuple #[v,u,x]) w:=by
 simp [results,hr,ha,hl,hu,hx,asAddr]
theorem found_way (t:TenR) (sl:List SetR) (hs:t.sets.l=sl) (p n:BS) (bad:Bool) (R:Int×Int×Int) (hR:R=t.con.foundS p n bad) :
  (∃ a k E:Int,(E=9∨E=31∨E=71)∧R=(a,k,E))∨∃ (k i:Nat) (hk:k<sl.length) (hi:i<(sl[k]'hk).snaps.l.length),R=((k:Int),(i:Int),0)∧AtS t.con p n bad k∧t.con.sets[k]?=some (sl[k]'hk).con∧(sl[k]'hk).con.snaps[i]?=some ((sl[k]'hk).snaps.l[i]'hi).con∧((sl[k]'hk).snaps.l[i]'hi).nm=n:=by
 subst hs
 rcases t.con.foundS_cases p n bad with ⟨a,k,E,h1,h2⟩ | ⟨k,ha,i,hi,h1,h2,h3⟩
 ·exact .inl ⟨a,k,E,h1,hR.trans h2⟩
 ·have hk:k<t.sets.l.length:=by have:=ha.lt;rwa [show t.con.sets.length=t.sets.l.length from List.length_map ..] at this
  have e:(t.con.sets[k]'ha.lt)=(t.sets.l[k]'hk).con:=List.getElem_map ..
  have hi':i<(t.sets.l[k]'hk).snaps.l.length:=by
   rw [e] at hi
   have:(t.sets.l[k]'hk).con.snaps.length=(t.sets.l[k]'hk).snaps.l.length:=List.length_map ..
   omega
  have e2:(t.sets.l[k]'hk).con.snaps[i]?=some ((t.sets.l[k]'hk).snaps.l[i]'hi').con:=by
   show ((t.sets.l[k]'hk).snaps.l.map SnapR.con)[i]?=_
   rw [List.getElem?_map,List.getElem?_eq_getElem hi']
   rfl
  refine .inr ⟨k,i,hk,hi',hR.trans h1,ha,by rw [List.getElem?_eq_getElem ha.lt,e],e2,?_⟩
  have h4:(t.sets.l[k]'hk).con.snaps[i]?=some ((t.con.sets[k]'ha.lt).snaps[i]'hi):=by rw [← e];exact List.getElem?_eq_getElem hi
  rw [e2] at h4
  injection h4 with h4
  rw [← h4] at h3
  exact h3
theorem asked_way (t:TenR) (sl:List SetR) (hs:t.sets.l=sl) (p n:BS) (bad:Bool) (R:Int×Int×Int) (hR:R=t.con.askS p n bad) :
  (∃ E:Int,(E=9∨E=31∨E=71)∧R=(0,0,E))∨∃ (k:Nat) (hk:k<sl.length),R=((k:Int),(sl[k]'hk).con.findN n,0)∧AtS t.con p n bad k∧t.con.sets[k]?=some (sl[k]'hk).con:=by
 subst hs
 rcases t.con.askS_cases p n bad with ⟨E,h1,h2⟩ | ⟨k,ha,h1⟩
 ·exact .inl ⟨E,h1,hR.trans h2⟩
 ·have hk:k<t.sets.l.length:=by have:=ha.lt;rwa [show t.con.sets.length=t.sets.l.length from List.length_map ..] at this
  have e:(t.con.sets[k]'ha.lt)=(t.sets.l[k]'hk).con:=List.getElem_map ..
  rw [e] at h1
  exact .inr ⟨k,hk,hR.trans h1,ha,by rw [List.getElem?_eq_getElem ha.lt,e]⟩
section
variable {c:TenC} {p n tq:BS} {a k' E:Int} {k i:Nat} {s:SetC} {y:SnapC}
theorem unsnap_bad (h:c.foundS p n false=(a,k',E)) (hE:E≠0):c.unsnap p n=(E,c):=by
 unfold TenC.unsnap
 rw [h,if_pos hE]
theorem unsnap_at (h:c.foundS p n false=((k:Int),(i:Int),0)) (hs:c.sets[k]?=some s) (hy:s.snaps[i]?=some y):c.unsnap p n=if 0<c.clones p n then (44,c) else if 0<y.tags.length then (43,c) else (0,c.putS k (s.dropSnap i)):=by
 unfold TenC.unsnap
 rw [h]
 simp only [Int.toNat_natCast,hs,hy]
 rw [if_neg (by decide)]
theorem snapshot_bad (h:c.askS p n false=(a,k',E)) (hE:E≠0):c.snapshot p n=(E,c):=by
 unfold TenC.snapshot
 rw [h,if_pos hE]
theorem snapshot_at (h:c.askS p n false=((k:Int),k',0)) (hs:c.sets[k]?=some s):c.snapshot p n=if 0≤k' then (6,c) else if s.snaps.length=16 then (3,c) else if 1099511627776≤guidC c.next s.snaps then (15,c) else (c.snapped k s n (guidC c.next s.snaps)).settle:=by
 unfold TenC.snapshot
 rw [h]
 simp only [Int.toNat_natCast,hs]
 rw [if_neg (by decide)]
end
/-! ### rows of sets -/
theorem row_cells {W:World} {base:Nat} {s:FS SetR} (h:s.own W base 42 5 encSet) {k gS:Nat} (hk:k<s.l.length) (hA:s.A=some ⟨gS,0,none⟩) :
  base≤gS∧gS<W.heap.size∧(∀ o,W.frozen? ⟨gS,o,none⟩=false)∧W.cell? ⟨gS,k*5,none⟩=some (.string ⟨(s.l[k]'hk).path.toArray⟩)∧W.cell? ⟨gS,k*5+1,none⟩=some (.string ⟨(s.l[k]'hk).org.toArray⟩)∧W.cell? ⟨gS,k*5+2,none⟩=some (.slice (s.l[k]'hk).body.A (s.l[k]'hk).body.n (s.l[k]'hk).body.c)∧W.cell? ⟨gS,k*5+3,none⟩=some (.slice (s.l[k]'hk).snaps.A (s.l[k]'hk).snaps.n (s.l[k]'hk).snaps.c)∧W.cell? ⟨gS,k*5+4,none⟩=some (.slice (s.l[k]'hk).own.A (s.l[k]'hk).own.n (s.l[k]'hk).own.c):=by
 have hn:=h.1
 obtain ⟨g,cs,hA2,hbg,hb⟩:=h.blk (by omega)
 rw [hA] at hA2
 injection hA2 with hA2
 injection hA2 with hA2
 subst hA2
 obtain ⟨ad,hsa,-,q0,q1,q2,q3,q4⟩:=set_at h.rd.2.2 hn (i:=k) (by omega)
 rw [hA] at hsa
 injection hsa with hsa
 subst hsa
 rw [addr_add0] at q0 q1 q2 q3 q4
 exact ⟨hbg,hb.lt,hb.frozen,q0,q1,q2,q3,q4⟩
theorem dropSnap_con (x:SetR) (i:Nat) (A:Option Addr) (n c:Nat):(x.withSn ⟨A,n,c,x.snaps.l.take i++x.snaps.l.drop (i+1)⟩).con=x.con.dropSnap i:=by
 unfold SetR.withSn SetR.con SetC.dropSnap
 simp only [List.map_append,List.map_take,List.map_drop]
theorem own_ne {w:World} {base g:Nat} {s:FS SnapR} {T:TypeId} {cs:Array Value} (h:s.own w base 70 5 encSnap) (hb:Blk w g T cs) (hT:70≠T):some g≠s.val.ownBlock:=fun e=>own_blk_ne h.2 hb hT e.symm
end Go.Proofs.YtmladblmknbgnaaGreatDoor
namespace Go.Proofs.YtmladblmknbgnaaGreatDoor
open Go.RowKit
theorem TenC.sz.nextN {c:TenC} (h:c.sz) (n:Int):(c.nextN n).sz:=⟨h.nm,h.sets,h.eachS,h.grants,h.eachG,h.stages,h.eachT,h.log,h.eachL⟩
theorem AtS.ok {c:TenC} {p n:BS} {bad:Bool} {k:Nat} (h:AtS c p n bad k):SetOk c.sets (c.sets[k]'h.lt):=((TenC.E_ok c).1 h.E).sets.each _ (List.getElem_mem h.lt)
theorem AtS.snaps {c:TenC} {p n:BS} {bad:Bool} {k:Nat} (h:AtS c p n bad k):SnapsOk (c.sets[k]'h.lt).snaps:=(snapsB_iff _).1 h.ok.snaps
theorem snapped_sz {c:TenC} (h:c.sz) (k:Nat) (s:SetC) (hs:s.sz) (h16:s.snaps.length≤16) (n:BS) (hn:n.length≤4000000000) (g:Int):(c.snapped k s n g).sz:=by
 show ((c.putS k (s.addSnap (snapOf s n g))).nextN (g+1)).sz
 refine TenC.sz.nextN (h.putS (s:=s.addSnap (snapOf s n g)) ⟨hs.path,hs.org,hs.body,?_,fun y hy=>?_,hs.own,hs.props⟩) _
 ·show (s.snaps++[snapOf s n g]).length≤_
  rw [List.length_append,List.length_singleton]
  omega
 ·rcases List.mem_append.1 (show y∈s.snaps++[snapOf s n g] from hy) with hy | hy
  ·exact hs.each y hy
  ·rw [List.mem_singleton] at hy
   subst hy
   exact ⟨hn,hs.body,by simp [snapOf],by simp [snapOf],hs.own,hs.props⟩
/-! ### clones -/
end Go.Proofs.YtmladblmknbgnaaGreatDoor
