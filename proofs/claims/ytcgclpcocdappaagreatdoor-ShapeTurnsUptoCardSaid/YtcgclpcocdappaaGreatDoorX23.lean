/-
  usage.Fits: is what a tenant is charged for at most its quota? tree.Copy: a copy is of one content with the tenant, in memory of its own. A tenant of one's own of which one field of one set is stored.
-/
import Derived.Test.YtcgclpcocdappaaGreatDoorXM1
import Derived.Test.YtcgclpcocdappaaGreatDoorX0
import Derived.Test.YtcgclpcocdappaaGreatDoorX22
import Derived.Test.YtcgclpcocdappaaGreatDoorX5
import Derived.Test.YtcgclpcocdappaaGreatDoorX13
import Derived.Test.YtcgclpcocdappaaGreatDoorX19
import Derived.Test.YtcgclpcocdappaaGreatDoorX3
import Derived.Test.YtcgclpcocdappaaGreatDoorX15
import Derived.Test.YtcgclpcocdappaaGreatDoorX16
import Derived.Test.YtcgclpcocdappaaGreatDoorX9
import Derived.Test.YtcgclpcocdappaaGreatDoorX2
namespace Go.Proofs.YtcgclpcocdappaaGreatDoor
open Go.RowKit
theorem ubody_any (A:Option Addr) (n c:Nat) (w:World) (hn:n≤5000000000000):Calls Tryz.prog 78 #[.slice A n c] w fun e w'=>e=.returned (.int .i64 ((n:Int)+1))∧w'=w:=by
 have hw:IntKind.i64.wrap ((n:Int)+1)=(n:Int)+1:=IntWalk.i64_in _ tZ1
 go_enter Tryz.func78,Tryz.ntmps78
 go_wp2_with fail
 go_ret
 exact ⟨rfl,rfl⟩
set_option maxRecDepth 100000 in
theorem uadd_any (g:Nat) (T:TypeId) (S q:Int) (A:Option Addr) (n c:Nat) (w:World) (hk:Blk w g T #[.int .i64 S,.int .i64 q]) (hn:n≤5000000000000) (h0:0≤S) (h1:S≤4000000000000000000) :
  Calls Tryz.prog 201 #[.pointer (some ⟨g,0,none⟩),.slice A n c] w fun e w'=>e=.returned (.tuple #[])∧Blk w' g T #[.int .i64 (S+((n:Int)+1)),.int .i64 q]∧OnlyIn g (g+1) w w':=by
 have hw:IntKind.i64.wrap (S+((n:Int)+1))=S+((n:Int)+1):=IntWalk.i64_in _ tZ1
 have c0:=hk.drew.cell 0
 have f0:=hk.drew.frozen 0
 simp only [zF,zE] at c0
 have hst:Blk (w.drew.setCell ⟨g,0,none⟩ (.int .i64 (S+((n:Int)+1)))) g T #[.int .i64 (S+((n:Int)+1)),.int .i64 q]:=hk.drew.set_ 0 _
 have HST:=Lib.hid hst
 have HO:Hid (OnlyIn g (g+1) w (w.drew.setCell ⟨g,0,none⟩ (.int .i64 (S+((n:Int)+1))))):=(OnlyIn.of_below (Below.refl _ _).drew (Nat.le_of_lt hk.lt)).trans (OnlyIn.grown (grown_box _ _ _ _) (Nat.le_refl _) tZ1 (Nat.le_of_lt hk.lt))
 clear hst hk
 go_enter Tryz.func201,Tryz.ntmps201
 go_region_with (refine (ubody_any A n c _ hn).mono ?_;rintro e w2 ⟨rfl,rfl⟩)
 all_goals
  go_wp2_with fail
  go_end0
  exact ⟨rfl,HST.out,HO.out⟩
def sumB (l:List SnapR) (k:Nat):Int:=((l.take k).map fun x=>(x.body.n:Int)+1).sum
theorem sumB_zero (l:List SnapR):sumB l 0=0:=by simp [sumB]
theorem sumB_succ (l:List SnapR) (k:Nat) (h:k<l.length):sumB l (k+1)=sumB l k+(((l[k]'h).body.n:Int)+1):=by
 unfold sumB
 exact mZ203
theorem sumB_mono (l:List SnapR) (k:Nat):0≤sumB l k∧sumB l k≤sumB l l.length:=by
 have h0:∀ k,0≤sumB l k:=by
  intro k
  unfold sumB
  induction l.take k with
  | nil=>simp
  | cons x r ih=>simp only [List.map_cons,List.sum_cons];omega
 refine ⟨h0 k,?_⟩
 have h1:sumB l l.length=sumB l k+((l.drop k).map fun x=>(x.body.n:Int)+1).sum:=by
  unfold sumB
  exact mZ204
 have h2:0≤((l.drop k).map fun x=>(x.body.n:Int)+1).sum:=by
  induction l.drop k with
  | nil=>simp
  | cons x r ih=>simp only [List.map_cons,List.sum_cons];omega
 omega
/-- what a set adds -/
def setSum (x:SetR):Int:=((x.body.n:Int)+1)+sumB x.snaps.l x.snaps.l.length
set_option maxRecDepth 100000 in
set_option maxHeartbeats 2000000 in
theorem ubodies_any (x:SetR) (g:Nat) (T:TypeId) (S q:Int) (w:World) (B:Nat) (hr:x.rd w B) (hz:x.sz) (hB:B≤g) (hk:Blk w g T #[.int .i64 S,.int .i64 q]) (h0:0≤S) (h1:S+setSum x≤4000000000000000000) :
  Calls Tryz.prog 214 #[.agg (encSet x).toArray,.func (.func 201) #[.pointer (some ⟨g,0,none⟩)] #[]] w fun e w'=>e=.returned (.tuple #[])∧Blk w' g T #[.int .i64 (S+setSum x),.int .i64 q]∧OnlyIn g (g+1) w w':=by
 obtain ⟨pa,og,⟨bA,bn,bc,bl⟩,⟨zA,zn,zc,zl⟩,⟨oA,on,oc,ol⟩⟩:=x
 have hsm:setSum ⟨pa,og,⟨bA,bn,bc,bl⟩,⟨zA,zn,zc,zl⟩,⟨oA,on,oc,ol⟩⟩=((bn:Int)+1)+sumB zl zl.length:=rfl
 rw [hsm] at h1 ⊢
 have HZN:Hid (zn=zl.length):=hr.snaps.1
 have hmn:bn≤1000000000000:=hz.body
 have hzn:zn≤1000000000000:=hz.snaps
 have hm:=sumB_mono zl
 have hgw:=hk.lt
 have kx:=Blk.new w 42 #[.string ⟨pa.toArray⟩,.string ⟨og.toArray⟩,.slice bA bn bc,.slice zA zn zc,.slice oA on oc]
 obtain ⟨W1,hW1⟩:∃ W,W=w.alloc (.cells #[.string ⟨pa.toArray⟩,.string ⟨og.toArray⟩,.slice bA bn bc,.slice zA zn zc,.slice oA on oc] 42):=⟨_,rfl⟩
 have hs1:W1.heap.size=w.heap.size+1:=tZ55
 have hb1:Below w.heap.size w W1:=by rw [hW1];exact (Below.refl _ _).alloc (Nat.le_refl _) _
 rw [← hW1] at kx
 have HR:Hid (∀ W,OnlyIn g (g+1) W1 W→SetR.rd W B ⟨pa,og,⟨bA,bn,bc,bl⟩,⟨zA,zn,zc,zl⟩,⟨oA,on,oc,ol⟩⟩):=by
  show ∀ W,_→_
  intro W hW
  have hb:Below B w W:=(hb1.mono tZ1).trans (hW.low.mono hB)
  exact ⟨hr.body.below hb,hr.snaps.below hb,fun y hy=>⟨(hr.each y hy).body.below hb,(hr.each y hy).tags.below hb,(hr.each y hy).own.below hb⟩,hr.own.below hb⟩
 have HX:Hid (∀ W,OnlyIn g (g+1) W1 W→W.cell? ⟨w.heap.size,2,none⟩=some (.slice bA bn bc)∧W.cell? ⟨w.heap.size,3,none⟩=some (.slice zA zn zc)):=by
  show ∀ W,_→_
  intro W hW
  have hb:Blk W w.heap.size 42 #[.string ⟨pa.toArray⟩,.string ⟨og.toArray⟩,.slice bA bn bc,.slice zA zn zc,.slice oA on oc]:=(hW.high _ tZ1 tZ1).trans kx
  exact ⟨hb.cell 2,hb.cell 3⟩
 have HZ:=Lib.hid hz
 have hcl:=uadd_any g T S q bA bn bc W1 (hk.below hb1 hgw) tZ1 h0 (by have:=(hm zl.length).1;omega)
 obtain ⟨c2,c3⟩:=HX.out W1 (OnlyIn.refl _ _ _)
 have HO0:Hid (OnlyIn g (g+1) w W1):=OnlyIn.of_below hb1 tZ1
 have HM:=Lib.hid hm
 have HH1:=Lib.hid h1
 clear kx hr hz hk hb1 hsm hm
 show Calls Tryz.prog 214 #[.agg #[.string ⟨pa.toArray⟩,.string ⟨og.toArray⟩,.slice bA bn bc,.slice zA zn zc,.slice oA on oc],.func (.func 201) #[.pointer (some ⟨g,0,none⟩)] #[]] w _
 go_enter Tryz.func214,Tryz.ntmps214
 go_wp2_with fail
 rw [← hW1]
 clear hW1
 refine hcl.mono ?_
 clear hcl c2 c3
 rintro e w2 ⟨rfl,hk2,ho2⟩
 have HK2:=Lib.hid hk2
 have HO2:=Lib.hid ho2
 clear hk2 ho2
 obtain ⟨c2,c3⟩:=HX.out w2 HO2.out
 go_wp2_with fail
 go_loopw [13] (fun j wr=>∃ k:Nat,k≤zn∧j=.int .i64 (k:Int)∧Hid (Blk wr g T #[.int .i64 (S+((bn:Int)+1)+sumB zl k),.int .i64 q])∧Hid (OnlyIn g (g+1) W1 wr)) (fun j _=>zn-(intOf j).toNat)
 case atStart=>exact ⟨0,Nat.zero_le _,rfl,by show Blk _ _ _ _;rw [sumB_zero,Int.add_zero];exact HK2.out,HO2.out⟩
 case round =>
  clear HK2 HO2 c2 c3
  obtain ⟨k,hk,rfl,HK,HO⟩:=hrel
  obtain ⟨c2,c3⟩:=HX.out wr HO.out
  by_cases hlt:k<zn
  ·have hki:(k:Int)<(zn:Int):=tZ1
   have hkl:k<zl.length:=tZ175
   obtain ⟨ad,hsa,-,r0,r1,r2,r3,r4⟩:=snap_at (HR.out wr HO.out).snaps.2.2 HZN.out hlt
   simp only at hsa
   subst hsa
   have hsz:=HZ.out.each _ (List.getElem_mem hkl)
   have hss:=sumB_succ zl k hkl
   obtain ⟨y,hy⟩:∃ y,y=zl[k]'hkl:=⟨_,rfl⟩
   simp only at r0 r1 r2 r3 r4
   rw [← hy] at r0 r1 r2 r3 r4 hsz hss
   clear hy
   obtain ⟨ynm,ygd,⟨yb1,ybn,yb3,ybl⟩,⟨yt1,ytn,yt3,ytl⟩,⟨yo1,yon,yo3,yol⟩⟩:=y
   simp only at r0 r1 r2 r3 r4
   have hyn:ybn≤1000000000000:=hsz.body
   have HSS:Hid (sumB zl (k+1)=sumB zl k+((ybn:Int)+1)):=hss
   have hbd:0≤S+((bn:Int)+1)+sumB zl k∧S+((bn:Int)+1)+sumB zl k≤4000000000000000000:=by
    have h1:=HM.out k
    have h2:=HH1.out
    omega
   have hgs:=HK.out.lt
   have hcl:=uadd_any g T (S+((bn:Int)+1)+sumB zl k) q yb1 ybn yb3 (wr.alloc (.cells #[.string ⟨ynm.toArray⟩,.int .i64 ygd,.slice yb1 ybn yb3,.slice yt1 ytn yt3,.slice yo1 yon yo3] 57)) (HK.out.alloc _) tZ1 hbd.1 hbd.2
   have HOA:Hid (OnlyIn g (g+1) W1 (wr.alloc (.cells #[.string ⟨ynm.toArray⟩,.int .i64 ygd,.slice yb1 ybn yb3,.slice yt1 ytn yt3,.slice yo1 yon yo3] 57))):=HO.out.trans (OnlyIn.of_below ((Below.refl wr.heap.size wr).alloc (Nat.le_refl _) _) tZ1)
   clear hsz hss hbd HK HO
   go_wp2_with fail
   refine hcl.mono ?_
   clear hcl r0 r1 r2 r3 r4
   rintro e w3 ⟨rfl,hk3,ho3⟩
   have HK3:Hid (Blk w3 g T #[.int .i64 (S+((bn:Int)+1)+sumB zl (k+1)),.int .i64 q]):=by
    show Blk _ _ _ _
    rw [HSS.out,← Int.add_assoc]
    exact hk3
   have HO3:=Lib.hid (HOA.out.trans ho3)
   clear hk3 ho3 HOA HSS
   go_wp2_with fail
   go_roundw
   case rel=>exact ⟨k+1,by omega,by go_num,HK3,HO3⟩
   case measure=>simp [intOf];omega
  ·obtain rfl:k=zn:=tZ1
   go_wp2_with fail
   go_end0
   refine ⟨rfl,?_,HO0.out.trans HO.out⟩
   have h:=HK.out
   rw [← Int.add_assoc,← HZN.out]
   exact h
set_option maxRecDepth 100000 in
theorem uset_any (x:SetR) (g:Nat) (T:TypeId) (S q:Int) (w:World) (B:Nat) (hr:x.rd w B) (hz:x.sz) (hB:B≤g) (hk:Blk w g T #[.int .i64 S,.int .i64 q]) (h0:0≤S) (h1:S+setSum x≤4000000000000000000) :
  Calls Tryz.prog 200 #[.pointer (some ⟨g,0,none⟩),.agg (encSet x).toArray] w fun e w'=>e=.returned (.tuple #[])∧Blk w' g T #[.int .i64 (S+setSum x),.int .i64 q]∧OnlyIn g (g+1) w w':=by
 have hb1:Below w.heap.size w (w.alloc (.cells (encSet x).toArray 42)):=(Below.refl _ _).alloc (Nat.le_refl _) _
 have hgw:=hk.lt
 have hcl:=ubodies_any x g T S q (w.alloc (.cells (encSet x).toArray 42)) B ⟨hr.body.below (hb1.mono tZ1),hr.snaps.below (hb1.mono tZ1),fun y hy=>⟨(hr.each y hy).body.below (hb1.mono tZ1),(hr.each y hy).tags.below (hb1.mono tZ1),(hr.each y hy).own.below (hb1.mono tZ1)⟩,hr.own.below (hb1.mono tZ1)⟩ hz hB (hk.alloc _) h0 h1
 obtain ⟨sm,hsm⟩:∃ v,v=setSum x:=⟨_,rfl⟩
 rw [← hsm] at hcl ⊢
 have HO0:Hid (OnlyIn g (g+1) w (w.alloc (.cells (encSet x).toArray 42))):=OnlyIn.of_below hb1 tZ1
 clear hb1 hk hr hz hsm h1
 obtain ⟨pa,og,⟨bA,bn,bc,bl⟩,⟨zA,zn,zc,zl⟩,⟨oA,on,oc,ol⟩⟩:=x
 have hcl2:Calls Tryz.prog 214 #[.agg #[.string ⟨pa.toArray⟩,.string ⟨og.toArray⟩,.slice bA bn bc,.slice zA zn zc,.slice oA on oc],.func (.func 201) #[.pointer (some ⟨g,0,none⟩)] #[]] (w.alloc (.cells #[.string ⟨pa.toArray⟩,.string ⟨og.toArray⟩,.slice bA bn bc,.slice zA zn zc,.slice oA on oc] 42)) _:=hcl
 have HO1:Hid (OnlyIn g (g+1) w (w.alloc (.cells #[.string ⟨pa.toArray⟩,.string ⟨og.toArray⟩,.slice bA bn bc,.slice zA zn zc,.slice oA on oc] 42))):=HO0.out
 clear hcl HO0
 show Calls Tryz.prog 200 #[.pointer (some ⟨g,0,none⟩),.agg #[.string ⟨pa.toArray⟩,.string ⟨og.toArray⟩,.slice bA bn bc,.slice zA zn zc,.slice oA on oc]] w _
 go_enter Tryz.func200,Tryz.ntmps200
 go_wp2_with fail
 refine hcl2.mono ?_
 clear hcl2
 rintro e w2 ⟨rfl,hk2,ho2⟩
 go_wp2_with fail
 go_end0
 exact ⟨rfl,hk2,HO1.out.trans ho2⟩
def sumS (l:List SetR) (k:Nat):Int:=((l.take k).map setSum).sum
def sumG (l:List StageR) (k:Nat):Int:=((l.take k).map fun x=>(x.body.n:Int)+1).sum
theorem setSum_nonneg (x:SetR):0≤setSum x:=by
 have:=(sumB_mono x.snaps.l x.snaps.l.length).1
 unfold setSum
 omega
theorem sum_nonneg {α:Type} (f:α→Int) (hf:∀ a,0≤f a) (l:List α):0≤(l.map f).sum:=by
 induction l with
 | nil=>simp
 | cons x r ih=>have:=hf x;simp only [List.map_cons,List.sum_cons];omega
theorem sumS_succ (l:List SetR) (k:Nat) (h:k<l.length):sumS l (k+1)=sumS l k+setSum (l[k]'h):=by
 unfold sumS
 exact mZ203
theorem sumG_succ (l:List StageR) (k:Nat) (h:k<l.length):sumG l (k+1)=sumG l k+(((l[k]'h).body.n:Int)+1):=by
 unfold sumG
 exact mZ203
theorem sumS_mono (l:List SetR) (k:Nat):0≤sumS l k∧sumS l k≤sumS l l.length:=by
 refine ⟨sum_nonneg _ setSum_nonneg _,?_⟩
 have h1:sumS l l.length=sumS l k+((l.drop k).map setSum).sum:=by
  unfold sumS
  exact mZ204
 have:=sum_nonneg _ setSum_nonneg (l.drop k)
 omega
theorem sumG_mono (l:List StageR) (k:Nat):0≤sumG l k∧sumG l k≤sumG l l.length:=by
 refine ⟨sum_nonneg _ (fun _=>by omega) _,?_⟩
 have h1:sumG l l.length=sumG l k+((l.drop k).map fun x=>(x.body.n:Int)+1).sum:=by
  unfold sumG
  exact mZ204
 have:=sum_nonneg (fun x:StageR=>(x.body.n:Int)+1) (fun _=>by omega) (l.drop k)
 omega
/-- what a tenant is charged for, as it lies -/
def tenSum (t:TenR):Int:=sumS t.sets.l t.sets.l.length+sumG t.stages.l t.stages.l.length
set_option maxRecDepth 100000 in
set_option maxHeartbeats 4000000 in
theorem counted_any (t:TenR) (w:World) (B:Nat) (hB:B≤w.heap.size) (hr:t.rd w B) (hz:t.sz) (hs:tenSum t≤4000000000000000000) :
  Calls Tryz.prog 175 #[t.val] w fun e w'=>∃ g,e=.returned (.pointer (some ⟨g,0,none⟩))∧Blk w' g 218 #[.int .i64 (tenSum t),.int .i64 t.quota]∧Below w.heap.size w w':=by
 obtain ⟨nm,qu,nx,⟨s1,sn,s3,sl⟩,⟨g1,gn,g3,gl⟩,⟨t1,tn,t3,tl⟩,⟨l1,ln,l3,ll⟩⟩:=t
 have hts:tenSum ⟨nm,qu,nx,⟨s1,sn,s3,sl⟩,⟨g1,gn,g3,gl⟩,⟨t1,tn,t3,tl⟩,⟨l1,ln,l3,ll⟩⟩=sumS sl sl.length+sumG tl tl.length:=rfl
 rw [hts] at hs ⊢
 show Calls Tryz.prog 175 #[.agg #[.string ⟨nm.toArray⟩,.int .i64 qu,.int .i64 nx,.slice s1 sn s3,.slice g1 gn g3,.slice t1 tn t3,.slice l1 ln l3]] w _
 have HSN:Hid (sn=sl.length):=hr.sets.1
 have HTN:Hid (tn=tl.length):=hr.stages.1
 have hsn:sn≤1000000000000:=hz.sets
 have htn:tn≤1000000000000:=hz.stages
 have hb2:=((Below.refl w.heap.size w).alloc (Nat.le_refl _) (.cells #[.string ⟨nm.toArray⟩,.int .i64 qu,.int .i64 nx,.slice s1 sn s3,.slice g1 gn g3,.slice t1 tn t3,.slice l1 ln l3] 27)).alloc tZ3 (.cells #[.int .i64 0,.int .i64 qu] 218)
 have kT:=(Blk.new w 27 #[.string ⟨nm.toArray⟩,.int .i64 qu,.int .i64 nx,.slice s1 sn s3,.slice g1 gn g3,.slice t1 tn t3,.slice l1 ln l3]).alloc (.cells #[.int .i64 0,.int .i64 qu] 218)
 have kU:=Blk.new (w.alloc (.cells #[.string ⟨nm.toArray⟩,.int .i64 qu,.int .i64 nx,.slice s1 sn s3,.slice g1 gn g3,.slice t1 tn t3,.slice l1 ln l3] 27)) 218 #[.int .i64 0,.int .i64 qu]
 rw [show (w.alloc (.cells #[.string ⟨nm.toArray⟩,.int .i64 qu,.int .i64 nx,.slice s1 sn s3,.slice g1 gn g3,.slice t1 tn t3,.slice l1 ln l3] 27)).heap.size=w.heap.size+1 by simp] at kU
 obtain ⟨W2,hW2⟩:∃ W,W=(w.alloc (.cells #[.string ⟨nm.toArray⟩,.int .i64 qu,.int .i64 nx,.slice s1 sn s3,.slice g1 gn g3,.slice t1 tn t3,.slice l1 ln l3] 27)).alloc (.cells #[.int .i64 0,.int .i64 qu] 218):=⟨_,rfl⟩
 have hsz:W2.heap.size=w.heap.size+2:=tZ53
 rw [← hW2] at hb2 kT kU
 have HR:Hid (∀ W,OnlyIn (w.heap.size+1) (w.heap.size+1+1) W2 W→TenR.rd W B ⟨nm,qu,nx,⟨s1,sn,s3,sl⟩,⟨g1,gn,g3,gl⟩,⟨t1,tn,t3,tl⟩,⟨l1,ln,l3,ll⟩⟩):=by
  show ∀ W,_→_
  intro W hW
  exact TenR.rd.below hr ((hb2.trans (hW.low.mono tZ1)).mono hB)
 have HX:Hid (∀ W,OnlyIn (w.heap.size+1) (w.heap.size+1+1) W2 W→W.cell? ⟨w.heap.size,3,none⟩=some (.slice s1 sn s3)∧W.cell? ⟨w.heap.size,5,none⟩=some (.slice t1 tn t3)):=by
  show ∀ W,_→_
  intro W hW
  have hk:=kT.below hW.low tZ1
  exact ⟨hk.cell 3,hk.cell 5⟩
 have HB2:=Lib.hid hb2
 have HZ:=Lib.hid hz
 have HS:=Lib.hid hs
 have HSZ:=Lib.hid hsz
 have HKU:=Lib.hid kU
 clear hb2 kT kU hz hr hts hs hsz
 go_enter Tryz.func175,Tryz.ntmps175
 go_wp2_with fail
 rw [← hW2]
 clear hW2
 go_loopw [15] (fun j wr=>∃ k:Nat,k≤sn∧j=.int .i64 (k:Int)∧Hid (Blk wr (w.heap.size+1) 218 #[.int .i64 (sumS sl k),.int .i64 qu])∧Hid (OnlyIn (w.heap.size+1) (w.heap.size+1+1) W2 wr)) (fun j _=>sn-(intOf j).toNat)
 case atStart=>exact ⟨0,Nat.zero_le _,rfl,by show Blk _ _ _ _;simpa [sumS] using HKU.out,OnlyIn.refl _ _ _⟩
 case round =>
  obtain ⟨k,hk,rfl,HK,HO⟩:=hrel
  by_cases hlt:k<sn
  ·have hki:(k:Int)<(sn:Int):=tZ1
   have hkl:k<sl.length:=tZ113
   obtain ⟨ad,hsa,-,p0,p1,p2,p3,p4⟩:=set_at (HR.out wr HO.out).sets.2.2 HSN.out hlt
   simp only at hsa
   subst hsa
   have hss:=sumS_succ sl k hkl
   have hmo:=(sumS_mono sl (k+1)).2
   have hm0:=(sumS_mono sl k).1
   have hg0:=(sumG_mono tl tl.length).1
   have hrx:=(HR.out wr HO.out).eachS _ (List.getElem_mem hkl)
   have hzx:=HZ.out.eachS _ (List.getElem_mem hkl)
   obtain ⟨x,hx⟩:∃ x,x=sl[k]'hkl:=⟨_,rfl⟩
   simp only at p0 p1 p2 p3 p4
   rw [← hx] at p0 p1 p2 p3 p4 hss hrx hzx
   clear hx
   have hgs:=HK.out.lt
   have hba:=(Below.refl wr.heap.size wr).alloc (Nat.le_refl _) (.cells (encSet x).toArray 42)
   have hcl:=uset_any x (w.heap.size+1) 218 (sumS sl k) qu (wr.alloc (.cells (encSet x).toArray 42)).drew B ⟨hrx.body.below (hba.drew.mono tZ1),hrx.snaps.below (hba.drew.mono tZ1),fun y hy=>⟨(hrx.each y hy).body.below (hba.drew.mono tZ1),(hrx.each y hy).tags.below (hba.drew.mono tZ1),(hrx.each y hy).own.below (hba.drew.mono tZ1)⟩,hrx.own.below (hba.drew.mono tZ1)⟩ hzx tZ1 (HK.out.alloc _).drew hm0 (by rw [← hss];have:=HS.out;omega)
   have HOA:Hid (OnlyIn (w.heap.size+1) (w.heap.size+1+1) W2 (wr.alloc (.cells (encSet x).toArray 42)).drew):=HO.out.trans (OnlyIn.of_below hba.drew tZ1)
   rw [← hss] at hcl
   obtain ⟨S1,hS1⟩:∃ v,v=sumS sl (k+1):=⟨_,rfl⟩
   rw [← hS1] at hcl
   have HS1:=Lib.hid hS1
   have kx:=(Blk.new wr 42 (encSet x).toArray)
   clear hss hmo hm0 hg0 hrx hzx hba HK HO hS1
   obtain ⟨pa,og,⟨bA,bn,bc,bl⟩,⟨zA,zn,zc,zl⟩,⟨oA,on,oc,ol⟩⟩:=x
   have hcl2:Calls Tryz.prog 200 #[.pointer (some ⟨w.heap.size+1,0,none⟩),.agg #[.string ⟨pa.toArray⟩,.string ⟨og.toArray⟩,.slice bA bn bc,.slice zA zn zc,.slice oA on oc]] (wr.alloc (.cells #[.string ⟨pa.toArray⟩,.string ⟨og.toArray⟩,.slice bA bn bc,.slice zA zn zc,.slice oA on oc] 42)).drew _:=hcl
   have HOB:Hid (OnlyIn (w.heap.size+1) (w.heap.size+1+1) W2 (wr.alloc (.cells #[.string ⟨pa.toArray⟩,.string ⟨og.toArray⟩,.slice bA bn bc,.slice zA zn zc,.slice oA on oc] 42)).drew):=HOA.out
   clear hcl HOA kx
   simp only at p0 p1 p2 p3 p4
   obtain ⟨c3,c5⟩:=(HX.out W2 (OnlyIn.refl _ _ _))
   go_wp2_with fail
   go_region_with (refine hcl2.mono ?_;rintro e w3 ⟨rfl,hk3,ho3⟩)
   all_goals
    have HK3:Hid (Blk w3 (w.heap.size+1) 218 #[.int .i64 (sumS sl (k+1)),.int .i64 qu]):=by
     show Blk _ _ _ _
     rw [← HS1.out]
     exact hk3
    have HO3:=Lib.hid (HOB.out.trans ho3)
    clear hk3 ho3 HOB HS1
    go_wp2_with fail
    go_roundw
    case rel=>exact ⟨k+1,by omega,by go_num,HK3,HO3⟩
    case measure=>simp [intOf];omega
  ·obtain rfl:k=sn:=tZ1
   have HK1:Hid (Blk wr (w.heap.size+1) 218 #[.int .i64 (sumS sl sl.length+sumG tl 0),.int .i64 qu]):=by
    show Blk _ _ _ _
    have h:=HK.out
    rw [HSN.out] at h
    simpa [sumG] using h
   obtain ⟨c3,c5⟩:=HX.out wr HO.out
   clear HK
   go_wp2_with fail
   go_loopw [28] (fun j wq=>∃ k:Nat,k≤tn∧j=.int .i64 (k:Int)∧Hid (Blk wq (w.heap.size+1) 218 #[.int .i64 (sumS sl sl.length+sumG tl k),.int .i64 qu])∧Hid (OnlyIn (w.heap.size+1) (w.heap.size+1+1) W2 wq)) (fun j _=>tn-(intOf j).toNat)
   case atStart=>exact ⟨0,Nat.zero_le _,rfl,HK1,HO⟩
   case round =>
    clear HK1 HO c3 c5
    obtain ⟨m,hm,rfl,HK,HO⟩:=hrel
    by_cases hlt:m<tn
    ·have hki:(m:Int)<(tn:Int):=tZ1
     have hkl:m<tl.length:=tZ112
     obtain ⟨ad,hsa,-,hel⟩:=Reads.elAll (enc:=encStage) (k:=21) (fun _=>rfl) (HR.out wr HO.out).stages.2.2 HTN.out hlt
     simp only at hsa
     subst hsa
     have hss:=sumG_succ tl m hkl
     have hmo:=(sumG_mono tl (m+1)).2
     have hm0:=(sumG_mono tl m).1
     have hg0:=(sumS_mono sl sl.length).1
     have hzx:=HZ.out.eachT _ (List.getElem_mem hkl)
     obtain ⟨x,hx⟩:∃ x,x=tl[m]'hkl:=⟨_,rfl⟩
     simp only at hel
     rw [← hx] at hel hss hzx
     clear hx
     obtain ⟨qinto,qkind,qnm,qfrm,qgd,⟨qo1,qon,qo3,qol⟩,qix,qct,qdt,⟨qsa,qsb,qsc,qsd⟩,⟨qb1,qbn,qb3,qbl⟩,qat,qnx,⟨qua,qub,quc,qud⟩,qdone⟩:=x
     have HEL:Hid (∀ j v,([.string ⟨qinto.toArray⟩,.int .i64 qkind,.string ⟨qnm.toArray⟩,.int .i64 qfrm,.int .i64 qgd,.slice qo1 qon qo3,.int .i64 qix,.int .i64 qct,.string ⟨qdt.toArray⟩,.int .u64 qsa,.int .u64 qsb,.int .u64 qsc,.int .u64 qsd,.slice qb1 qbn qb3,.int .i64 qat,.int .i64 qnx,.int .u64 qua,.int .u64 qub,.int .u64 quc,.int .u64 qud,.bool qdone]:List Value)[j]?=some v→wr.cell? ((ad.add (m*21)).add j)=some v):=hel
     have hqn:qbn≤1000000000000:=hzx.body
     have HSS:Hid (sumG tl (m+1)=sumG tl m+((qbn:Int)+1)):=hss
     have hgs:=HK.out.lt
     have hba:=(Below.refl wr.heap.size wr).alloc (Nat.le_refl _) (.cells #[.string ⟨qinto.toArray⟩,.int .i64 qkind,.string ⟨qnm.toArray⟩,.int .i64 qfrm,.int .i64 qgd,.slice qo1 qon qo3,.int .i64 qix,.int .i64 qct,.string ⟨qdt.toArray⟩,.int .u64 qsa,.int .u64 qsb,.int .u64 qsc,.int .u64 qsd,.slice qb1 qbn qb3,.int .i64 qat,.int .i64 qnx,.int .u64 qua,.int .u64 qub,.int .u64 quc,.int .u64 qud,.bool qdone] 103)
     have hcl:=uadd_any (w.heap.size+1) 218 (sumS sl sl.length+sumG tl m) qu qb1 qbn qb3 (wr.alloc (.cells #[.string ⟨qinto.toArray⟩,.int .i64 qkind,.string ⟨qnm.toArray⟩,.int .i64 qfrm,.int .i64 qgd,.slice qo1 qon qo3,.int .i64 qix,.int .i64 qct,.string ⟨qdt.toArray⟩,.int .u64 qsa,.int .u64 qsb,.int .u64 qsc,.int .u64 qsd,.slice qb1 qbn qb3,.int .i64 qat,.int .i64 qnx,.int .u64 qua,.int .u64 qub,.int .u64 quc,.int .u64 qud,.bool qdone] 103)).drew (HK.out.alloc _).drew tZ1 tZ1 (by have:=HS.out;omega)
     have HOA:Hid (OnlyIn (w.heap.size+1) (w.heap.size+1+1) W2 (wr.alloc (.cells #[.string ⟨qinto.toArray⟩,.int .i64 qkind,.string ⟨qnm.toArray⟩,.int .i64 qfrm,.int .i64 qgd,.slice qo1 qon qo3,.int .i64 qix,.int .i64 qct,.string ⟨qdt.toArray⟩,.int .u64 qsa,.int .u64 qsb,.int .u64 qsc,.int .u64 qsd,.slice qb1 qbn qb3,.int .i64 qat,.int .i64 qnx,.int .u64 qua,.int .u64 qub,.int .u64 quc,.int .u64 qud,.bool qdone] 103)).drew):=HO.out.trans (OnlyIn.of_below hba.drew tZ1)
     have e13:=(Blk.new wr 103 #[.string ⟨qinto.toArray⟩,.int .i64 qkind,.string ⟨qnm.toArray⟩,.int .i64 qfrm,.int .i64 qgd,.slice qo1 qon qo3,.int .i64 qix,.int .i64 qct,.string ⟨qdt.toArray⟩,.int .u64 qsa,.int .u64 qsb,.int .u64 qsc,.int .u64 qsd,.slice qb1 qbn qb3,.int .i64 qat,.int .i64 qnx,.int .u64 qua,.int .u64 qub,.int .u64 quc,.int .u64 qud,.bool qdone]).drew.cell 13
     simp only [zF,zD,zE] at e13
     clear hss hmo hm0 hg0 hzx hba HK HO hel
     go_wp2_with (first | (refine wpList_load_at rfl 103 (.tmp 30) rfl (ad.add (m*21)) rfl [.string ⟨qinto.toArray⟩,.int .i64 qkind,.string ⟨qnm.toArray⟩,.int .i64 qfrm,.int .i64 qgd,.slice qo1 qon qo3,.int .i64 qix,.int .i64 qct,.string ⟨qdt.toArray⟩,.int .u64 qsa,.int .u64 qsb,.int .u64 qsc,.int .u64 qsd,.slice qb1 qbn qb3,.int .i64 qat,.int .i64 qnx,.int .u64 qua,.int .u64 qub,.int .u64 quc,.int .u64 qud,.bool qdone] _ HEL.out Tryz.underlying103 rfl tZ2 ?_) | (refine wpList_store_new wr rfl 103 (.tmp 7) (.tmp 31) rfl 103 _ [.string ⟨qinto.toArray⟩,.int .i64 qkind,.string ⟨qnm.toArray⟩,.int .i64 qfrm,.int .i64 qgd,.slice qo1 qon qo3,.int .i64 qix,.int .i64 qct,.string ⟨qdt.toArray⟩,.int .u64 qsa,.int .u64 qsb,.int .u64 qsc,.int .u64 qsd,.slice qb1 qbn qb3,.int .i64 qat,.int .i64 qnx,.int .u64 qua,.int .u64 qub,.int .u64 quc,.int .u64 qud,.bool qdone] rfl rfl rfl tZ2 tZ5 ?_))
     go_region_with (refine hcl.mono ?_;rintro e w3 ⟨rfl,hk3,ho3⟩)
     all_goals
      have HK3:Hid (Blk w3 (w.heap.size+1) 218 #[.int .i64 (sumS sl sl.length+sumG tl (m+1)),.int .i64 qu]):=by
       show Blk _ _ _ _
       rw [HSS.out,← Int.add_assoc]
       exact hk3
      have HO3:=Lib.hid (HOA.out.trans ho3)
      clear hk3 ho3 HOA HSS e13 HEL
      go_wp2_with fail
      go_roundw
      case rel=>exact ⟨m+1,by omega,by go_num,HK3,HO3⟩
      case measure=>simp [intOf];omega
    ·obtain rfl:m=tn:=tZ1
     go_wp2_with fail
     go_ret
     refine ⟨w.heap.size+1,rfl,?_,HB2.out.trans (HO.out.low.mono tZ1)⟩
     have h:=HK.out
     rw [HTN.out] at h
     exact h
set_option maxRecDepth 100000 in
theorem uover_any (g:Nat) (S q:Int) (w:World) (hk:Blk w g 218 #[.int .i64 S,.int .i64 q]) :
  Calls Tryz.prog 176 #[.pointer (some ⟨g,0,none⟩)] w fun e w'=>e=.returned (.bool (decide (q<S)))∧Below w.heap.size w w':=by
 have c0:=hk.cell 0
 have c1:=hk.cell 1
 simp only [zF,zD,zE] at c0 c1
 clear hk
 by_cases h:q<S
 ·have hd:Hid (decide (q<S)=true):=decide_eq_true h
  exact mZ205
 ·have hd:Hid (decide (q<S)=false):=decide_eq_false h
  exact mZ205
set_option maxRecDepth 100000 in
set_option maxHeartbeats 2000000 in
theorem fits_any (t:TenR) (w:World) (B:Nat) (hB:B≤w.heap.size) (hr:t.rd w B) (hz:t.sz) (hs:tenSum t≤4000000000000000000) :
  Calls Tryz.prog 114 #[t.val] w fun e w'=>e=.returned (.bool (decide (tenSum t≤t.quota)))∧Below w.heap.size w w':=by
 have hba:=(Below.refl w.heap.size w).alloc (Nat.le_refl _) (.cells t.cells.toArray 27)
 have hc:=counted_any t (w.alloc (.cells t.cells.toArray 27)) B tZ6 (TenR.rd.below hr (hba.mono hB)) hz hs
 have kT:=Blk.new w 27 t.cells.toArray
 obtain ⟨S,hS⟩:∃ S,S=tenSum t:=⟨_,rfl⟩
 rw [← hS] at hc ⊢
 clear hS hr hz hs
 obtain ⟨nm,qu,nx,⟨s1,sn,s3,sl⟩,⟨g1,gn,g3,gl⟩,⟨t1,tn,t3,tl⟩,⟨l1,ln,l3,ll⟩⟩:=t
 have hc2:Calls Tryz.prog 175 #[.agg #[.string ⟨nm.toArray⟩,.int .i64 qu,.int .i64 nx,.slice s1 sn s3,.slice g1 gn g3,.slice t1 tn t3,.slice l1 ln l3]] (w.alloc (.cells #[.string ⟨nm.toArray⟩,.int .i64 qu,.int .i64 nx,.slice s1 sn s3,.slice g1 gn g3,.slice t1 tn t3,.slice l1 ln l3] 27)) _:=hc
 have HBA:Hid (Below w.heap.size w (w.alloc (.cells #[.string ⟨nm.toArray⟩,.int .i64 qu,.int .i64 nx,.slice s1 sn s3,.slice g1 gn g3,.slice t1 tn t3,.slice l1 ln l3] 27))):=hba
 clear hc hba kT
 show Calls Tryz.prog 114 #[.agg #[.string ⟨nm.toArray⟩,.int .i64 qu,.int .i64 nx,.slice s1 sn s3,.slice g1 gn g3,.slice t1 tn t3,.slice l1 ln l3]] w fun e w'=>e=.returned (.bool (decide (S≤qu)))∧Below w.heap.size w w'
 go_enter Tryz.func114,Tryz.ntmps114
 go_wp2_with fail
 refine hc2.mono ?_
 clear hc2
 rintro e w2 ⟨g,rfl,hk,hb2⟩
 have ho:=uover_any g S qu w2 hk
 have HB2:=Lib.hid (HBA.out.trans (hb2.mono HBA.out.size))
 clear hk hb2 HBA
 have hq:(!decide (qu<S))=decide (S≤qu):=by
  by_cases h:qu<S
  ·simp [h,Int.not_le.2 h]
  ·simp [h,Int.not_lt.1 h]
 go_wp2_with fail
 refine ho.mono ?_
 clear ho
 rintro e w3 ⟨rfl,hb3⟩
 go_wp2_with fail
 go_ret
 exact ⟨by rw [← hq];rfl,HB2.out.trans (hb3.mono HB2.out.size)⟩
end Go.Proofs.YtcgclpcocdappaaGreatDoor
namespace Go.Proofs.YtcgclpcocdappaaGreatDoor
open Go.RowKit
theorem keptSnap:Kept (fun b w (y:SnapR)=>SnapO w b y):=⟨fun _ _ _ _ h hb=>h.below hb,fun _ _ _ _ _ h hg hl=>h.kept hg hl,fun _ _ _ _ h hb=>h.mono hb⟩
theorem keptStage:Kept (fun b w (y:StageR)=>StageO w b y):=⟨fun _ _ _ _ h hb=>h.below hb,fun _ _ _ _ _ h hg hl=>h.kept hg hl,fun _ _ _ _ h hb=>h.mono hb⟩
theorem cells_one {α:Type} {enc:α→List Value} (h:∀ x,∀ u∈enc x,u.oneCell'=true) (l:List α):∀ u∈cellsK enc l,u.oneCell'=true:=by
 intro u hu
 obtain ⟨x,_,hx⟩:=List.mem_flatMap.1 hu
 exact h x u hx
theorem encB_one (x:BlkT):∀ u∈encB x,u.oneCell'=true:=by intro u hu;simp [encB,strV] at hu;rcases hu with rfl | rfl <;> rfl
theorem encP_one (x:BS×BS):∀ u∈encP x,u.oneCell'=true:=by intro u hu;simp [encP,strV] at hu;rcases hu with rfl | rfl <;> rfl
theorem encS_one (x:BS):∀ u∈encS x,u.oneCell'=true:=by intro u hu;simp [encS,strV] at hu;subst hu;rfl
theorem encG_one (x:GT):∀ u∈encG x,u.oneCell'=true:=by intro u hu;simp [encG,strV] at hu;rcases hu with rfl | rfl | rfl <;> rfl
theorem encE_one (x:EntryR):∀ u∈encEntry x,u.oneCell'=true:=by intro u hu;simp [encEntry,strV] at hu;rcases hu with rfl | rfl | rfl | rfl <;> rfl
/-- an owned row is one of a lower base, whatever is done to a box below it -/
theorem own_kept {W W':World} {r:Nat} {base:Nat} {e:TypeId} {k n:Nat} {v:Value} {xs:List Value} (h:W.ownsRow base e k v n xs) (hg:W.grownBy W' (some r)) (hr:r<base):W'.ownsRow base e k v n xs :=
 h.kept hg (.inr fun hh=>by have:=(h.lt _ hh).1;omega)
/-- the rows of tags of two snapshots are not one -/
def ApartT (y z:SnapR):Prop:=∀ g,y.tags.val.ownBlock=some g→z.tags.val.ownBlock≠some g
theorem apartT_of (b b':Nat) (w w':World) (y z:SnapR) (hy:SnapO w b y) (hz:SnapO w' b' z) (h:w.heap.size≤b'):ApartT y z:=fun g h1 h2=>by
 have:=hy.tags.2.lt _ h1
 have:=hz.tags.2.lt _ h2
 omega
/-- a set of one's own of which no two snapshots have one row of tags -/
def SetOT (w:World) (b:Nat) (y:SetR):Prop:=SetO w b y∧y.snaps.l.Pairwise ApartT
theorem keptSetT:Kept (fun b w (y:SetR)=>SetOT w b y):=⟨fun _ _ _ _ h hb=>⟨h.1.below hb,h.2⟩,fun _ _ _ _ _ h hg hl=>⟨h.1.kept hg hl,h.2⟩,fun _ _ _ _ h hb=>⟨h.1.mono hb,h.2⟩⟩
theorem copySnapR_any (x:SnapR) (W:World) (B:Nat) (hB:B≤W.heap.size) (hr:x.rd W B) (hz:x.sz) :
  Calls Tryz.prog 174 #[.agg (encSnap x).toArray] W fun e w'=>∃ y,e=.returned (.agg (encSnap y).toArray)∧SnapO w' W.heap.size y∧x.eqv y∧Below W.heap.size W w':=by
 obtain ⟨nm,gd,⟨b1,bn,b3,bl⟩,⟨t1,tn,t3,tl⟩,⟨o1,on,o3,ol⟩⟩:=x
 refine (copySnap_any nm gd b1 bn b3 t1 tn t3 o1 on o3 _ _ _ W B hB hr.body.2.2 hr.tags.2.2 hr.own.2.2 (cells_one encB_one _) (cells_one encS_one _) (cells_one encP_one _) hz.body hz.tags hz.own).mono ?_
 rintro e w' ⟨Ab,cb,At,ct,Ao,co,rfl,h1,h2,h3,h4⟩
 exact ⟨⟨nm,gd,⟨Ab,bn,cb,bl⟩,⟨At,tn,ct,tl⟩,⟨Ao,on,co,ol⟩⟩,rfl,⟨⟨hr.body.1,h1⟩,⟨hr.tags.1,h2⟩,⟨hr.own.1,h3⟩⟩,⟨rfl,rfl,rfl,rfl,rfl⟩,h4⟩
theorem copySetR_any (x:SetR) (w:World) (B:Nat) (hB:B≤w.heap.size) (hr:x.rd w B) (hz:x.sz) :
  Calls Tryz.prog 109 #[.agg (encSet x).toArray] w fun e w'=>∃ y,e=.returned (.agg (encSet y).toArray)∧SetOT w' w.heap.size y∧x.eqv y∧Below w.heap.size w w':=by
 obtain ⟨pa,og,⟨b1,bn,b3,bl⟩,⟨s1,sn,s3,sl⟩,⟨o1,on,o3,ol⟩⟩:=x
 have hb:=hr.body
 have hs:=hr.snaps
 have ho:=hr.own
 have hb1:bn=bl.length:=hb.1
 have hs1:sn=sl.length:=hs.1
 have ho1:on=ol.length:=ho.1
 refine (copySet_abs pa og b1 bn b3 s1 sn s3 o1 on o3 w
  (fun W v=>W.ownsRow (w.heap.size+2) 75 2 v bn (cellsK encB bl)) (fun W W' v r h hg hl=>own_kept h hg hl) (fun W hW hsz=>?_)
  (fun W v=>W.ownsRow (w.heap.size+2) 78 2 v on (cellsK encP ol)) (fun W W' v r h hg hl=>own_kept h hg hl) (fun W hW hsz=>?_)
  (fun W v=>∃ s:FS SnapR,v=s.val∧s.own W (w.heap.size+2) 57 5 encSnap∧(∀ y∈s.l,SnapO W (w.heap.size+2) y)∧EachR SnapR.eqv sl s.l∧s.l.Pairwise ApartT) (fun W W' v r h hg hl=>?_) (fun W hW hsz=>?_)).mono ?_
 ·exact mZ208
 ·exact mZ207
 ·exact mZ206
 ·refine (eachSnap_any _ keptSnap SnapR.eqv ApartT apartT_of sl sn hs1 s1 s3 W B tZ57 (hs.2.2.below (hW.mono hB)) (by have:=hz.snaps;simp only at this;omega) (fun x hx W2 hW2=>?_)).mono ?_
  ·have hx2:x.rd W2 B:=by
    have:=hr.each x hx
    have hb2:Below B w W2:=(hW.mono hB).trans (hW2.mono tZ57)
    exact ⟨this.body.below hb2,this.tags.below hb2,this.own.below hb2⟩
   exact copySnapR_any x W2 B tZ110 hx2 (hz.each x hx)
  ·rintro e w' ⟨s,rfl,h1,h2,h3,h5,h4⟩
   exact ⟨s.A,s.n,s.c,rfl,⟨s,rfl,h1.mono hsz,fun y hy=>(h2 y hy).mono hsz,h3,h5⟩,h4⟩
 ·rintro e w' ⟨Ab,nb,cb,Ao,no,co,Az,nz,cz,rfl,h1,h2,⟨s,h3,h4,h5,h6,hpw⟩,h7⟩
  obtain ⟨_,_,e1,_⟩:=own_form h1
  injection e1 with _ e1 _
  obtain ⟨_,_,e2,_⟩:=own_form h2
  injection e2 with _ e2 _
  subst e1 e2
  obtain ⟨A',n',c',l'⟩:=s
  injection h3 with e3 e4 e5
  subst e3 e4 e5
  exact ⟨⟨pa,og,⟨Ab,nb,cb,bl⟩,⟨Az,nz,cz,l'⟩,⟨Ao,no,co,ol⟩⟩,rfl,⟨⟨⟨hb1,own_mono h1 tZ1⟩,h4.mono tZ1,fun y hy=>(h5 y hy).mono tZ1,⟨ho1,own_mono h2 tZ1⟩⟩,hpw⟩,⟨rfl,rfl,rfl,h6.1,h6.2,rfl⟩,h7⟩
theorem copyStageR_any (x:StageR) (w:World) (B:Nat) (hB:B≤w.heap.size) (hr:x.rd w B) (hz:x.sz) :
  Calls Tryz.prog 112 #[.agg (encStage x).toArray] w fun e w'=>∃ y,e=.returned (.agg (encStage y).toArray)∧StageO w' w.heap.size y∧x.eqv y∧Below w.heap.size w w':=by
 obtain ⟨into,kind,nm,frm,gd,⟨o1,on,o3,ol⟩,ix,ct,dt,⟨sa,sb,sc,sd⟩,⟨b1,bn,b3,bl⟩,at_,nx,⟨ua,ub,uc,ud⟩,done⟩:=x
 have hb:=hr.body
 have ho:=hr.own
 have hb1:bn=bl.length:=hb.1
 have ho1:on=ol.length:=ho.1
 refine (copyStage_abs into kind nm frm gd o1 on o3 ix ct dt sa sb sc sd b1 bn b3 at_ nx ua ub uc ud done w
  (fun W v=>W.ownsRow (w.heap.size+2) 75 2 v bn (cellsK encB bl)) (fun W W' v r h hg hl=>own_kept h hg hl) (fun W hW hsz=>?_)
  (fun W v=>W.ownsRow (w.heap.size+2) 78 2 v on (cellsK encP ol)) (fun W W' v r h hg hl=>own_kept h hg hl) (fun W hW hsz=>?_)).mono ?_
 ·exact mZ208
 ·exact mZ207
 ·rintro e w' ⟨Ab,nb,cb,Ao,no,co,rfl,h1,h2,h7⟩
  obtain ⟨_,_,e1,_⟩:=own_form h1
  injection e1 with _ e1 _
  obtain ⟨_,_,e2,_⟩:=own_form h2
  injection e2 with _ e2 _
  subst e1 e2
  exact ⟨⟨into,kind,nm,frm,gd,⟨Ao,no,co,ol⟩,ix,ct,dt,⟨sa,sb,sc,sd⟩,⟨Ab,nb,cb,bl⟩,at_,nx,⟨ua,ub,uc,ud⟩,done⟩,rfl,⟨⟨ho1,own_mono h2 tZ1⟩,⟨hb1,own_mono h1 tZ1⟩⟩,⟨rfl,rfl,rfl,rfl,rfl,rfl,rfl,rfl,rfl,rfl,rfl,rfl,rfl,rfl,rfl⟩,h7⟩
/-- the rows of snapshots of two sets are not one -/
def ApartS (y z:SetR):Prop:=∀ g,y.snaps.val.ownBlock=some g→z.snaps.val.ownBlock≠some g
theorem apart_of (b b':Nat) (w w':World) (y z:SetR) (hy:SetO w b y) (hz:SetO w' b' z) (h:w.heap.size≤b'):ApartS y z:=fun g h1 h2=>by
 have:=hy.snaps.2.lt _ h1
 have:=hz.snaps.2.lt _ h2
 omega
/-- two sets have not the same row of snapshots, nor two of their snapshots the same row of tags -/
def ApartU (y z:SetR):Prop:=ApartS y z∧∀ a∈y.snaps.l,∀ b∈z.snaps.l,ApartT a b
theorem apartU_of (b b':Nat) (w w':World) (y z:SetR) (hy:SetOT w b y) (hz:SetOT w' b' z) (h:w.heap.size≤b'):ApartU y z :=
 ⟨apart_of b b' w w' y z hy.1 hz.1 h,fun u hu v hv=>apartT_of b b' w w' u v (hy.1.each u hu) (hz.1.each v hv) h⟩
theorem tcopy3_any (t:TenR) (w:World) (B:Nat) (hB:B≤w.heap.size) (hr:t.rd w B) (hz:t.sz) :
  Calls Tryz.prog 44 #[t.val] w fun e w'=>∃ y:TenR,e=.returned y.val∧TenO w' w.heap.size y∧t.eqv y∧(y.sets.l.Pairwise ApartU∧∀ x∈y.sets.l,x.snaps.l.Pairwise ApartT)∧Below w.heap.size w w':=by
 obtain ⟨nm,qu,nx,⟨s1,sn,s3,sl⟩,⟨g1,gn,g3,gl⟩,⟨t1,tn,t3,tl⟩,⟨l1,ln,l3,ll⟩⟩:=t
 have hs:=hr.sets
 have hg:=hr.grants
 have ht:=hr.stages
 have hl:=hr.log
 have hs1:sn=sl.length:=hs.1
 have hg1:gn=gl.length:=hg.1
 have ht1:tn=tl.length:=ht.1
 have hl1:ln=ll.length:=hl.1
 refine (copyTen_abs nm qu nx s1 sn s3 g1 gn g3 t1 tn t3 l1 ln l3 w
  (fun W v=>∃ s:FS SetR,v=s.val∧s.own W (w.heap.size+2) 42 5 encSet∧(∀ y∈s.l,SetOT W (w.heap.size+2) y)∧EachR SetR.eqv sl s.l∧s.l.Pairwise ApartU) (fun W W' v r h hg hl=>?_) (fun W hW hsz=>?_)
  (fun W v=>W.ownsRow (w.heap.size+2) 147 3 v gn (cellsK encG gl)) (fun W W' v r h hg hl=>own_kept h hg hl) (fun W hW hsz=>?_)
  (fun W v=>∃ s:FS StageR,v=s.val∧s.own W (w.heap.size+2) 103 21 encStage∧(∀ y∈s.l,StageO W (w.heap.size+2) y)∧EachR StageR.eqv tl s.l) (fun W W' v r h hg hl=>?_) (fun W hW hsz=>?_)
  (fun W v=>W.ownsRow (w.heap.size+2) 106 4 v ln (cellsK encEntry ll)) (fun W W' v r h hg hl=>own_kept h hg hl) (fun W hW hsz=>?_)).mono ?_
 ·obtain ⟨s,h1,h2,h3,h4⟩:=h
  exact ⟨s,h1,h2.kept hg hl,fun y hy=>keptSetT.kept _ _ _ _ _ (h3 y hy) hg hl,h4⟩
 ·refine (eachSet_any _ keptSetT SetR.eqv ApartU apartU_of sl sn hs1 s1 s3 W B tZ57 (hs.2.2.below (hW.mono hB)) tZ61 (fun x hx W2 hW2=>?_)).mono ?_
  ·have hb2:Below B w W2:=(hW.mono hB).trans (hW2.mono tZ57)
   have:=hr.eachS x hx
   exact copySetR_any x W2 B tZ110 ⟨this.body.below hb2,this.snaps.below hb2,fun y hy=>⟨(this.each y hy).body.below hb2,(this.each y hy).tags.below hb2,(this.each y hy).own.below hb2⟩,this.own.below hb2⟩ (hz.eachS x hx)
  ·rintro e w' ⟨s,rfl,h1,h2,h3,h5,h4⟩
   exact ⟨s.A,s.n,s.c,rfl,⟨s,rfl,h1.mono hsz,fun y hy=>keptSetT.mono _ _ _ _ (h2 y hy) hsz,h3,h5⟩,h4⟩
 ·refine (cloneG_any _ gn g1 g3 W B (hg.2.2.below (hW.mono hB)) tZ57 (cells_one encG_one _) tZ92).mono ?_
  rintro e w' ⟨v,rfl,h1,h2⟩
  obtain ⟨A,c,rfl,_⟩:=own_form h1
  exact ⟨A,gn,c,rfl,own_mono h1 hsz,h2⟩
 ·exact mZ206
 ·refine (eachStage_any _ keptStage StageR.eqv tl tn ht1 t1 t3 W B tZ57 (ht.2.2.below (hW.mono hB)) (by have:=hz.stages;simp only at this;omega) (fun x hx W2 hW2=>?_)).mono ?_
  ·have hb2:Below B w W2:=(hW.mono hB).trans (hW2.mono tZ57)
   have:=hr.eachG x hx
   exact copyStageR_any x W2 B tZ110 ⟨this.own.below hb2,this.body.below hb2⟩ (hz.eachT x hx)
  ·rintro e w' ⟨s,rfl,h1,h2,h3,h4⟩
   exact ⟨s.A,s.n,s.c,rfl,⟨s,rfl,h1.mono hsz,fun y hy=>(h2 y hy).mono hsz,h3⟩,h4⟩
 ·refine (cloneEn_any _ ln l1 l3 W B (hl.2.2.below (hW.mono hB)) tZ57 (cells_one encE_one _) (by have:=hz.log;simp only at this;omega)).mono ?_
  rintro e w' ⟨v,rfl,h1,h2⟩
  obtain ⟨A,c,rfl,_⟩:=own_form h1
  exact ⟨A,ln,c,rfl,own_mono h1 hsz,h2⟩
 ·rintro e w' ⟨Az,nz,cz,Ag,ng,cg,At,nt,ct,Al,nl,cl,rfl,⟨s,h3,h4,h5,h6,hpw⟩,h1,⟨q,k3,k4,k5,k6⟩,h2,h7⟩
  obtain ⟨_,_,e1,_⟩:=own_form h1
  injection e1 with _ e1 _
  obtain ⟨_,_,e2,_⟩:=own_form h2
  injection e2 with _ e2 _
  subst e1 e2
  obtain ⟨A',n',c',l'⟩:=s
  injection h3 with e3 e4 e5
  subst e3 e4 e5
  obtain ⟨A',n',c',q'⟩:=q
  injection k3 with e3 e4 e5
  subst e3 e4 e5
  exact ⟨⟨nm,qu,nx,⟨Az,nz,cz,l'⟩,⟨Ag,ng,cg,gl⟩,⟨At,nt,ct,q'⟩,⟨Al,nl,cl,ll⟩⟩,rfl,⟨h4.mono tZ1,fun y hy=>(h5 y hy).1.mono tZ1,⟨hg1,own_mono h1 tZ1⟩,k4.mono tZ1,fun y hy=>(k5 y hy).mono tZ1,⟨hl1,own_mono h2 tZ1⟩⟩,⟨rfl,rfl,rfl,h6.1,h6.2,rfl,k6.1,k6.2,rfl⟩,⟨hpw,fun y hy=>(h5 y hy).2⟩,h7⟩
theorem tcopy2_any (t:TenR) (w:World) (B:Nat) (hB:B≤w.heap.size) (hr:t.rd w B) (hz:t.sz) :
  Calls Tryz.prog 44 #[t.val] w fun e w'=>∃ y:TenR,e=.returned y.val∧TenO w' w.heap.size y∧t.eqv y∧y.sets.l.Pairwise ApartS∧Below w.heap.size w w' :=
 (tcopy3_any t w B hB hr hz).mono (by rintro e w' ⟨y,h1,h2,h3,h5,h4⟩;exact ⟨y,h1,h2,h3,h5.1.imp (fun h=>h.1),h4⟩)
theorem tcopy_any (t:TenR) (w:World) (B:Nat) (hB:B≤w.heap.size) (hr:t.rd w B) (hz:t.sz) :
  Calls Tryz.prog 44 #[t.val] w fun e w'=>∃ y:TenR,e=.returned y.val∧TenO w' w.heap.size y∧t.eqv y∧Below w.heap.size w w' :=
 (tcopy2_any t w B hB hr hz).mono (by rintro e w' ⟨y,h1,h2,h3,-,h4⟩;exact ⟨y,h1,h2,h3,h4⟩)
end Go.Proofs.YtcgclpcocdappaaGreatDoor
namespace Go.Proofs.YtcgclpcocdappaaGreatDoor
open Go.RowKit
/-- the tenant with another set at a place -/
def TenR.putS (t:TenR) (i:Nat) (x:SetR):TenR:=⟨t.nm,t.quota,t.next,⟨t.sets.A,t.sets.n,t.sets.c,t.sets.l.set i x⟩,t.grants,t.stages,t.log⟩
def TenC.putS (t:TenC) (i:Nat) (x:SetC):TenC:=⟨t.nm,t.quota,t.next,t.sets.set i x,t.grants,t.stages,t.log⟩
theorem TenR.con_putS (t:TenR) (i:Nat) (x:SetR):(t.putS i x).con=t.con.putS i x.con:=by
 simp only [TenR.con,TenR.putS,TenC.putS,List.map_set]
section
variable {w w':World} {base g:Nat} {cs:Array Value}
theorem SnapO.keptS {x:SnapR} (h:SnapO w base x) (hg:w.grownBy w' (some g)) (hb:Blk w g 42 cs):SnapO w' base x :=
 ⟨h.body.keptT hg hb tZ4,h.tags.keptT hg hb tZ4,h.own.keptT hg hb tZ4⟩
theorem SetO.keptS {x:SetR} (h:SetO w base x) (hg:w.grownBy w' (some g)) (hb:Blk w g 42 cs):SetO w' base x :=
 ⟨h.body.keptT hg hb tZ4,h.snaps.keptT hg hb tZ4,fun y hy=>(h.each y hy).keptS hg hb,h.own.keptT hg hb tZ4⟩
theorem StageO.keptS {x:StageR} (h:StageO w base x) (hg:w.grownBy w' (some g)) (hb:Blk w g 42 cs):StageO w' base x :=
 ⟨h.own.keptT hg hb tZ4,h.body.keptT hg hb tZ4⟩
/-- a pointer into the row of sets: one field of one set stored, by what is of one's own too -/
theorem TenO.setF {t:TenR} (h:TenO w base t) (i j:Nat) (hi:i<t.sets.l.length) (hj:j<5) (x':SetR) (u:Value) (he:∀ x,t.sets.l[i]?=some x→encSet x'=(encSet x).set j u) (hx:SetO w base x') :
  ∃ g,t.sets.A=some ⟨g,0,none⟩∧base≤g∧TenO (w.setCell ⟨g,i*5+j,none⟩ u) base (t.putS i x')∧w.grownBy (w.setCell ⟨g,i*5+j,none⟩ u) (some g):=by
 obtain ⟨g,cs,hA,hbg,hbk⟩:=h.sets.blk (by have:=h.sets.1;omega)
 obtain ⟨h1,h2⟩:=h.sets.field (fun _=>rfl) hA i j hj x' u he
 refine ⟨g,hA,hbg,⟨h1,?_,h.grants.keptT h2 hbk tZ4,h.stages.keptT h2 hbk tZ4,fun y hy=>(h.eachG y hy).keptS h2 hbk,h.log.keptT h2 hbk tZ4⟩,h2⟩
 intro y hy
 rcases List.mem_or_eq_of_mem_set hy with hy | rfl
 ·exact (h.eachS y hy).keptS h2 hbk
 ·exact hx.keptS h2 hbk
/-- a tenant whose row of sets is another one of one's own, when only that row's block was changed -/
theorem TenO.setsO {t:TenR} (h:TenO w base t) (s':FS SetR) (hg:w.grownBy w' t.sets.val.ownBlock) (hs:s'.own w' base 42 5 encSet) (hm:∀ y∈s'.l,SetO w' base y) :
  TenO w' base ⟨t.nm,t.quota,t.next,s',t.grants,t.stages,t.log⟩:=by
 have hk:∀ {T:TypeId} {k n:Nat} {v:Value} {xs:List Value},T≠42→w.ownsRow base T k v n xs→w'.ownsRow base T k v n xs:=by
  intro T k n v xs hT hr
  cases he:t.sets.val.ownBlock with
  | none=>rw [he] at hg;exact hr.kept hg (by cases v.ownBlock <;> simp)
  | some g =>
   rw [he] at hg
   refine hr.kept hg (.inr ?_)
   rcases h.sets.2.2 with ⟨e,_⟩ | ⟨g',cap,cur,e,_,hh,_⟩
   ·rw [e] at he;simp [Value.ownBlock] at he
   ·rw [e] at he
    have he:g'=g:=tZ124
    subst he
    exact own_blk_ne hr (show Blk w g' 42 cur from hh) hT
 exact ⟨hs,hm,⟨h.grants.1,hk tZ4 h.grants.2⟩,⟨h.stages.1,hk tZ4 h.stages.2⟩,fun y hy=>⟨⟨(h.eachG y hy).own.1,hk tZ4 (h.eachG y hy).own.2⟩,⟨(h.eachG y hy).body.1,hk tZ4 (h.eachG y hy).body.2⟩⟩,⟨h.log.1,hk tZ4 h.log.2⟩⟩
end
end Go.Proofs.YtcgclpcocdappaaGreatDoor
