/-
  tree.origin, by its contract.
-/
import Derived.Test.YtpbejobgickffaaGreatDoorU0
import Derived.Test.YtpbejobgickffaaGreatDoorU10
import Derived.Test.YtpbejobgickffaaGreatDoorU7
namespace Go.Proofs.YtpbejobgickffaaGreatDoor
open Go.RowKit
theorem set_at {w:World} {B n:Nat} {A:Option Addr} {l:List SetR} (h:Reads w B 5 A n (cellsK encSet l)) (hn:n=l.length) {i:Nat} (hi:i<n) :
  ∃ ad,A=some ad∧ad.block<B∧w.cell? (ad.add (i*5))=some (.string ⟨(l[i]'(by omega)).path.toArray⟩)∧w.cell? ⟨(ad.add (i*5)).block,(ad.add (i*5)).off+1,none⟩=some (.string ⟨(l[i]'(by omega)).org.toArray⟩) ∧
   w.cell? ⟨(ad.add (i*5)).block,(ad.add (i*5)).off+2,none⟩=some (.slice (l[i]'(by omega)).body.A (l[i]'(by omega)).body.n (l[i]'(by omega)).body.c)∧w.cell? ⟨(ad.add (i*5)).block,(ad.add (i*5)).off+3,none⟩=some (.slice (l[i]'(by omega)).snaps.A (l[i]'(by omega)).snaps.n (l[i]'(by omega)).snaps.c)∧w.cell? ⟨(ad.add (i*5)).block,(ad.add (i*5)).off+4,none⟩=some (.slice (l[i]'(by omega)).own.A (l[i]'(by omega)).own.n (l[i]'(by omega)).own.c) :=
 Reads.el5 (f0:=fun x:SetR=>.string ⟨x.path.toArray⟩) (f1:=fun x=>.string ⟨x.org.toArray⟩) (f2:=fun x=>.slice x.body.A x.body.n x.body.c) (f3:=fun x=>.slice x.snaps.A x.snaps.n x.snaps.c) (f4:=fun x=>.slice x.own.A x.own.n x.own.c) h hn hi
theorem firstI_cases {α:Type} (p:α→Bool) (l:List α):(firstI p l=-1∧l.find? p=none)∨∃ (k:Nat) (h:k<l.length),firstI p l=(k:Int)∧l.find? p=some (l[k]'h):=by
 cases hf:l.find? p with
 | none =>
  have h:=List.find?_eq_none.1 hf
  refine .inl ⟨?_,rfl⟩
  unfold firstI
  rw [firstP_none p l (fun y hy=>by simpa using h y hy),if_neg (Nat.lt_irrefl _)]
 | some x =>
  obtain ⟨hp,i,hi,e,hb⟩:=List.find?_eq_some_iff_getElem.1 hf
  refine .inr ⟨i,hi,?_,by rw [e]⟩
  have:firstP p l=i:=firstP_eq p l i x (fun y hy=>by
   obtain ⟨j,hj,e2⟩:=List.mem_iff_getElem.1 hy
   rw [List.getElem_take] at e2
   have:=hb j (by rw [List.length_take] at hj;omega)
   rw [e2] at this
   simpa using this) (by rw [List.getElem?_eq_getElem hi,e]) hp
  unfold firstI
  rw [this,if_pos hi]
theorem splitV_cases (l:BS):(splitL l=none∧splitV l=.tuple #[.string ⟨#[]⟩,.string ⟨#[]⟩,.int .i64 31])∨∃ p n:BS,splitL l=some (p,n)∧splitV l=.tuple #[.string ⟨p.toArray⟩,.string ⟨n.toArray⟩,.int .i64 0]∧p.length≤l.length∧n.length≤l.length:=by
 unfold splitL splitV
 cases h:atL l with
 | none=>exact .inl ⟨rfl,rfl⟩
 | some pn =>
  obtain ⟨p,n⟩:=pn
  have:=atL_len _ _ _ h
  by_cases hc:(pathB p && nameB n)=true
  ·exact .inr ⟨p,n,by simp only [if_pos hc],by simp only [if_pos hc],by omega,by omega⟩
  ·exact .inl ⟨by simp only [if_neg hc],by simp only [if_neg hc]⟩
def originP (all:List SetR) (sp so:BS):Bool:=so == [] || match splitL so with
 | none=>false
 | some (p,n)=>!(p == sp) && match all.find? (fun x=>x.path == p) with
  | none=>false
  | some x=>x.snaps.l.any fun y=>y.nm == n
set_option maxRecDepth 100000 in
set_option maxHeartbeats 2000000 in
theorem origin_any (v0 v1 v2 v4 v5 v6 v7 v8 v9:Value) (all:List SetR) (n:Nat) (hnl:n=all.length) (A:Option Addr) (c:Nat) (sp so:BS) (w:World) (B:Nat) (hr:Reads w B 5 A n (cellsK encSet all)) (he:∀ y∈all,y.rd w B) (hB:B≤w.heap.size) (hn:n≤1000000000000) (hv:∀ y∈all,y.sz) (hs:so.length≤4000000000) (hmx:HasMax w) :
  Calls Tryz.prog 171 #[.agg #[v0,v1,v2,.slice A n c,v4,v5,v6],.agg #[.string ⟨sp.toArray⟩,.string ⟨so.toArray⟩,v7,v8,v9]] w fun e w'=>e=.returned (.bool (originP all sp so))∧Below w.heap.size w w':=by
 have hb1:=(Below.refl w.heap.size w).alloc (Nat.le_refl _) (.cells #[v0,v1,v2,.slice A n c,v4,v5,v6] 27)
 have hb2:=hb1.alloc hb1.size (.cells #[.string ⟨sp.toArray⟩,.string ⟨so.toArray⟩,v7,v8,v9] 42)
 have k1:=(Blk.new w 27 #[v0,v1,v2,.slice A n c,v4,v5,v6]).alloc (.cells #[.string ⟨sp.toArray⟩,.string ⟨so.toArray⟩,v7,v8,v9] 42)
 have k2:=Blk.new (w.alloc (.cells #[v0,v1,v2,.slice A n c,v4,v5,v6] 27)) 42 #[.string ⟨sp.toArray⟩,.string ⟨so.toArray⟩,v7,v8,v9]
 rw [show (w.alloc (.cells #[v0,v1,v2,.slice A n c,v4,v5,v6] 27)).heap.size=w.heap.size+1 by simp] at k2
 obtain ⟨W2,hW2⟩:∃ W,W=(w.alloc (.cells #[v0,v1,v2,.slice A n c,v4,v5,v6] 27)).alloc (.cells #[.string ⟨sp.toArray⟩,.string ⟨so.toArray⟩,v7,v8,v9] 42):=⟨_,rfl⟩
 have hsz:W2.heap.size=w.heap.size+2:=by rw [hW2];simp
 rw [← hW2] at hb2 k1 k2
 have hS:=Lib.hid (fun (W':World) (hB':Below W2.heap.size W2 W') =>
  (⟨(k1.below hB' (by omega)).cell 0,(k1.below hB' (by omega)).cell 1,(k1.below hB' (by omega)).cell 2,(k1.below hB' (by omega)).cell 3,(k1.below hB' (by omega)).cell 4,(k1.below hB' (by omega)).cell 5,(k1.below hB' (by omega)).cell 6,(k2.below hB' (by omega)).cell 0⟩ :
   W'.cell? ⟨w.heap.size,0,none⟩=some v0∧W'.cell? ⟨w.heap.size,1,none⟩=some v1∧W'.cell? ⟨w.heap.size,2,none⟩=some v2∧W'.cell? ⟨w.heap.size,3,none⟩=some (.slice A n c)∧W'.cell? ⟨w.heap.size,4,none⟩=some v4∧W'.cell? ⟨w.heap.size,5,none⟩=some v5∧W'.cell? ⟨w.heap.size,6,none⟩=some v6∧W'.cell? ⟨w.heap.size+1,0,none⟩=some (.string ⟨sp.toArray⟩)))
 have HSZ:=Lib.hid hsz
 have HB:=Lib.hid hb2
 have HNL:=Lib.hid hnl
 have hR:=Lib.hid (fun (W':World) (hB':Below W2.heap.size W2 W')=>(⟨hr.below ((hb2.trans (hB'.mono (by omega))).mono hB),hB'.size,hmx.below (hb2.trans (hB'.mono (by omega))),fun y hy=>⟨(he y hy).body.below ((hb2.trans (hB'.mono (by omega))).mono hB),(he y hy).snaps.below ((hb2.trans (hB'.mono (by omega))).mono hB)⟩⟩:Reads W' B 5 A n (cellsK encSet all)∧W2.heap.size≤W'.heap.size∧HasMax W'∧∀ y∈all,y.body.rd W' B 2 encB∧y.snaps.rd W' B 5 encSnap))
 have HV:=Lib.hid hv
 clear k1 k2 hsz hb1 hb2 hnl hr he hv
 by_cases ho:so=[]
 ·subst ho
  have HE:Hid (originP all sp []=true):=rfl
  go_enter Tryz.func171,Tryz.ntmps171
  go_wp2_with fail
  rw [← hW2]
  go_ret
  exact ⟨by rw [HE.out];rfl,HB.out⟩
 ·have ho1:(so == [])=false:=by simpa using ho
  have ho2:so.isEmpty=false:=by cases so <;> simp_all
  have HE:Hid (originP all sp so=match splitL so with
   | none=>false
   | some (p,n)=>!(p == sp) && match all.find? (fun x=>x.path == p) with
    | none=>false
    | some x=>x.snaps.l.any fun y=>y.nm == n):=by show _=_;unfold originP;rw [ho1];rfl
  obtain ⟨V,hV⟩:∃ V,V=originP all sp so:=⟨_,rfl⟩
  rw [← hV] at HE ⊢
  have hspl:=fun (hm:HasMax W2)=>split_any ⟨so.toArray⟩ W2 (by show so.length≤_;exact hs) hm
  rw [show (ByteArray.mk so.toArray).data.toList=so from rfl] at hspl
  have hspl:=hspl (hmx.below HB.out)
  have HO:=Lib.hid ho
  clear hV ho
  rcases splitV_cases so with ⟨h1,h2⟩ | ⟨p,m,h1,h2,h3,h4⟩
  ·rw [h2] at hspl
   rw [h1] at HE
   clear h1 h2
   go_enter Tryz.func171,Tryz.ntmps171
   go_wp2_with fail
   rw [← hW2]
   refine hspl.mono ?_
   clear hspl
   rintro e w1 ⟨rfl,hb1⟩
   obtain ⟨q0,q1,q2,q3,q4,q5,q6,q7⟩:=hS.out _ hb1
   obtain ⟨r1,r2,r3,r4⟩:=hR.out _ hb1
   have hfi:=find_any v0 v1 v2 v4 v5 v6 all n HNL.out A c [] w1 B r1 (by have:=HSZ.out;omega) (by omega)
   have HB1:=Lib.hid hb1
   clear r1 r2 r3 r4 hb1
   go_wp2_with fail
   refine hfi.mono ?_
   clear hfi
   rintro e w2 ⟨rfl,hb2⟩
   go_wp2_with fail
   go_ret
   exact ⟨by rw [HE.out];rfl,HB.out.trans ((HB1.out.trans (hb2.mono HB1.out.size)).mono (by have:=HSZ.out;omega))⟩
  ·rw [h2] at hspl
   rw [h1] at HE
   clear h1 h2
   have HE:Hid (V=(!(p == sp) && match all.find? (fun x=>x.path == p) with
    | none=>false
    | some x=>x.snaps.l.any fun y=>y.nm == m)):=HE
   go_enter Tryz.func171,Tryz.ntmps171
   go_wp2_with fail
   rw [← hW2]
   refine hspl.mono ?_
   clear hspl
   rintro e w1 ⟨rfl,hb1⟩
   obtain ⟨q0,q1,q2,q3,q4,q5,q6,q7⟩:=hS.out _ hb1
   obtain ⟨r1,r2,r3,r4⟩:=hR.out _ hb1
   have hfi:=find_any v0 v1 v2 v4 v5 v6 all n HNL.out A c p w1 B r1 (by have:=HSZ.out;omega) (by omega)
   obtain ⟨z,hz⟩:∃ z,z=findS all p:=⟨_,rfl⟩
   rw [← hz] at hfi
   have HB1:=Lib.hid hb1
   have HZ:=Lib.hid hz
   clear r1 r2 r3 r4 hb1 hz
   go_wp2_with fail
   refine hfi.mono ?_
   clear hfi q0 q1 q2 q3 q4 q5 q6 q7
   rintro e w2 ⟨rfl,hb2⟩
   have HB2:=Lib.hid (HB1.out.trans (hb2.mono HB1.out.size))
   clear hb2 HB1
   obtain ⟨q0,q1,q2,q3,q4,q5,q6,q7⟩:=hS.out _ HB2.out
   by_cases hps:p=sp
   ·have hpb:(p == sp)=true:=by simpa using hps
    have HE2:Hid (V=false):=by show _=_;rw [HE.out,hpb];rfl
    subst hps
    go_wp2_with fail
    go_ret
    exact ⟨by rw [HE2.out];rfl,HB.out.trans (HB2.out.mono (by have:=HSZ.out;omega))⟩
   ·have hpb:(p == sp)=false:=by simpa using hps
    have HE2:Hid (V=match all.find? (fun x=>x.path == p) with
     | none=>false
     | some x=>x.snaps.l.any fun y=>y.nm == m):=by show _=_;rw [HE.out,hpb];rfl
    clear hps HE
    rcases firstI_cases (fun x:SetR=>x.path == p) all with ⟨f1,f2⟩ | ⟨k,hk,f1,f2⟩
    ·have hz:z=-1:=HZ.out.trans f1
     rw [f2] at HE2
     subst hz
     clear f1 f2
     go_wp2_with fail
     go_ret
     exact ⟨by rw [HE2.out];rfl,HB.out.trans (HB2.out.mono (by have:=HSZ.out;omega))⟩
    ·have hz:z=(k:Int):=HZ.out.trans f1
     rw [f2] at HE2
     subst hz
     obtain ⟨r1,r2,r3,r4⟩:=hR.out _ HB2.out
     have hkn:k<n:=by have:=HNL.out;omega
     have hki:(k:Int)<(n:Int):=by omega
     obtain ⟨ad,rfl,-,c0,c1,c2,c3,c4⟩:=set_at r1 HNL.out hkn
     obtain ⟨x,hx⟩:∃ x,x=all[k]'hk:=⟨_,rfl⟩
     rw [← hx] at c0 c1 c2 c3 c4 HE2
     have hxm:x∈all:=by rw [hx];exact List.getElem_mem _
     obtain ⟨_,r5⟩:=r4 x hxm
     have hsn:=HV.out x hxm
     have HC:=Lib.hid (snapAt_any (.string ⟨x.path.toArray⟩) (.string ⟨x.org.toArray⟩) (.slice x.body.A x.body.n x.body.c) (.slice x.own.A x.own.n x.own.c) x.snaps.l x.snaps.n r5.1 x.snaps.A x.snaps.c m w2 B r5.2.2 (by have:=HSZ.out;omega) (by have:=hsn.snaps;omega))
     have HA:=Lib.hid (firstI_any (fun y:SnapR=>y.nm == m) x.snaps.l)
     have HE3:Hid (V=x.snaps.l.any fun y=>y.nm == m):=HE2
     obtain ⟨xp,xo,⟨b1,b2,b3,bl⟩,⟨s1,s2,s3,sl⟩,⟨o1,o2,o3,ol⟩⟩:=x
     simp only at c0 c1 c2 c3 c4 HC HA HE3
     clear hx f1 f2 HE2 r1 r2 r3 r4 r5 hsn hxm hR HZ HV HNL
     go_wp2_with fail
     refine HC.out.mono ?_
     rintro e w3 ⟨rfl,hb3⟩
     have HBF:=Lib.hid (HB.out.trans ((HB2.out.trans (hb3.mono HB2.out.size)).mono (by have:=HSZ.out;omega)))
     have HA2:Hid (V=decide ((0:Int)≤findN sl m)):=by show _=_;rw [HE3.out];exact HA.out.symm
     clear c0 c1 c2 c3 c4 hb3 HC HA HE3
     go_wp2_with fail
     go_ret
     exact ⟨by rw [HA2.out];rfl,HBF.out⟩
end Go.Proofs.YtpbejobgickffaaGreatDoor
