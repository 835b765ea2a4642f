/-
  tree.Clones, by its contract. Tenants that lie in memory of their own. tree.each at snapshots, sets and stages, over any contract of what copies one. A tenant's rows that are written over, in themselves: what can be read of them stays good. Tenants by content alone: what they read, wherever they lie. Tenants: sizes hang on the content; what may be read below a bound may be read below a higher one.
-/
import Derived.Test.YtmladblmknbgnaaGreatDoorH0
import Derived.Test.YtmladblmknbgnaaGreatDoorH15
import Derived.Test.YtmladblmknbgnaaGreatDoorH16
import Derived.Test.YtmladblmknbgnaaGreatDoorH3
import Derived.Test.YtmladblmknbgnaaGreatDoorH4
namespace Go.Proofs.YtmladblmknbgnaaGreatDoor
open Go.RowKit
/-- is a set a clone of a snapshot of a set's (or of any, where no name is asked)? -/
def clP (p q:BS) (o:BS):Bool:=match splitL o with
 | none=>false
 | some (a,b)=>a == p && (q == [] || b == q)
def clonesL (l:List SetR) (p q:BS):List BS:=(l.filter fun s=>clP p q s.org).map (·.path)
theorem clonesL_snoc (l:List SetR) (x:SetR) (p q:BS):clonesL (l++[x]) p q=clonesL l p q++(if clP p q x.org=true then [x.path] else []):=by
 unfold clonesL
 rw [List.filter_append,List.map_append]
 congr 1
 by_cases h:clP p q x.org=true
 ·rw [if_pos h,List.filter_cons_of_pos (by simpa using h)];rfl
 ·rw [if_neg h,List.filter_cons_of_neg (by simpa using h)];rfl
set_option maxRecDepth 100000 in
set_option maxHeartbeats 4000000 in
theorem clones_any (v0 v1 v2 v4 v5 v6:Value) (l:List SetR) (n:Nat) (hnl:n=l.length) (A:Option Addr) (c:Nat) (p nq:BS) (w:World) (B:Nat) (hr:Reads w B 5 A n (cellsK encSet l)) (hB:B≤w.heap.size) (hn:n≤1000000000000) (hv:∀ y∈l,y.org.length≤4000000000) (hmx:HasMax w) :
  Calls Tryz.prog 88 #[.agg #[v0,v1,v2,.slice A n c,v4,v5,v6],.string ⟨p.toArray⟩,.string ⟨nq.toArray⟩] w fun e w'=>∃ A1 c1,e=.returned (.slice A1 (clonesL l p nq).length c1)∧w'.ownsRow w.heap.size 9 1 (.slice A1 (clonesL l p nq).length c1) (clonesL l p nq).length (scells (clonesL l p nq))∧Below w.heap.size w w':=by
 obtain ⟨i0,hi0,hz0,hz1,hz2⟩:=info_parts Tryz.infoS
 have HN:=Lib.hid hnl
 have hb1:=(Below.refl w.heap.size w).alloc (Nat.le_refl _) (.cells #[v0,v1,v2,.slice A n c,v4,v5,v6] 27)
 have kT:=Blk.new w 27 #[v0,v1,v2,.slice A n c,v4,v5,v6]
 obtain ⟨W1,hW1⟩:∃ W,W=w.alloc (.cells #[v0,v1,v2,.slice A n c,v4,v5,v6] 27):=⟨_,rfl⟩
 have hsz1:W1.heap.size=w.heap.size+1:=by rw [hW1];simp
 rw [← hW1] at hb1 kT
 have hT:Hid (∀ W',Below W1.heap.size W1 W'→W'.cell? ⟨w.heap.size,3,none⟩=some (.slice A n c)):=fun W' hB'=>(kT.below hB' (by omega)).cell 3
 have hR:=Lib.hid (fun (W':World) (hB':Below W1.heap.size W1 W')=>(⟨hr.below ((hb1.trans (hB'.mono (by omega))).mono hB),hmx.below (hb1.trans (hB'.mono (by omega)))⟩:Reads W' B 5 A n (cellsK encSet l)∧HasMax W'))
 have HB1:=Lib.hid hb1
 have HSZ1:=Lib.hid hsz1
 have HVS:=Lib.hid hv
 obtain ⟨KL,hKL⟩:∃ K,K=clonesL l p nq:=⟨_,rfl⟩
 rw [← hKL]
 have HKL:=Lib.hid hKL
 clear hnl hr kT hsz1 hv hKL
 go_enter Tryz.func88,Tryz.ntmps88
 go_wp2_with fail
 rw [← hW1]
 clear hW1
 go_loopw [7,16] (fun a j wr=>∃ (k m:Nat) (A1:Option Addr) (c1:Nat),k≤n∧m≤k∧a=.slice A1 m c1∧j=.int .i64 (k:Int)∧Hid (m=(clonesL (l.take k) p nq).length)∧wr.ownsRow W1.heap.size 9 1 (.slice A1 m c1) m (scells (clonesL (l.take k) p nq))∧Below W1.heap.size W1 wr) (fun _ j _=>n-(intOf j).toNat)
 case atStart=>exact ⟨0,0,none,0,Nat.zero_le _,Nat.zero_le _,rfl,rfl,rfl,⟨rfl,.inl ⟨rfl,rfl⟩⟩,Below.refl _ _⟩
 case round =>
  clear hb1
  obtain ⟨k,m,A1,c1,hk,hmk,rfl,rfl,hml,hown,hbw⟩:=hrel
  by_cases hlt:k<n
  ·obtain ⟨hrw,hmw⟩:=hR.out _ hbw
   obtain ⟨ad,rfl,-,c0,c1',c2,c3,c4⟩:=set_at hrw HN.out hlt
   have hki:(k:Int)<(n:Int):=by omega
   have hkl:k<l.length:=by have:=HN.out;omega
   obtain ⟨x,hx⟩:∃ x,x=l[k]'hkl:=⟨_,rfl⟩
   have hxl:=HVS.out x (by rw [hx];exact List.getElem_mem _)
   rw [← hx] at c0 c1' c2 c3 c4
   have htk:=List.take_succ_eq_append_getElem hkl
   rw [← hx] at htk
   have HNT:Hid (clonesL (l.take (k+1)) p nq=clonesL (l.take k) p nq++(if clP p nq x.org=true then [x.path] else [])):=by
    show _=_
    rw [htk,clonesL_snoc]
   obtain ⟨W0,hW0⟩:∃ W0,W0=wr.alloc (.cells #[.string ⟨x.path.toArray⟩,.string ⟨x.org.toArray⟩,.slice x.body.A x.body.n x.body.c,.slice x.snaps.A x.snaps.n x.snaps.c,.slice x.own.A x.own.n x.own.c] 42):=⟨_,rfl⟩
   have hblk:Blk W0 wr.heap.size 42 #[.string ⟨x.path.toArray⟩,.string ⟨x.org.toArray⟩,.slice x.body.A x.body.n x.body.c,.slice x.snaps.A x.snaps.n x.snaps.c,.slice x.own.A x.own.n x.own.c]:=by rw [hW0];exact Blk.new wr _ _
   have hszW:W0.heap.size=wr.heap.size+1:=by rw [hW0];show (wr.heap.push _).size=_;rw [Array.size_push]
   have hwr:=hbw.size
   have hsz1:=HSZ1.out
   have hb1W:Below W1.heap.size W1 W0:=by rw [hW0];exact hbw.alloc hbw.size _
   have HB2:=Lib.hid hb1W
   have HSZ:=Lib.hid hszW
   have hpn:=split_any ⟨x.org.toArray⟩ W0 (by show x.org.length≤_;exact hxl) (hR.out _ hb1W).2
   rw [show (ByteArray.mk x.org.toArray).data.toList=x.org from rfl] at hpn
   have hown0:Hid (∀ W,Below W0.heap.size W0 W→W.ownsRow W1.heap.size 9 1 (.slice A1 m c1) m (scells (clonesL (l.take k) p nq))∧W.cell? ⟨wr.heap.size,0,none⟩=some (.string ⟨x.path.toArray⟩)):=by
    show ∀ W,_→_
    intro W hb
    refine ⟨own_below (w:=W0) ?_ hb,(hblk.below hb (by omega)).cell 0⟩
    rw [hW0]
    exact hown.alloc _
   obtain ⟨xp,xo,⟨b1,b2,b3,bl⟩,⟨s1,s2,s3,sl⟩,⟨o1,o2,o3,ol⟩⟩:=x
   simp only at c0 c1' c2 c3 c4 HNT hW0 hpn hown0
   clear hx htk hxl hblk hrw hown hR hT hmw
   go_wp2_with fail
   rw [← hW0]
   clear hW0 hszW c0 c1' c2 c3 c4
   refine hpn.mono ?_
   clear hpn
   rintro e w4 ⟨rfl,hb4⟩
   obtain ⟨ho4,q0⟩:=hown0.out _ hb4
   have hbf:=HB2.out.trans (hb4.mono (by have:=HSZ.out;omega))
   have hbF:=HB1.out.trans (hbf.mono (by omega))
   have hbase:=hbf.size
   clear hown0 hb4
   rcases splitV_cases xo with ⟨hs1,hs2⟩ | ⟨sa,sb,hs1,hs2,-,-⟩
   ·rw [hs2]
    have HS1:=Lib.hid hs1
    clear hs1 hs2
    have HNT2:Hid (clonesL (l.take (k+1)) p nq=clonesL (l.take k) p nq):=by
     show _=_
     rw [HNT.out,if_neg (by unfold clP;rw [HS1.out];simp)]
     simp
    clear HNT
    go_wp2_with fail
    go_roundw
    case rel=>exact ⟨k+1,m,A1,c1,by omega,by omega,rfl,by go_num,by rw [HNT2.out];exact hml.out,by rw [HNT2.out];exact ho4,hbf⟩
    case measure=>simp [intOf];omega
   ·rw [hs2]
    have HCL:Hid (clP p nq xo=(sa == p && (nq == [] || sb == nq))):=by show _=_;unfold clP;rw [hs1]
    clear hs1 hs2
    by_cases hap:sa=p
    ·have hap1:(sa == p)=true:=by simpa using hap
     by_cases hq:nq=[]
     ·subst hq
      have HNT2:Hid (clonesL (l.take (k+1)) p []=clonesL (l.take k) p []++[xp]):=by
       show _=_
       rw [HNT.out,if_pos (by rw [HCL.out,hap1];rfl)]
      clear HNT
      go_wp2_with (at_builtin;(refine wpList_push w4 rfl (.tmp 43) (.tmp 46) 48 rfl W1.heap.size 9 i0 (.string ByteArray.empty) 1 16 Tryz.underlying48 hi0 hz0 hz1 hz2 rfl (by omega) (.slice A1 m c1) m _ rfl ho4 1 #[.string ⟨xp.toArray⟩] 9 rfl rfl (by simp [Value.oneCell']) (by unfold maxLen;omega) (by omega) hbase ?_);intro v' w' ho' hb' hg')
      obtain ⟨A2,c2,rfl,_,_,_⟩:=own_form ho'
      have hb'2:=hbf.trans hb'
      go_wp2_with fail
      go_roundw
      case rel=>exact ⟨k+1,m+1,A2,c2,by omega,by omega,rfl,by go_num,by show _=_;rw [HNT2.out,List.length_append,← hml.out];rfl,by rw [HNT2.out,scells_append];exact ho',hb'2⟩
      case measure=>simp [intOf];omega
     ·have hq1:(nq == [])=false:=by simpa using hq
      have hq2:(nq.toArray == #[])=false:=by simpa using hq
      by_cases hb:sb=nq
      ·subst hb
       have hq3:(sb == sb)=true:=by simp
       have HNT2:Hid (clonesL (l.take (k+1)) p sb=clonesL (l.take k) p sb++[xp]):=by
        show _=_
        rw [HNT.out,if_pos (by rw [HCL.out,hap1,hq3];simp)]
       clear HNT
       go_wp2_with (at_builtin;(refine wpList_push w4 rfl (.tmp 43) (.tmp 46) 48 rfl W1.heap.size 9 i0 (.string ByteArray.empty) 1 16 Tryz.underlying48 hi0 hz0 hz1 hz2 rfl (by omega) (.slice A1 m c1) m _ rfl ho4 1 #[.string ⟨xp.toArray⟩] 9 rfl rfl (by simp [Value.oneCell']) (by unfold maxLen;omega) (by omega) hbase ?_);intro v' w' ho' hb' hg')
       obtain ⟨A2,c2,rfl,_,_,_⟩:=own_form ho'
       have hb'2:=hbf.trans hb'
       go_wp2_with fail
       go_roundw
       case rel=>exact ⟨k+1,m+1,A2,c2,by omega,by omega,rfl,by go_num,by show _=_;rw [HNT2.out,List.length_append,← hml.out];rfl,by rw [HNT2.out,scells_append];exact ho',hb'2⟩
       case measure=>simp [intOf];omega
      ·have hb1:(sb == nq)=false:=by simpa using hb
       have HNT2:Hid (clonesL (l.take (k+1)) p nq=clonesL (l.take k) p nq):=by
        show _=_
        rw [HNT.out,if_neg (by rw [HCL.out,hap1,hq1,hb1];simp)]
        simp
       clear HNT
       go_wp2_with fail
       go_roundw
       case rel=>exact ⟨k+1,m,A1,c1,by omega,by omega,rfl,by go_num,by rw [HNT2.out];exact hml.out,by rw [HNT2.out];exact ho4,hbf⟩
       case measure=>simp [intOf];omega
    ·have hap1:(sa == p)=false:=by simpa using hap
     have HNT2:Hid (clonesL (l.take (k+1)) p nq=clonesL (l.take k) p nq):=by
      show _=_
      rw [HNT.out,if_neg (by rw [HCL.out,hap1];simp)]
      simp
     clear HNT
     go_wp2_with fail
     go_roundw
     case rel=>exact ⟨k+1,m,A1,c1,by omega,by omega,rfl,by go_num,by rw [HNT2.out];exact hml.out,by rw [HNT2.out];exact ho4,hbf⟩
     case measure=>simp [intOf];omega
  ·have hkn:k=n:=by omega
   have hall:l.take k=l:=List.take_of_length_le (by rw [hkn,HN.out];exact Nat.le_refl _)
   rw [hall,← HKL.out] at hown
   have HM:Hid (m=KL.length):=by show _=_;rw [hml.out,hall,HKL.out]
   have HO:=Lib.hid (own_mono hown (show w.heap.size≤W1.heap.size by have:=HSZ1.out;omega))
   have HBF:=Lib.hid (HB1.out.trans (hbw.mono (by have:=HSZ1.out;omega)))
   clear hkn hall hml hown hbw
   go_wp2_with fail
   go_ret
   refine ⟨A1,c1,by rw [← HM.out];rfl,by rw [← HM.out];exact HO.out,HBF.out⟩
end Go.Proofs.YtmladblmknbgnaaGreatDoor
namespace Go.Proofs.YtmladblmknbgnaaGreatDoor
open Go.RowKit
structure SnapO (w:World) (base:Nat) (x:SnapR):Prop where
 body:x.body.own w base 88 2 encB
 tags:x.tags.own w base 9 1 encS
 own:x.own.own w base 91 2 encP
structure SetO (w:World) (base:Nat) (x:SetR):Prop where
 body:x.body.own w base 88 2 encB
 snaps:x.snaps.own w base 70 5 encSnap
 each:∀ y∈x.snaps.l,SnapO w base y
 own:x.own.own w base 91 2 encP
structure StageO (w:World) (base:Nat) (x:StageR):Prop where
 own:x.own.own w base 91 2 encP
 body:x.body.own w base 88 2 encB
structure TenO (w:World) (base:Nat) (t:TenR):Prop where
 sets:t.sets.own w base 42 5 encSet
 eachS:∀ y∈t.sets.l,SetO w base y
 grants:t.grants.own w base 139 3 encG
 stages:t.stages.own w base 114 21 encStage
 eachG:∀ y∈t.stages.l,StageO w base y
 log:t.log.own w base 117 4 encEntry
section
variable {w w':World} {base base' g:Nat}
theorem SnapO.kept {x:SnapR} (h:SnapO w base x) (hg:w.grownBy w' (some g)) (hb:g<base):SnapO w' base x:=⟨h.body.kept hg hb,h.tags.kept hg hb,h.own.kept hg hb⟩
theorem SnapO.below {x:SnapR} (h:SnapO w base x) (hb:Below w.heap.size w w'):SnapO w' base x:=⟨h.body.below hb,h.tags.below hb,h.own.below hb⟩
theorem SnapO.mono {x:SnapR} (h:SnapO w base x) (hb:base'≤base):SnapO w base' x:=⟨h.body.mono hb,h.tags.mono hb,h.own.mono hb⟩
theorem SnapO.rd {x:SnapR} (h:SnapO w base x):x.rd w w.heap.size:=⟨h.body.rd,h.tags.rd,h.own.rd⟩
theorem SetO.kept {x:SetR} (h:SetO w base x) (hg:w.grownBy w' (some g)) (hb:g<base):SetO w' base x:=⟨h.body.kept hg hb,h.snaps.kept hg hb,fun y hy=>(h.each y hy).kept hg hb,h.own.kept hg hb⟩
theorem SetO.below {x:SetR} (h:SetO w base x) (hb:Below w.heap.size w w'):SetO w' base x:=⟨h.body.below hb,h.snaps.below hb,fun y hy=>(h.each y hy).below hb,h.own.below hb⟩
theorem SetO.mono {x:SetR} (h:SetO w base x) (hb:base'≤base):SetO w base' x:=⟨h.body.mono hb,h.snaps.mono hb,fun y hy=>(h.each y hy).mono hb,h.own.mono hb⟩
theorem SetO.rd {x:SetR} (h:SetO w base x):x.rd w w.heap.size:=⟨h.body.rd,h.snaps.rd,fun y hy=>(h.each y hy).rd,h.own.rd⟩
theorem StageO.kept {x:StageR} (h:StageO w base x) (hg:w.grownBy w' (some g)) (hb:g<base):StageO w' base x:=⟨h.own.kept hg hb,h.body.kept hg hb⟩
theorem StageO.below {x:StageR} (h:StageO w base x) (hb:Below w.heap.size w w'):StageO w' base x:=⟨h.own.below hb,h.body.below hb⟩
theorem StageO.mono {x:StageR} (h:StageO w base x) (hb:base'≤base):StageO w base' x:=⟨h.own.mono hb,h.body.mono hb⟩
theorem StageO.rd {x:StageR} (h:StageO w base x):x.rd w w.heap.size:=⟨h.own.rd,h.body.rd⟩
theorem TenO.kept {x:TenR} (h:TenO w base x) (hg:w.grownBy w' (some g)) (hb:g<base):TenO w' base x:=⟨h.sets.kept hg hb,fun y hy=>(h.eachS y hy).kept hg hb,h.grants.kept hg hb,h.stages.kept hg hb,fun y hy=>(h.eachG y hy).kept hg hb,h.log.kept hg hb⟩
theorem TenO.below {x:TenR} (h:TenO w base x) (hb:Below w.heap.size w w'):TenO w' base x:=⟨h.sets.below hb,fun y hy=>(h.eachS y hy).below hb,h.grants.below hb,h.stages.below hb,fun y hy=>(h.eachG y hy).below hb,h.log.below hb⟩
theorem TenO.mono {x:TenR} (h:TenO w base x) (hb:base'≤base):TenO w base' x:=⟨h.sets.mono hb,fun y hy=>(h.eachS y hy).mono hb,h.grants.mono hb,h.stages.mono hb,fun y hy=>(h.eachG y hy).mono hb,h.log.mono hb⟩
theorem TenO.rd {x:TenR} (h:TenO w base x):x.rd w w.heap.size:=⟨h.sets.rd,fun y hy=>(h.eachS y hy).rd,h.grants.rd,h.stages.rd,fun y hy=>(h.eachG y hy).rd,h.log.rd⟩
end
/-- lists that stand in a relation, place by place -/
def EachR {α:Type} (r:α→α→Prop) (l l':List α):Prop:=l.length=l'.length∧∀ i (h:i<l.length) (h':i<l'.length),r (l[i]'h) (l'[i]'h')
theorem EachR.nil {α:Type} {r:α→α→Prop}:EachR r [] []:=⟨rfl,fun i h=>absurd h (by simp)⟩
theorem EachR.snoc {α:Type} {r:α→α→Prop} {l l':List α} {a b:α} (h:EachR r l l') (hr:r a b):EachR r (l++[a]) (l'++[b]):=by
 refine ⟨by simp [h.1],fun i h1 h2=>?_⟩
 by_cases hi:i<l.length
 ·rw [List.getElem_append_left hi,List.getElem_append_left (by rw [← h.1];exact hi)]
  exact h.2 i hi _
 ·have:i=l.length:=by simp at h1;omega
  subst this
  simp [h.1]
  simpa [h.1] using hr
theorem EachR.refl {α:Type} {r:α→α→Prop} (hr:∀ a,r a a) (l:List α):EachR r l l:=⟨rfl,fun _ _ _=>hr _⟩
theorem EachR.symm {α:Type} {r:α→α→Prop} (hr:∀ a b,r a b→r b a) {l l':List α} (h:EachR r l l'):EachR r l' l:=⟨h.1.symm,fun i a b=>hr _ _ (h.2 i b a)⟩
theorem EachR.trans {α:Type} {r:α→α→Prop} (hr:∀ a b c,r a b→r b c→r a c) {l l' l'':List α} (h:EachR r l l') (h2:EachR r l' l''):EachR r l l'':=⟨h.1.trans h2.1,fun i a b=>hr _ _ _ (h.2 i a (by rw [← h.1];exact a)) (h2.2 i _ b)⟩
theorem SnapR.eqv.refl (x:SnapR):x.eqv x:=⟨rfl,rfl,rfl,rfl,rfl⟩
theorem SnapR.eqv.symm {x y:SnapR} (h:x.eqv y):y.eqv x:=⟨h.nm.symm,h.gd.symm,h.body.symm,h.tags.symm,h.own.symm⟩
theorem SnapR.eqv.trans {x y z:SnapR} (h:x.eqv y) (k:y.eqv z):x.eqv z:=⟨h.nm.trans k.nm,h.gd.trans k.gd,h.body.trans k.body,h.tags.trans k.tags,h.own.trans k.own⟩
theorem SetR.eqv.refl (x:SetR):x.eqv x:=⟨rfl,rfl,rfl,rfl,fun _ _ _=>SnapR.eqv.refl _,rfl⟩
theorem SetR.eqv.symm {x y:SetR} (h:x.eqv y):y.eqv x:=⟨h.path.symm,h.org.symm,h.body.symm,h.len.symm,fun i a b=>(h.each i b a).symm,h.own.symm⟩
theorem SetR.eqv.trans {x y z:SetR} (h:x.eqv y) (k:y.eqv z):x.eqv z:=⟨h.path.trans k.path,h.org.trans k.org,h.body.trans k.body,h.len.trans k.len,fun i a b=>(h.each i a (by rw [← h.len];exact a)).trans (k.each i _ b),h.own.trans k.own⟩
theorem StageR.eqv.refl (x:StageR):x.eqv x:=⟨rfl,rfl,rfl,rfl,rfl,rfl,rfl,rfl,rfl,rfl,rfl,rfl,rfl,rfl,rfl⟩
theorem StageR.eqv.symm {x y:StageR} (h:x.eqv y):y.eqv x:=⟨h.1.symm,h.2.symm,h.3.symm,h.4.symm,h.5.symm,h.6.symm,h.7.symm,h.8.symm,h.9.symm,h.10.symm,h.11.symm,h.12.symm,h.13.symm,h.14.symm,h.15.symm⟩
theorem StageR.eqv.trans {x y z:StageR} (h:x.eqv y) (k:y.eqv z):x.eqv z:=⟨h.1.trans k.1,h.2.trans k.2,h.3.trans k.3,h.4.trans k.4,h.5.trans k.5,h.6.trans k.6,h.7.trans k.7,h.8.trans k.8,h.9.trans k.9,h.10.trans k.10,h.11.trans k.11,h.12.trans k.12,h.13.trans k.13,h.14.trans k.14,h.15.trans k.15⟩
theorem TenR.eqv.refl (x:TenR):x.eqv x:=⟨rfl,rfl,rfl,rfl,fun _ _ _=>SetR.eqv.refl _,rfl,rfl,fun _ _ _=>StageR.eqv.refl _,rfl⟩
theorem TenR.eqv.symm {x y:TenR} (h:x.eqv y):y.eqv x:=⟨h.nm.symm,h.quota.symm,h.next.symm,h.lenS.symm,fun i a b=>(h.eachS i b a).symm,h.grants.symm,h.lenT.symm,fun i a b=>(h.eachT i b a).symm,h.log.symm⟩
theorem TenR.eqv.trans {x y z:TenR} (h:x.eqv y) (k:y.eqv z):x.eqv z:=⟨h.nm.trans k.nm,h.quota.trans k.quota,h.next.trans k.next,h.lenS.trans k.lenS,fun i a b=>(h.eachS i a (by rw [← h.lenS];exact a)).trans (k.eachS i _ b),h.grants.trans k.grants,h.lenT.trans k.lenT,fun i a b=>(h.eachT i a (by rw [← h.lenT];exact a)).trans (k.eachT i _ b),h.log.trans k.log⟩
/-! ### sizes hang on the content alone -/
theorem SnapR.eqv.sz {x y:SnapR} (h:x.eqv y) (hx:x.sz) (hb:y.body.n=x.body.n) (ht:y.tags.n=x.tags.n) (ho:y.own.n=x.own.n):y.sz:=⟨by rw [← h.nm];exact hx.nm,by rw [hb];exact hx.body,by rw [ht];exact hx.tags,by rw [← h.tags];exact hx.each,by rw [ho];exact hx.own,by rw [← h.own];exact hx.props⟩
end Go.Proofs.YtmladblmknbgnaaGreatDoor
namespace Go.Proofs.YtmladblmknbgnaaGreatDoor
open Go.RowKit
/-- what a copy is: it stands under all that is done elsewhere -/
structure Kept {α:Type} (O:Nat→World→α→Prop):Prop where
 below:∀ b w w' y,O b w y→Below w.heap.size w w'→O b w' y
 kept:∀ b w w' y g,O b w y→w.grownBy w' (some g)→g<b→O b w' y
 mono:∀ b b' w y,O b w y→b'≤b→O b' w y
theorem Tryz.eachSnap_info:(Tryz.prog.info? 70).map (fun i=>(i.zero,i.size,i.bytes))=some (some (.agg #[.string ByteArray.empty,.int .i64 0,.slice none 0 0,.slice none 0 0,.slice none 0 0]),5,96):=by kernel_rfl
set_option maxRecDepth 100000 in
set_option maxHeartbeats 2000000 in
theorem eachSnap_any (O:Nat→World→SnapR→Prop) (hO:Kept O) (r:SnapR→SnapR→Prop) (l:List SnapR) (n:Nat) (hnl:n=l.length) (A:Option Addr) (c:Nat) (w:World) (B:Nat) (hB:B≤w.heap.size) (hr:Reads w B 5 A n (cellsK encSnap l)) (hn:n≤1000000000000)
  (hC:∀ x∈l,∀ W,Below w.heap.size w W→Calls Tryz.prog 196 #[.agg (encSnap x).toArray] W fun e w'=>∃ y,e=.returned (.agg (encSnap y).toArray)∧O W.heap.size w' y∧r x y∧Below W.heap.size W w') :
  Calls Tryz.prog 195 #[.slice A n c,.func (.func 196) #[] #[]] w fun e w'=>∃ s:FS SnapR,e=.returned s.val∧s.own w' w.heap.size 70 5 encSnap∧(∀ y∈s.l,O w.heap.size w' y)∧EachR r l s.l∧Below w.heap.size w w':=by
 obtain ⟨i0,hi0,hz0,hz1,hz2⟩:=info_parts Tryz.eachSnap_info
 have HN:=Lib.hid hnl
 have HC:=Lib.hid hC
 have HR:=Lib.hid hr
 obtain ⟨g,hg⟩:∃ g,g=w.heap.size:=⟨_,rfl⟩
 have HGG:=Lib.hid hg
 clear hnl hC hr
 go_enter Tryz.func195,Tryz.ntmps195
 go_wp2_with (refine wpList_make_own w rfl (.const (.int .i64 0)) (.tmp 9) 39 rfl w.heap.size 70 i0 _ 5 Tryz.underlying39 hi0 hz0 hz1 .i64 .i64 (n:Int) n rfl rfl rfl (by rw [hz2];omega) (by unfold maxLen;omega) (Nat.le_refl _) ?_;intro w1 hown1 hg1;have HO1:=Lib.hid hown1;have HB1:=Lib.hid (show Below w.heap.size w w1 from ⟨hg1.os,hg1.tape,hg1.output,hg1.size,fun k hk=>hg1.block k hk (by simp)⟩);clear hown1 hg1)
 rw [← hg] at HO1 HB1 ⊢
 clear hg
 go_loopw [5,13] (fun o j wr=>∃ (k:Nat) (ys:List SnapR),k≤n∧j=.int .i64 (k:Int)∧o=.slice (some ⟨g,0,none⟩) k n∧Hid (ys.length=k)∧Hid (wr.ownsRow g 70 5 (.slice (some ⟨g,0,none⟩) k n) k (cellsK encSnap ys))∧Hid (∀ y∈ys,O (g+1) wr y)∧Hid (EachR r (l.take k) ys)∧Hid (Below g w wr)) (fun _ j _=>n-(intOf j).toNat)
 case atStart=>exact ⟨0,[],Nat.zero_le _,rfl,rfl,rfl,HO1.out,fun y hy=>absurd hy (by simp),by rw [List.take_zero];exact EachR.nil,HB1.out⟩
 case round =>
  clear HO1 HB1
  obtain ⟨k,ys,hk,rfl,rfl,HY,HOW,HE,HEQ,HB⟩:=hrel
  by_cases hlt:k<n
  ·obtain ⟨ad,rfl,hadB,hel⟩:=Reads.elAll (enc:=encSnap) (k:=5) (fun _=>rfl) (HR.out.below (HB.out.mono (by have:=HGG.out;omega))) HN.out hlt
   have hkl:k<l.length:=by have:=HN.out;omega
   have hcx:=HC.out _ (List.getElem_mem hkl)
   have HTK:=Lib.hid (show l.take (k+1)=l.take k++[l[k]'hkl] from by rw [List.take_add_one,List.getElem?_eq_getElem hkl];rfl)
   have hki:(k:Int)<(n:Int):=by omega
   obtain ⟨x,hx⟩:∃ x,x=l[k]'hkl:=⟨_,rfl⟩
   rw [← hx] at hel hcx HTK
   obtain ⟨cs,hcs⟩:∃ cs,cs=encSnap x:=⟨_,rfl⟩
   have hcl:cs.length=5:=by rw [hcs];rfl
   have hc1:∀ u∈cs,u.oneCell'=true:=by rw [hcs];intro u hu;simp [encSnap] at hu;rcases hu with rfl | rfl | rfl | rfl | rfl <;> rfl
   rw [← hcs] at hel hcx
   have HEL:=Lib.hid hel
   have hSB:Below w.heap.size w (wr.alloc (.cells cs.toArray 70)):=by rw [← HGG.out];exact HB.out.alloc (by have:=HB.out.size;have:=HGG.out;omega) _
   have hcx:=hcx _ hSB
   have hOW2:=own_below HOW.out ((Below.refl wr.heap.size wr).alloc (Nat.le_refl _) (.cells cs.toArray 70))
   have HL7:Hid (∀ j v,cs[j]?=some v→(wr.alloc (.cells cs.toArray 70)).cell? ((⟨wr.heap.size,0,none⟩:Addr).add j)=some v):=by
    show ∀ j v,_→_
    intro j v hv
    have:=(Blk.new wr 70 cs.toArray).cell j
    rw [zF,hv] at this
    rw [addr_add0]
    exact this
   clear hel hadB HR HC hcs hx
   go_wp2_with (first | (refine wpList_load_at rfl 70 (.tmp 15) rfl (ad.add (k*5)) rfl cs _ HEL.out Tryz.underlying70 rfl (by rw [hcl];kernel_rfl) ?_) | (refine wpList_store_new wr rfl 70 (.tmp 7) (.tmp 16) rfl 70 _ cs rfl rfl (by rw [hcl];rfl) (by rw [hcl];kernel_rfl) hc1 ?_) | (refine wpList_load_at rfl 70 (.tmp 7) rfl ⟨wr.heap.size,0,none⟩ rfl cs _ HL7.out Tryz.underlying70 rfl (by rw [hcl];kernel_rfl) ?_))
   clear HEL
   refine hcx.mono ?_
   clear hcx
   rintro e w2 ⟨y,rfl,hoy,hry,hby⟩
   obtain ⟨ds,hds⟩:∃ ds,ds=encSnap y:=⟨_,rfl⟩
   have hdl:ds.length=5:=by rw [hds];rfl
   have hd1:∀ u∈ds,u.oneCell'=true:=by rw [hds];intro u hu;simp [encSnap] at hu;rcases hu with rfl | rfl | rfl | rfl | rfl <;> rfl
   rw [← hds]
   have hgs:g<wr.heap.size:=(HOW.out.lt g rfl).2
   have hba:Below wr.heap.size wr (w2.alloc (.cells ds.toArray 70)):=((((Below.refl wr.heap.size wr).alloc (Nat.le_refl _) (.cells cs.toArray 70)).trans (hby.mono (by simp))).alloc (by have:=hby.size;simp at this;omega) _)
   have HOW3:=Lib.hid (own_below HOW.out hba)
   have HB3:=Lib.hid (HB.out.trans (hba.mono (by omega)))
   have HE3:Hid (∀ z∈ys++[y],O (g+1) (w2.alloc (.cells ds.toArray 70)) z):=by
    show ∀ z∈_,_
    intro z hz
    rcases List.mem_append.1 hz with hz | hz
    ·exact hO.below _ _ _ _ (HE.out z hz) hba
    ·rw [List.mem_singleton.1 hz]
     exact hO.below _ _ _ _ (hO.mono _ _ _ _ hoy (by simp;omega)) ((Below.refl w2.heap.size w2).alloc (Nat.le_refl _) _)
   have HEQ3:Hid (EachR r (l.take (k+1)) (ys++[y])):=by show EachR _ _ _;rw [HTK.out];exact HEQ.out.snoc hry
   have HY3:=Lib.hid (show (ys++[y]).length=k+1 by rw [List.length_append,HY.out];rfl)
   have hcell:∀ (j:Nat) (u:Value),ds[j]?=some u→(w2.alloc (.cells ds.toArray 70)).cell? ((⟨w2.heap.size,0,none⟩:Addr).add j)=some u:=fun j u hu=>by
    have:=(Blk.new w2 70 ds.toArray).cell j
    rw [zF,hu] at this
    rw [addr_add0]
    exact this
   have HSZ3:=Lib.hid (show g≤(w2.alloc (.cells ds.toArray 70)).heap.size by have:=hba.size;omega)
   have hds':=Lib.hid hds
   clear hba hoy hry hby HOW HE HEQ HY HB HTK hds
   have hi1:i0.size=ds.length:=by rw [hdl];exact hz1
   obtain ⟨W3,hW3⟩:∃ W,W=w2.alloc (.cells ds.toArray 70):=⟨_,rfl⟩
   rw [← hW3] at HOW3 HB3 HE3 hcell HSZ3
   go_wp2_with (first | (refine wpList_build_one rfl 39 70 (.tmp 20) rfl ds rfl i0 _ Tryz.underlying39 hi0 hz0 hi1 (by omega) (by omega) ?_;rw [← hW3];clear hW3) | (at_builtin;refine wpList_append_fits _ rfl (.tmp 17) (.tmp 21) 39 rfl g 70 i0 5 Tryz.underlying39 hi0 hz1 g k n _ rfl HOW3.out ⟨w2.heap.size,0,none⟩ 1 1 ds rfl (by omega) hcell hd1 (by omega) ?_;intro w4 hown4 hg4;have HO4:=Lib.hid hown4;have HG4:=Lib.hid hg4;clear hown4 hg4))
   go_roundw
   case rel =>
    refine ⟨k+1,ys++[y],by omega,by go_num,rfl,HY3.out,?_,fun z hz=>hO.kept _ _ _ _ _ (HE3.out z hz) HG4.out (by omega),HEQ3.out,HB3.out.grown HG4.out HSZ3.out (fun q hq=>by simp at hq;omega)⟩
    show World.ownsRow _ _ _ _ _ _ _
    rw [cellsK_append,cellsK_one,← hds'.out]
    exact HO4.out
   case measure=>simp [intOf];omega
  ·have hki:¬ (k:Int)<(n:Int):=by omega
   obtain rfl:k=n:=by omega
   go_wp2_with fail
   go_ret
   obtain rfl:=HGG.out
   refine ⟨⟨some ⟨w.heap.size,0,none⟩,k,k,ys⟩,rfl,⟨HY.out.symm,HOW.out⟩,fun y hy=>hO.mono _ _ _ _ (HE.out y hy) (by omega),?_,HB.out⟩
   have:=HEQ.out
   rw [HN.out,List.take_length] at this
   exact this
theorem Tryz.eachSet_info:(Tryz.prog.info? 42).map (fun i=>(i.zero,i.size,i.bytes))=some (some (.agg #[.string ByteArray.empty,.string ByteArray.empty,.slice none 0 0,.slice none 0 0,.slice none 0 0]),5,104):=by kernel_rfl
set_option maxRecDepth 100000 in
set_option maxHeartbeats 2000000 in
theorem eachSet_any (O:Nat→World→SetR→Prop) (hO:Kept O) (r:SetR→SetR→Prop) (D:SetR→SetR→Prop) (hD:∀ b b' w w' y z,O b w y→O b' w' z→w.heap.size≤b'→D y z) (l:List SetR) (n:Nat) (hnl:n=l.length) (A:Option Addr) (c:Nat) (w:World) (B:Nat) (hB:B≤w.heap.size) (hr:Reads w B 5 A n (cellsK encSet l)) (hn:n≤1000000000000)
  (hC:∀ x∈l,∀ W,Below w.heap.size w W→Calls Tryz.prog 133 #[.agg (encSet x).toArray] W fun e w'=>∃ y,e=.returned (.agg (encSet y).toArray)∧O W.heap.size w' y∧r x y∧Below W.heap.size W w') :
  Calls Tryz.prog 132 #[.slice A n c,.func (.func 133) #[] #[]] w fun e w'=>∃ s:FS SetR,e=.returned s.val∧s.own w' w.heap.size 42 5 encSet∧(∀ y∈s.l,O w.heap.size w' y)∧EachR r l s.l∧s.l.Pairwise D∧Below w.heap.size w w':=by
 obtain ⟨i0,hi0,hz0,hz1,hz2⟩:=info_parts Tryz.eachSet_info
 have HN:=Lib.hid hnl
 have HC:=Lib.hid hC
 have HR:=Lib.hid hr
 obtain ⟨g,hg⟩:∃ g,g=w.heap.size:=⟨_,rfl⟩
 have HGG:=Lib.hid hg
 clear hnl hC hr
 go_enter Tryz.func132,Tryz.ntmps132
 go_wp2_with (refine wpList_make_own w rfl (.const (.int .i64 0)) (.tmp 9) 22 rfl w.heap.size 42 i0 _ 5 Tryz.underlying22 hi0 hz0 hz1 .i64 .i64 (n:Int) n rfl rfl rfl (by rw [hz2];omega) (by unfold maxLen;omega) (Nat.le_refl _) ?_;intro w1 hown1 hg1;have HO1:=Lib.hid hown1;have HB1:=Lib.hid (show Below w.heap.size w w1 from ⟨hg1.os,hg1.tape,hg1.output,hg1.size,fun k hk=>hg1.block k hk (by simp)⟩);clear hown1 hg1)
 rw [← hg] at HO1 HB1 ⊢
 clear hg
 go_loopw [5,13] (fun o j wr=>∃ (k:Nat) (ys:List SetR),k≤n∧j=.int .i64 (k:Int)∧o=.slice (some ⟨g,0,none⟩) k n∧Hid (ys.length=k)∧Hid (wr.ownsRow g 42 5 (.slice (some ⟨g,0,none⟩) k n) k (cellsK encSet ys))∧Hid (∀ y∈ys,O (g+1) wr y)∧Hid (EachR r (l.take k) ys)∧Hid (ys.Pairwise D)∧Hid (Below g w wr)) (fun _ j _=>n-(intOf j).toNat)
 case atStart=>exact ⟨0,[],Nat.zero_le _,rfl,rfl,rfl,HO1.out,fun y hy=>absurd hy (by simp),by rw [List.take_zero];exact EachR.nil,List.Pairwise.nil,HB1.out⟩
 case round =>
  clear HO1 HB1
  obtain ⟨k,ys,hk,rfl,rfl,HY,HOW,HE,HEQ,HPW,HB⟩:=hrel
  by_cases hlt:k<n
  ·obtain ⟨ad,rfl,hadB,hel⟩:=Reads.elAll (enc:=encSet) (k:=5) (fun _=>rfl) (HR.out.below (HB.out.mono (by have:=HGG.out;omega))) HN.out hlt
   have hkl:k<l.length:=by have:=HN.out;omega
   have hcx:=HC.out _ (List.getElem_mem hkl)
   have HTK:=Lib.hid (show l.take (k+1)=l.take k++[l[k]'hkl] from by rw [List.take_add_one,List.getElem?_eq_getElem hkl];rfl)
   have hki:(k:Int)<(n:Int):=by omega
   obtain ⟨x,hx⟩:∃ x,x=l[k]'hkl:=⟨_,rfl⟩
   rw [← hx] at hel hcx HTK
   obtain ⟨cs,hcs⟩:∃ cs,cs=encSet x:=⟨_,rfl⟩
   have hcl:cs.length=5:=by rw [hcs];rfl
   have hc1:∀ u∈cs,u.oneCell'=true:=by rw [hcs];intro u hu;simp [encSet] at hu;rcases hu with rfl | rfl | rfl | rfl | rfl <;> rfl
   rw [← hcs] at hel hcx
   have HEL:=Lib.hid hel
   have hSB:Below w.heap.size w (wr.alloc (.cells cs.toArray 42)):=by rw [← HGG.out];exact HB.out.alloc (by have:=HB.out.size;have:=HGG.out;omega) _
   have hcx:=hcx _ hSB
   have hOW2:=own_below HOW.out ((Below.refl wr.heap.size wr).alloc (Nat.le_refl _) (.cells cs.toArray 42))
   have HL7:Hid (∀ j v,cs[j]?=some v→(wr.alloc (.cells cs.toArray 42)).cell? ((⟨wr.heap.size,0,none⟩:Addr).add j)=some v):=by
    show ∀ j v,_→_
    intro j v hv
    have:=(Blk.new wr 42 cs.toArray).cell j
    rw [zF,hv] at this
    rw [addr_add0]
    exact this
   clear hel hadB HR HC hcs hx
   go_wp2_with (first | (refine wpList_load_at rfl 42 (.tmp 15) rfl (ad.add (k*5)) rfl cs _ HEL.out Tryz.underlying42 rfl (by rw [hcl];kernel_rfl) ?_) | (refine wpList_store_new wr rfl 42 (.tmp 7) (.tmp 16) rfl 42 _ cs rfl rfl (by rw [hcl];rfl) (by rw [hcl];kernel_rfl) hc1 ?_) | (refine wpList_load_at rfl 42 (.tmp 7) rfl ⟨wr.heap.size,0,none⟩ rfl cs _ HL7.out Tryz.underlying42 rfl (by rw [hcl];kernel_rfl) ?_))
   clear HEL
   refine hcx.mono ?_
   clear hcx
   rintro e w2 ⟨y,rfl,hoy,hry,hby⟩
   obtain ⟨ds,hds⟩:∃ ds,ds=encSet y:=⟨_,rfl⟩
   have hdl:ds.length=5:=by rw [hds];rfl
   have hd1:∀ u∈ds,u.oneCell'=true:=by rw [hds];intro u hu;simp [encSet] at hu;rcases hu with rfl | rfl | rfl | rfl | rfl <;> rfl
   rw [← hds]
   have hgs:g<wr.heap.size:=(HOW.out.lt g rfl).2
   have hba:Below wr.heap.size wr (w2.alloc (.cells ds.toArray 42)):=((((Below.refl wr.heap.size wr).alloc (Nat.le_refl _) (.cells cs.toArray 42)).trans (hby.mono (by simp))).alloc (by have:=hby.size;simp at this;omega) _)
   have HOW3:=Lib.hid (own_below HOW.out hba)
   have HB3:=Lib.hid (HB.out.trans (hba.mono (by omega)))
   have HE3:Hid (∀ z∈ys++[y],O (g+1) (w2.alloc (.cells ds.toArray 42)) z):=by
    show ∀ z∈_,_
    intro z hz
    rcases List.mem_append.1 hz with hz | hz
    ·exact hO.below _ _ _ _ (HE.out z hz) hba
    ·rw [List.mem_singleton.1 hz]
     exact hO.below _ _ _ _ (hO.mono _ _ _ _ hoy (by simp;omega)) ((Below.refl w2.heap.size w2).alloc (Nat.le_refl _) _)
   have HPW3:Hid ((ys++[y]).Pairwise D):=by
    show List.Pairwise _ _
    rw [List.pairwise_append]
    exact ⟨HPW.out,by simp,fun a ha b hb=>by rw [List.mem_singleton.1 hb];exact hD _ _ _ _ _ _ (HE.out a ha) hoy (by simp)⟩
   have HEQ3:Hid (EachR r (l.take (k+1)) (ys++[y])):=by show EachR _ _ _;rw [HTK.out];exact HEQ.out.snoc hry
   have HY3:=Lib.hid (show (ys++[y]).length=k+1 by rw [List.length_append,HY.out];rfl)
   have hcell:∀ (j:Nat) (u:Value),ds[j]?=some u→(w2.alloc (.cells ds.toArray 42)).cell? ((⟨w2.heap.size,0,none⟩:Addr).add j)=some u:=fun j u hu=>by
    have:=(Blk.new w2 42 ds.toArray).cell j
    rw [zF,hu] at this
    rw [addr_add0]
    exact this
   have HSZ3:=Lib.hid (show g≤(w2.alloc (.cells ds.toArray 42)).heap.size by have:=hba.size;omega)
   have hds':=Lib.hid hds
   clear hba hoy hry hby HOW HE HEQ HPW HY HB HTK hds
   have hi1:i0.size=ds.length:=by rw [hdl];exact hz1
   obtain ⟨W3,hW3⟩:∃ W,W=w2.alloc (.cells ds.toArray 42):=⟨_,rfl⟩
   rw [← hW3] at HOW3 HB3 HE3 hcell HSZ3
   go_wp2_with (first | (refine wpList_build_one rfl 22 42 (.tmp 20) rfl ds rfl i0 _ Tryz.underlying22 hi0 hz0 hi1 (by omega) (by omega) ?_;rw [← hW3];clear hW3) | (at_builtin;refine wpList_append_fits _ rfl (.tmp 17) (.tmp 21) 22 rfl g 42 i0 5 Tryz.underlying22 hi0 hz1 g k n _ rfl HOW3.out ⟨w2.heap.size,0,none⟩ 1 1 ds rfl (by omega) hcell hd1 (by omega) ?_;intro w4 hown4 hg4;have HO4:=Lib.hid hown4;have HG4:=Lib.hid hg4;clear hown4 hg4))
   go_roundw
   case rel =>
    refine ⟨k+1,ys++[y],by omega,by go_num,rfl,HY3.out,?_,fun z hz=>hO.kept _ _ _ _ _ (HE3.out z hz) HG4.out (by omega),HEQ3.out,HPW3.out,HB3.out.grown HG4.out HSZ3.out (fun q hq=>by simp at hq;omega)⟩
    show World.ownsRow _ _ _ _ _ _ _
    rw [cellsK_append,cellsK_one,← hds'.out]
    exact HO4.out
   case measure=>simp [intOf];omega
  ·have hki:¬ (k:Int)<(n:Int):=by omega
   obtain rfl:k=n:=by omega
   go_wp2_with fail
   go_ret
   obtain rfl:=HGG.out
   refine ⟨⟨some ⟨w.heap.size,0,none⟩,k,k,ys⟩,rfl,⟨HY.out.symm,HOW.out⟩,fun y hy=>hO.mono _ _ _ _ (HE.out y hy) (by omega),?_,HPW.out,HB.out⟩
   have:=HEQ.out
   rw [HN.out,List.take_length] at this
   exact this
theorem Tryz.eachStage_info:(Tryz.prog.info? 114).map (fun i=>(i.zero,i.size,i.bytes))=some (some (.agg #[.string ByteArray.empty,.int .i64 0,.string ByteArray.empty,.int .i64 0,.int .i64 0,.slice none 0 0,.int .i64 0,.int .i64 0,.string ByteArray.empty,.int .u64 0,.int .u64 0,.int .u64 0,.int .u64 0,.slice none 0 0,.int .i64 0,.int .i64 0,.int .u64 0,.int .u64 0,.int .u64 0,.int .u64 0,.bool false]),21,224):=by kernel_rfl
set_option maxRecDepth 100000 in
set_option maxHeartbeats 2000000 in
theorem eachStage_any (O:Nat→World→StageR→Prop) (hO:Kept O) (r:StageR→StageR→Prop) (l:List StageR) (n:Nat) (hnl:n=l.length) (A:Option Addr) (c:Nat) (w:World) (B:Nat) (hB:B≤w.heap.size) (hr:Reads w B 21 A n (cellsK encStage l)) (hn:n≤1000000000000)
  (hC:∀ x∈l,∀ W,Below w.heap.size w W→Calls Tryz.prog 136 #[.agg (encStage x).toArray] W fun e w'=>∃ y,e=.returned (.agg (encStage y).toArray)∧O W.heap.size w' y∧r x y∧Below W.heap.size W w') :
  Calls Tryz.prog 135 #[.slice A n c,.func (.func 136) #[] #[]] w fun e w'=>∃ s:FS StageR,e=.returned s.val∧s.own w' w.heap.size 114 21 encStage∧(∀ y∈s.l,O w.heap.size w' y)∧EachR r l s.l∧Below w.heap.size w w':=by
 obtain ⟨i0,hi0,hz0,hz1,hz2⟩:=info_parts Tryz.eachStage_info
 have HN:=Lib.hid hnl
 have HC:=Lib.hid hC
 have HR:=Lib.hid hr
 obtain ⟨g,hg⟩:∃ g,g=w.heap.size:=⟨_,rfl⟩
 have HGG:=Lib.hid hg
 clear hnl hC hr
 go_enter Tryz.func135,Tryz.ntmps135
 go_wp2_with (refine wpList_make_own w rfl (.const (.int .i64 0)) (.tmp 9) 24 rfl w.heap.size 114 i0 _ 21 Tryz.underlying24 hi0 hz0 hz1 .i64 .i64 (n:Int) n rfl rfl rfl (by rw [hz2];omega) (by unfold maxLen;omega) (Nat.le_refl _) ?_;intro w1 hown1 hg1;have HO1:=Lib.hid hown1;have HB1:=Lib.hid (show Below w.heap.size w w1 from ⟨hg1.os,hg1.tape,hg1.output,hg1.size,fun k hk=>hg1.block k hk (by simp)⟩);clear hown1 hg1)
 rw [← hg] at HO1 HB1 ⊢
 clear hg
 go_loopw [5,13] (fun o j wr=>∃ (k:Nat) (ys:List StageR),k≤n∧j=.int .i64 (k:Int)∧o=.slice (some ⟨g,0,none⟩) k n∧Hid (ys.length=k)∧Hid (wr.ownsRow g 114 21 (.slice (some ⟨g,0,none⟩) k n) k (cellsK encStage ys))∧Hid (∀ y∈ys,O (g+1) wr y)∧Hid (EachR r (l.take k) ys)∧Hid (Below g w wr)) (fun _ j _=>n-(intOf j).toNat)
 case atStart=>exact ⟨0,[],Nat.zero_le _,rfl,rfl,rfl,HO1.out,fun y hy=>absurd hy (by simp),by rw [List.take_zero];exact EachR.nil,HB1.out⟩
 case round =>
  clear HO1 HB1
  obtain ⟨k,ys,hk,rfl,rfl,HY,HOW,HE,HEQ,HB⟩:=hrel
  by_cases hlt:k<n
  ·obtain ⟨ad,rfl,hadB,hel⟩:=Reads.elAll (enc:=encStage) (k:=21) (fun _=>rfl) (HR.out.below (HB.out.mono (by have:=HGG.out;omega))) HN.out hlt
   have hkl:k<l.length:=by have:=HN.out;omega
   have hcx:=HC.out _ (List.getElem_mem hkl)
   have HTK:=Lib.hid (show l.take (k+1)=l.take k++[l[k]'hkl] from by rw [List.take_add_one,List.getElem?_eq_getElem hkl];rfl)
   have hki:(k:Int)<(n:Int):=by omega
   obtain ⟨x,hx⟩:∃ x,x=l[k]'hkl:=⟨_,rfl⟩
   rw [← hx] at hel hcx HTK
   obtain ⟨cs,hcs⟩:∃ cs,cs=encStage x:=⟨_,rfl⟩
   have hcl:cs.length=21:=by rw [hcs];rfl
   have hc1:∀ u∈cs,u.oneCell'=true:=by rw [hcs];intro u hu;simp [encStage,smV] at hu;rcases hu with rfl | rfl | rfl | rfl | rfl | rfl | rfl | rfl | rfl | rfl | rfl | rfl | rfl | rfl | rfl | rfl | rfl | rfl | rfl | rfl | rfl <;> rfl
   rw [← hcs] at hel hcx
   have HEL:=Lib.hid hel
   have hSB:Below w.heap.size w (wr.alloc (.cells cs.toArray 114)):=by rw [← HGG.out];exact HB.out.alloc (by have:=HB.out.size;have:=HGG.out;omega) _
   have hcx:=hcx _ hSB
   have hOW2:=own_below HOW.out ((Below.refl wr.heap.size wr).alloc (Nat.le_refl _) (.cells cs.toArray 114))
   have HL7:Hid (∀ j v,cs[j]?=some v→(wr.alloc (.cells cs.toArray 114)).cell? ((⟨wr.heap.size,0,none⟩:Addr).add j)=some v):=by
    show ∀ j v,_→_
    intro j v hv
    have:=(Blk.new wr 114 cs.toArray).cell j
    rw [zF,hv] at this
    rw [addr_add0]
    exact this
   clear hel hadB HR HC hcs hx
   go_wp2_with (first | (refine wpList_load_at rfl 114 (.tmp 15) rfl (ad.add (k*21)) rfl cs _ HEL.out Tryz.underlying114 rfl (by rw [hcl];kernel_rfl) ?_) | (refine wpList_store_new wr rfl 114 (.tmp 7) (.tmp 16) rfl 114 _ cs rfl rfl (by rw [hcl];rfl) (by rw [hcl];kernel_rfl) hc1 ?_) | (refine wpList_load_at rfl 114 (.tmp 7) rfl ⟨wr.heap.size,0,none⟩ rfl cs _ HL7.out Tryz.underlying114 rfl (by rw [hcl];kernel_rfl) ?_))
   clear HEL
   refine hcx.mono ?_
   clear hcx
   rintro e w2 ⟨y,rfl,hoy,hry,hby⟩
   obtain ⟨ds,hds⟩:∃ ds,ds=encStage y:=⟨_,rfl⟩
   have hdl:ds.length=21:=by rw [hds];rfl
   have hd1:∀ u∈ds,u.oneCell'=true:=by rw [hds];intro u hu;simp [encStage,smV] at hu;rcases hu with rfl | rfl | rfl | rfl | rfl | rfl | rfl | rfl | rfl | rfl | rfl | rfl | rfl | rfl | rfl | rfl | rfl | rfl | rfl | rfl | rfl <;> rfl
   rw [← hds]
   have hgs:g<wr.heap.size:=(HOW.out.lt g rfl).2
   have hba:Below wr.heap.size wr (w2.alloc (.cells ds.toArray 114)):=((((Below.refl wr.heap.size wr).alloc (Nat.le_refl _) (.cells cs.toArray 114)).trans (hby.mono (by simp))).alloc (by have:=hby.size;simp at this;omega) _)
   have HOW3:=Lib.hid (own_below HOW.out hba)
   have HB3:=Lib.hid (HB.out.trans (hba.mono (by omega)))
   have HE3:Hid (∀ z∈ys++[y],O (g+1) (w2.alloc (.cells ds.toArray 114)) z):=by
    show ∀ z∈_,_
    intro z hz
    rcases List.mem_append.1 hz with hz | hz
    ·exact hO.below _ _ _ _ (HE.out z hz) hba
    ·rw [List.mem_singleton.1 hz]
     exact hO.below _ _ _ _ (hO.mono _ _ _ _ hoy (by simp;omega)) ((Below.refl w2.heap.size w2).alloc (Nat.le_refl _) _)
   have HEQ3:Hid (EachR r (l.take (k+1)) (ys++[y])):=by show EachR _ _ _;rw [HTK.out];exact HEQ.out.snoc hry
   have HY3:=Lib.hid (show (ys++[y]).length=k+1 by rw [List.length_append,HY.out];rfl)
   have hcell:∀ (j:Nat) (u:Value),ds[j]?=some u→(w2.alloc (.cells ds.toArray 114)).cell? ((⟨w2.heap.size,0,none⟩:Addr).add j)=some u:=fun j u hu=>by
    have:=(Blk.new w2 114 ds.toArray).cell j
    rw [zF,hu] at this
    rw [addr_add0]
    exact this
   have HSZ3:=Lib.hid (show g≤(w2.alloc (.cells ds.toArray 114)).heap.size by have:=hba.size;omega)
   have hds':=Lib.hid hds
   clear hba hoy hry hby HOW HE HEQ HY HB HTK hds
   have hi1:i0.size=ds.length:=by rw [hdl];exact hz1
   obtain ⟨W3,hW3⟩:∃ W,W=w2.alloc (.cells ds.toArray 114):=⟨_,rfl⟩
   rw [← hW3] at HOW3 HB3 HE3 hcell HSZ3
   go_wp2_with (first | (refine wpList_build_one rfl 24 114 (.tmp 20) rfl ds rfl i0 _ Tryz.underlying24 hi0 hz0 hi1 (by omega) (by omega) ?_;rw [← hW3];clear hW3) | (at_builtin;refine wpList_append_fits _ rfl (.tmp 17) (.tmp 21) 24 rfl g 114 i0 21 Tryz.underlying24 hi0 hz1 g k n _ rfl HOW3.out ⟨w2.heap.size,0,none⟩ 1 1 ds rfl (by omega) hcell hd1 (by omega) ?_;intro w4 hown4 hg4;have HO4:=Lib.hid hown4;have HG4:=Lib.hid hg4;clear hown4 hg4))
   go_roundw
   case rel =>
    refine ⟨k+1,ys++[y],by omega,by go_num,rfl,HY3.out,?_,fun z hz=>hO.kept _ _ _ _ _ (HE3.out z hz) HG4.out (by omega),HEQ3.out,HB3.out.grown HG4.out HSZ3.out (fun q hq=>by simp at hq;omega)⟩
    show World.ownsRow _ _ _ _ _ _ _
    rw [cellsK_append,cellsK_one,← hds'.out]
    exact HO4.out
   case measure=>simp [intOf];omega
  ·have hki:¬ (k:Int)<(n:Int):=by omega
   obtain rfl:k=n:=by omega
   go_wp2_with fail
   go_ret
   obtain rfl:=HGG.out
   refine ⟨⟨some ⟨w.heap.size,0,none⟩,k,k,ys⟩,rfl,⟨HY.out.symm,HOW.out⟩,fun y hy=>hO.mono _ _ _ _ (HE.out y hy) (by omega),?_,HB.out⟩
   have:=HEQ.out
   rw [HN.out,List.take_length] at this
   exact this
end Go.Proofs.YtmladblmknbgnaaGreatDoor
namespace Go.Proofs.YtmladblmknbgnaaGreatDoor
open Go.RowKit
def SnapsW (w:World) (lo hi:Nat) (v:Value):Prop:=∃ n xs,RowW w lo hi 70 5 v n xs∧∀ i,i<n→∃ b,xs[i*5+2]?=some b∧RowX w lo hi 88 2 b
def SetsW (w:World) (lo hi:Nat) (v:Value):Prop:=∃ n xs,RowW w lo hi 42 5 v n xs∧∀ i,i<n→∃ b s o,xs[i*5+2]?=some b∧xs[i*5+3]?=some s∧xs[i*5+4]?=some o∧RowX w lo hi 88 2 b∧SnapsW w lo hi s∧RowX w lo hi 91 2 o
theorem SnapsW.nil (w:World) (lo hi:Nat):SnapsW w lo hi (.slice none 0 0):=⟨0,[],⟨World.ownsRow_nil _ _ _ _,fun g h=>by simp [Value.ownBlock] at h⟩,fun i hi=>absurd hi (by omega)⟩
section
variable {w w':World} {lo hi base size n cap g:Nat} {e:TypeId} {xs:List Value}
/-- a store into a row that is no snapshots' -/
theorem SnapsW.set (hrow:w.ownsRow base e size (.slice (some ⟨g,0,none⟩) n cap) n xs) (hne:70≠e) {v:Value} (h:SnapsW w lo hi v) (o:Nat) (cs:List Value):SnapsW (w.setCells g o cs) lo hi v:=by
 obtain ⟨m,ys,h,hs⟩:=h
 rcases h.or hrow o cs with h | ⟨he,_,_⟩
 ·exact ⟨m,ys,h,fun i hi=>let ⟨b,h1,h2⟩:=hs i hi;⟨b,h1,h2.set hrow o cs⟩⟩
 ·exact absurd he hne
/-- a store into a row that is neither sets' nor snapshots' -/
theorem SetsW.set (hrow:w.ownsRow base e size (.slice (some ⟨g,0,none⟩) n cap) n xs) (hne:70≠e) (hne2:42≠e) {v:Value} (h:SetsW w lo hi v) (o:Nat) (cs:List Value):SetsW (w.setCells g o cs) lo hi v:=by
 obtain ⟨m,ys,h,hs⟩:=h
 rcases h.or hrow o cs with h | ⟨he,_,_⟩
 ·exact ⟨m,ys,h,fun i hi=>let ⟨b,s,p,h1,h2,h3,h4,h5,h6⟩:=hs i hi;⟨b,s,p,h1,h2,h3,h4.set hrow o cs,h5.set hrow hne o cs,h6.set hrow o cs⟩⟩
 ·exact absurd he hne2
theorem SnapsW.below {v:Value} (h:SnapsW w lo hi v) (hb:Below w.heap.size w w'):SnapsW w' lo hi v:=by
 obtain ⟨n,xs,h,hs⟩:=h
 exact ⟨n,xs,⟨own_below h.1 hb,h.2⟩,fun i hi=>let ⟨b,h1,h2⟩:=hs i hi;⟨b,h1,h2.below hb⟩⟩
theorem SetsW.below {v:Value} (h:SetsW w lo hi v) (hb:Below w.heap.size w w'):SetsW w' lo hi v:=by
 obtain ⟨n,xs,h,hs⟩:=h
 exact ⟨n,xs,⟨own_below h.1 hb,h.2⟩,fun i hi=>let ⟨b,s,p,h1,h2,h3,h4,h5,h6⟩:=hs i hi;⟨b,s,p,h1,h2,h3,h4.below hb,h5.below hb,h6.below hb⟩⟩
end
section
variable {w w':World} {base lo hi:Nat}
theorem SnapO.only {x:SnapR} (h:SnapO w base x) (hb:hi≤base) (ho:OnlyIn lo hi w w'):SnapO w' base x:=⟨h.body.only hb ho,h.tags.only hb ho,h.own.only hb ho⟩
theorem SetO.only {x:SetR} (h:SetO w base x) (hb:hi≤base) (ho:OnlyIn lo hi w w'):SetO w' base x:=⟨h.body.only hb ho,h.snaps.only hb ho,fun y hy=>(h.each y hy).only hb ho,h.own.only hb ho⟩
theorem StageO.only {x:StageR} (h:StageO w base x) (hb:hi≤base) (ho:OnlyIn lo hi w w'):StageO w' base x:=⟨h.own.only hb ho,h.body.only hb ho⟩
theorem TenO.only {x:TenR} (h:TenO w base x) (hb:hi≤base) (ho:OnlyIn lo hi w w'):TenO w' base x:=⟨h.sets.only hb ho,fun y hy=>(h.eachS y hy).only hb ho,h.grants.only hb ho,h.stages.only hb ho,fun y hy=>(h.eachG y hy).only hb ho,h.log.only hb ho⟩
/-! ### a tenant of one's own lies in lo ..< hi, hi the size of the heap -/
theorem FS.own.snaps {s:FS SnapR} (h:s.own w lo 70 5 encSnap) (he:∀ y∈s.l,SnapO w lo y):SnapsW w lo w.heap.size s.val:=by
 refine ⟨_,_,RowW.of_own h.2,fun i hi=>?_⟩
 have hl:i<s.l.length:=by rw [← h.1];exact hi
 refine ⟨(s.l[i]'hl).body.val,?_,(he _ (List.getElem_mem hl)).body.rowx⟩
 rw [show i*5+2=i*5+2 from rfl,cellsK_get (k:=5) (fun x=>by cases x;rfl) s.l i hl 2 (by omega)]
 rfl
end
/-- what is known of a tenant's rows while they are written over -/
structure SpI (lo hi:Nat) (S G T L:Value) (W0 w:World):Prop where
 sets:SetsW w lo hi S
 gr:RowX w lo hi 139 3 G
 st:RowX w lo hi 114 21 T
 lg:RowX w lo hi 117 4 L
 only:OnlyIn lo hi W0 w
section
variable {lo hi size n cap g:Nat} {S G T L:Value} {W0 w:World} {e:TypeId} {xs:List Value}
theorem SpI.store (h:SpI lo hi S G T L W0 w) (hrow:w.ownsRow lo e size (.slice (some ⟨g,0,none⟩) n cap) n xs) (hlo:lo≤g) (hhi:g<hi) (hW:lo≤w.heap.size) (hne:70≠e) (hne2:42≠e) (o:Nat) (cs:List Value):SpI lo hi S G T L W0 (w.setCells g o cs) :=
 ⟨h.sets.set hrow hne hne2 o cs,h.gr.set hrow o cs,h.st.set hrow o cs,h.lg.set hrow o cs,h.only.trans (.grown (stored_all cs w xs o hrow).2 hlo hhi hW)⟩
/-- set i, as it can be read now -/
theorem SetsW.at {n c:Nat} {A:Option Addr} (h:SetsW w lo hi (.slice A n c)) {i:Nat} (hi':i<n) :
  ∃ g bA bn bc sA sn sc oA on oc xs,A=some ⟨g,0,none⟩∧lo≤g∧g<hi∧w.cell? ⟨g,i*5+2,none⟩=some (.slice bA bn bc)∧w.cell? ⟨g,i*5+3,none⟩=some (.slice sA sn sc)∧w.cell? ⟨g,i*5+4,none⟩=some (.slice oA on oc) ∧
   w.there g (i*5) 5∧w.ownsRow lo 42 5 (.slice (some ⟨g,0,none⟩) n c) n xs∧(∃ ys,RowW w lo hi 88 2 (.slice bA bn bc) bn ys)∧SnapsW w lo hi (.slice sA sn sc)∧(∃ ys,RowW w lo hi 91 2 (.slice oA on oc) on ys):=by
 obtain ⟨m,xs,hr,hs⟩:=h
 obtain ⟨_,_,e,_⟩:=own_form hr.1
 injection e with _ e1 _
 subst e1
 obtain ⟨g,c',e2,hlo,hhi,_,hc,hth,hown⟩:=hr.el hi'
 injection e2 with e3 _ e4
 subst e3 e4
 obtain ⟨b,s,o,h1,h2,h3,⟨bm,bx,h4⟩,h5,⟨om,ox,h6⟩⟩:=hs i hi'
 obtain ⟨bA,bc,rfl,_⟩:=own_form h4.1
 obtain ⟨oA,oc,rfl,_⟩:=own_form h6.1
 obtain ⟨sm,sx,h7,h8⟩:=h5
 obtain ⟨sA,sc,rfl,_⟩:=own_form h7.1
 exact ⟨g,bA,bm,bc,sA,sm,sc,oA,om,oc,xs,rfl,hlo,hhi,by rw [hc _ (by omega)];exact h1,by rw [hc _ (by omega)];exact h2,by rw [hc _ (by omega)];exact h3,hth,hown,⟨_,h4⟩,⟨_,_,h7,h8⟩,⟨_,h6⟩⟩
theorem SnapsW.at {n c:Nat} {A:Option Addr} (h:SnapsW w lo hi (.slice A n c)) {i:Nat} (hi':i<n) :
  ∃ g bA bn bc xs,A=some ⟨g,0,none⟩∧lo≤g∧g<hi∧n≤maxLen∧w.cell? ⟨g,i*5+2,none⟩=some (.slice bA bn bc)∧w.there g (i*5) 5∧w.ownsRow lo 70 5 (.slice (some ⟨g,0,none⟩) n c) n xs∧(∃ ys,RowW w lo hi 88 2 (.slice bA bn bc) bn ys):=by
 obtain ⟨m,xs,hr,hs⟩:=h
 obtain ⟨_,_,e,_⟩:=own_form hr.1
 injection e with _ e1 _
 subst e1
 obtain ⟨g,c',e2,hlo,hhi,hm,hc,hth,hown⟩:=hr.el hi'
 injection e2 with e3 _ e4
 subst e3 e4
 obtain ⟨b,h1,⟨bm,bx,h4⟩⟩:=hs i hi'
 obtain ⟨bA,bc,rfl,_⟩:=own_form h4.1
 exact ⟨g,bA,bm,bc,xs,rfl,hlo,hhi,hm,by rw [hc _ (by omega)];exact h1,hth,hown,⟨_,h4⟩⟩
end
end Go.Proofs.YtmladblmknbgnaaGreatDoor
namespace Go.Proofs.YtmladblmknbgnaaGreatDoor
open Go.RowKit
structure SnapC where
 nm:BS
 gd:Int
 body:List BlkT
 tags:List BS
 own:List (BS×BS)
structure SetC where
 path:BS
 org:BS
 body:List BlkT
 snaps:List SnapC
 own:List (BS×BS)
structure StageC where
 into:BS
 kind:Int
 nm:BS
 frm:Int
 gd:Int
 own:List (BS×BS)
 ix:Int
 ct:Int
 dt:BS
 sm:Sm
 body:List BlkT
 at_:Int
 nx:Int
 sum:Sm
 done:Bool
structure TenC where
 nm:BS
 quota:Int
 next:Int
 sets:List SetC
 grants:List GT
 stages:List StageC
 log:List EntryR
def SnapR.con (x:SnapR):SnapC:=⟨x.nm,x.gd,x.body.l,x.tags.l,x.own.l⟩
def SetR.con (x:SetR):SetC:=⟨x.path,x.org,x.body.l,x.snaps.l.map SnapR.con,x.own.l⟩
def StageR.con (x:StageR):StageC:=⟨x.into,x.kind,x.nm,x.frm,x.gd,x.own.l,x.ix,x.ct,x.dt,x.sm,x.body.l,x.at_,x.nx,x.sum,x.done⟩
def TenR.con (x:TenR):TenC:=⟨x.nm,x.quota,x.next,x.sets.l.map SetR.con,x.grants.l,x.stages.l.map StageR.con,x.log.l⟩
theorem each_map {α β:Type} {f:α→β} {l l':List α}:l.map f=l'.map f↔l.length=l'.length∧∀ i (h:i<l.length) (h':i<l'.length),f (l[i]'h)=f (l'[i]'h'):=by
 constructor
 ·intro h
  have hl:l.length=l'.length:=by simpa using congrArg List.length h
  refine ⟨hl,fun i h1 h2=>?_⟩
  have:=congrArg (fun m:List β=>m[i]?) h
  simpa [h1,h2] using this
 ·rintro ⟨hl,he⟩
  apply List.ext_getElem
  ·simpa using hl
  ·intro i h1 h2
   simp only [List.length_map] at h1 h2
   rw [List.getElem_map,List.getElem_map]
   exact he i h1 h2
theorem SnapR.eqv_iff (x y:SnapR):x.eqv y↔x.con=y.con:=by
 constructor
 ·rintro ⟨h1,h2,h3,h4,h5⟩
  simp only [SnapR.con,h1,h2,h3,h4,h5]
 ·intro h
  simp only [SnapR.con,SnapC.mk.injEq] at h
  exact ⟨h.1,h.2.1,h.2.2.1,h.2.2.2.1,h.2.2.2.2⟩
theorem SetR.eqv_iff (x y:SetR):x.eqv y↔x.con=y.con:=by
 constructor
 ·rintro ⟨h1,h2,h3,h4,h5,h6⟩
  have:=each_map.2 ⟨h4,fun i a b=>(SnapR.eqv_iff _ _).1 (h5 i a b)⟩
  simp only [SetR.con,h1,h2,h3,this,h6]
 ·intro h
  simp only [SetR.con,SetC.mk.injEq] at h
  obtain ⟨h1,h2,h3,h4,h5⟩:=h
  obtain ⟨h6,h7⟩:=each_map.1 h4
  exact ⟨h1,h2,h3,h6,fun i a b=>(SnapR.eqv_iff _ _).2 (h7 i a b),h5⟩
theorem StageR.eqv_iff (x y:StageR):x.eqv y↔x.con=y.con:=by
 constructor
 ·rintro ⟨h1,h2,h3,h4,h5,h6,h7,h8,h9,h10,h11,h12,h13,h14,h15⟩
  simp only [StageR.con,h1,h2,h3,h4,h5,h6,h7,h8,h9,h10,h11,h12,h13,h14,h15]
 ·intro h
  simp only [StageR.con,StageC.mk.injEq] at h
  obtain ⟨h1,h2,h3,h4,h5,h6,h7,h8,h9,h10,h11,h12,h13,h14,h15⟩:=h
  exact ⟨h1,h2,h3,h4,h5,h6,h7,h8,h9,h10,h11,h12,h13,h14,h15⟩
/-- tenants are of one content just if they read alike -/
theorem TenR.eqv_iff (x y:TenR):x.eqv y↔x.con=y.con:=by
 constructor
 ·rintro ⟨h1,h2,h3,h4,h5,h6,h7,h8,h9⟩
  have e1:=each_map.2 ⟨h4,fun i a b=>(SetR.eqv_iff _ _).1 (h5 i a b)⟩
  have e2:=each_map.2 ⟨h7,fun i a b=>(StageR.eqv_iff _ _).1 (h8 i a b)⟩
  simp only [TenR.con,h1,h2,h3,e1,h6,e2,h9]
 ·intro h
  simp only [TenR.con,TenC.mk.injEq] at h
  obtain ⟨h1,h2,h3,h4,h5,h6,h7⟩:=h
  obtain ⟨h8,h9⟩:=each_map.1 h4
  obtain ⟨h10,h11⟩:=each_map.1 h6
  exact ⟨h1,h2,h3,h8,fun i a b=>(SetR.eqv_iff _ _).2 (h9 i a b),h5,h10,fun i a b=>(StageR.eqv_iff _ _).2 (h11 i a b),h7⟩
/-- what a tenant is charged for -/
def SetC.charge (s:SetC):Nat:=1+s.body.length+(s.snaps.map fun x=>1+x.body.length).sum
def TenC.charge (t:TenC):Nat:=(t.sets.map SetC.charge).sum+(t.stages.map fun s=>1+s.body.length).sum
end Go.Proofs.YtmladblmknbgnaaGreatDoor
namespace Go.Proofs.YtmladblmknbgnaaGreatDoor
open Go.RowKit
theorem blk7 {w:World} {g:Nat} {t:TypeId} {a0 a1 a2 a3 a4 a5 a6:Value} (h:Blk w g t #[a0,a1,a2,a3,a4,a5,a6]):w.cell? ⟨g,0,none⟩=some a0∧w.cell? ⟨g,1,none⟩=some a1∧w.cell? ⟨g,2,none⟩=some a2∧w.cell? ⟨g,3,none⟩=some a3∧w.cell? ⟨g,4,none⟩=some a4∧w.cell? ⟨g,5,none⟩=some a5∧w.cell? ⟨g,6,none⟩=some a6 :=
 ⟨h.cell 0,h.cell 1,h.cell 2,h.cell 3,h.cell 4,h.cell 5,h.cell 6⟩
theorem SnapR.eqv.size {x y:SnapR} {w w':World} {B B':Nat} (h:x.eqv y) (hx:x.rd w B) (hy:y.rd w' B') (hz:x.sz):y.sz :=
 h.sz hz (FS.len_eq hx.body.1 hy.body.1 h.body) (FS.len_eq hx.tags.1 hy.tags.1 h.tags) (FS.len_eq hx.own.1 hy.own.1 h.own)
theorem SetR.eqv.size {x y:SetR} {w w':World} {B B':Nat} (h:x.eqv y) (hx:x.rd w B) (hy:y.rd w' B') (hz:x.sz):y.sz:=by
 refine ⟨by rw [← h.path];exact hz.path,by rw [← h.org];exact hz.org,by rw [FS.len_eq hx.body.1 hy.body.1 h.body];exact hz.body,by rw [hy.snaps.1,← h.len,← hx.snaps.1];exact hz.snaps,fun z hm=>?_,by rw [FS.len_eq hx.own.1 hy.own.1 h.own];exact hz.own,by rw [← h.own];exact hz.props⟩
 obtain ⟨i,hi,rfl⟩:=List.getElem_of_mem hm
 have hi':i<x.snaps.l.length:=by rw [h.len];exact hi
 exact (h.each i hi' hi).size (hx.each _ (List.getElem_mem hi')) (hy.each _ hm) (hz.each _ (List.getElem_mem hi'))
theorem StageR.eqv.size {x y:StageR} {w w':World} {B B':Nat} (h:x.eqv y) (hx:x.rd w B) (hy:y.rd w' B') (hz:x.sz):y.sz :=
 ⟨by rw [← h.into];exact hz.into,by rw [← h.nm];exact hz.nm,by rw [← h.dt];exact hz.dt,by rw [FS.len_eq hx.own.1 hy.own.1 h.own];exact hz.own,by rw [← h.own];exact hz.props,by rw [FS.len_eq hx.body.1 hy.body.1 h.body];exact hz.body⟩
theorem TenR.eqv.size {x y:TenR} {w w':World} {B B':Nat} (h:x.eqv y) (hx:x.rd w B) (hy:y.rd w' B') (hz:x.sz):y.sz:=by
 refine ⟨by rw [← h.nm];exact hz.nm,by rw [hy.sets.1,← h.lenS,← hx.sets.1];exact hz.sets,fun z hm=>?_,by rw [FS.len_eq hx.grants.1 hy.grants.1 h.grants];exact hz.grants,by rw [← h.grants];exact hz.eachG,by rw [hy.stages.1,← h.lenT,← hx.stages.1];exact hz.stages,fun z hm=>?_,by rw [FS.len_eq hx.log.1 hy.log.1 h.log];exact hz.log,by rw [← h.log];exact hz.eachL⟩
 ·obtain ⟨i,hi,rfl⟩:=List.getElem_of_mem hm
  have hi':i<x.sets.l.length:=by rw [h.lenS];exact hi
  exact (h.eachS i hi' hi).size (hx.eachS _ (List.getElem_mem hi')) (hy.eachS _ hm) (hz.eachS _ (List.getElem_mem hi'))
 ·obtain ⟨i,hi,rfl⟩:=List.getElem_of_mem hm
  have hi':i<x.stages.l.length:=by rw [h.lenT];exact hi
  exact (h.eachT i hi' hi).size (hx.eachG _ (List.getElem_mem hi')) (hy.eachG _ hm) (hz.eachT _ (List.getElem_mem hi'))
theorem SnapR.rd.more {x:SnapR} {w:World} {B B':Nat} (h:x.rd w B) (hb:B≤B'):x.rd w B':=⟨h.body.more hb,h.tags.more hb,h.own.more hb⟩
theorem SetR.rd.more {x:SetR} {w:World} {B B':Nat} (h:x.rd w B) (hb:B≤B'):x.rd w B':=⟨h.body.more hb,h.snaps.more hb,fun y hy=>(h.each y hy).more hb,h.own.more hb⟩
theorem TenR.rd.more {x:TenR} {w:World} {B B':Nat} (h:x.rd w B) (hb:B≤B'):x.rd w B':=⟨h.sets.more hb,fun y hy=>(h.eachS y hy).more hb,h.grants.more hb,h.stages.more hb,fun y hy=>⟨(h.eachG y hy).own.more hb,(h.eachG y hy).body.more hb⟩,h.log.more hb⟩
end Go.Proofs.YtmladblmknbgnaaGreatDoor
