/-
  tree.Clones, by its contract. shape.Destroy: a set is gone. What may be, by content: sets one by one; a set more, a set less, a set turned.
-/
import Derived.WalkKit
import Derived.WalkSpells
import Derived.Below
import Derived.Laws.OwnMore
import Derived.Deep.AppendLies
import Derived.Deep.Draws
import Derived.Laws.Rows
import Derived.Maps.AppendAt
import Derived.RegionTactic
import Derived.OwnWalk
import Derived.Deep.QuietTactic
import Derived.BigQuiet
import Derived.Lib.Hide
import Derived.Laws.CopyOwn
import Derived.IntWalk
import Derived.Test.YtcgclpcocdappaaDoorRows
import Derived.Handy
import Derived.Deep.Quiet
import Derived.Orders
import Derived.Lib.SplitLaws
import Derived.Lib.LastIndexByte
import Derived.Lib.Strings
import Derived.ShutString
import Derived.Sort.Walk0
import Derived.Sort.KeysCollected
import Derived.Shelf.Strings.Search1
import Derived.Shelf.Strings.Search2
import Derived.Shelf.Strings.Search3
import Derived.Shelf.Strings.Cut
import Derived.Shelf.Strings.Count
import Derived.Shelf.LaysM
import Derived.Shelf.Strings.Shaped
import Derived.Shelf.Strings.LastIndex
import Derived.Shelf.Strings.Split
import Derived.Shelf.Strings.SplitShaped
import Derived.Shelf.Unicode.Decode
import Derived.Shelf.Strings.RuneCount
import Derived.Shelf.Strings.Explode
import Derived.Shelf.Unicode.DecodeSlow
import Derived.Shelf.Slices.Turned
import Derived.Test.YtcgclpcocdappaaDoorProg
import Derived.Laws.BytesString
import Derived.Laws.IdiomStrings
import Derived.Lib.ConvBytes
import Derived.Deep.MidRow
import Derived.ProofKit
import Derived.OpenShut
import Derived.ChangeOld
import Derived.Carry
import Derived.SizedLaws
import Derived.JoinedCond
import Derived.Deep.CondSized
import Derived.Deep.Slices
import Derived.Deep.Fields
import Derived.Lib.SmallJoins
import Derived.Deep.RegionLaw
import Derived.Lib.AppendZeros
import Derived.Lib.Overlaps
import Derived.Lib.AppendZerosOnto
import Derived.Deep.DeepCutAuto
import Derived.Great.BuildSlice
import Derived.Test.YtcgclpcocdappaaDoorP0
import Derived.Test.YtcgclpcocdappaaDoorPa1
import Derived.Test.YtcgclpcocdappaaDoorPa2
import Derived.Test.YtcgclpcocdappaaDoorPa5
import Derived.Test.YtcgclpcocdappaaDoorPa7
import Derived.Test.YtcgclpcocdappaaDoorPa8
import Derived.Test.YtcgclpcocdappaaDoorPa9
import Derived.Test.YtcgclpcocdappaaDoorPa10
import Derived.Test.YtcgclpcocdappaaDoorPa13
import Derived.Test.YtcgclpcocdappaaDoorPa14
import Derived.Test.YtcgclpcocdappaaDoorPa19
import Derived.Test.YtcgclpcocdappaaDoorPa23
import Derived.Test.YtcgclpcocdappaaDoorPa24
import Derived.Test.YtcgclpcocdappaaDoorPa27
import Derived.Test.YtcgclpcocdappaaDoorPa28
import Derived.Test.YtcgclpcocdappaaDoorPa29
import Derived.Test.YtcgclpcocdappaaDoorPa31
import Derived.Test.YtcgclpcocdappaaDoorPa32
namespace Go.Proofs.YtcgclpcocdappaaDoor
open Go.RowKit
/-- is a set a clone of a snapshot of a set's (or of any, where no name is asked)? -/
def clP (p q:BS) (o:BS):Bool:=match splitL o with
 | none=>false
 | some (a,b)=>a == p && (q == [] || b == q)
def clonesL (l:List SetR) (p q:BS):List BS:=(l.filter fun s=>clP p q s.org).map (·.path)
theorem clonesL_snoc (l:List SetR) (x:SetR) (p q:BS):clonesL (l++[x]) p q=clonesL l p q++(if clP p q x.org=true then [x.path] else []):=by
 unfold clonesL
 rw [List.filter_append,List.map_append]
 congr 1
 by_cases h:clP p q x.org=true
 ·rw [if_pos h,List.filter_cons_of_pos (by simpa using h)];rfl
 ·rw [if_neg h,List.filter_cons_of_neg (by simpa using h)];rfl
set_option maxRecDepth 100000 in
set_option maxHeartbeats 4000000 in
theorem clones_any (v0 v1 v2 v4 v5 v6:Value) (l:List SetR) (n:Nat) (hnl:n=l.length) (A:Option Addr) (c:Nat) (p nq:BS) (w:World) (B:Nat) (hr:Reads w B 5 A n (cellsK encSet l)) (hB:B≤w.heap.size) (hn:n≤1000000000000) (hv:∀ y∈l,y.org.length≤4000000000) (hmx:HasMax w) :
  Calls Tryd.prog 59 #[.agg #[v0,v1,v2,.slice A n c,v4,v5,v6],.string ⟨p.toArray⟩,.string ⟨nq.toArray⟩] w fun e w'=>∃ A1 c1,e=.returned (.slice A1 (clonesL l p nq).length c1)∧w'.ownsRow w.heap.size 9 1 (.slice A1 (clonesL l p nq).length c1) (clonesL l p nq).length (scells (clonesL l p nq))∧Below w.heap.size w w':=by
 obtain ⟨i0,hi0,hz0,hz1,hz2⟩:=info_parts Tryd.infoS
 have HN:=Lib.hid hnl
 have hb1:=(Below.refl w.heap.size w).alloc (Nat.le_refl _) (.cells #[v0,v1,v2,.slice A n c,v4,v5,v6] 27)
 have kT:=Blk.new w 27 #[v0,v1,v2,.slice A n c,v4,v5,v6]
 obtain ⟨W1,hW1⟩:∃ W,W=w.alloc (.cells #[v0,v1,v2,.slice A n c,v4,v5,v6] 27):=⟨_,rfl⟩
 have hsz1:W1.heap.size=w.heap.size+1:=by rw [hW1];simp
 rw [← hW1] at hb1 kT
 have hT:Hid (∀ W',Below W1.heap.size W1 W'→W'.cell? ⟨w.heap.size,3,none⟩=some (.slice A n c)):=fun W' hB'=>(kT.below hB' (by omega)).cell 3
 have hR:=Lib.hid (fun (W':World) (hB':Below W1.heap.size W1 W')=>(⟨hr.below ((hb1.trans (hB'.mono (by omega))).mono hB),hmx.below (hb1.trans (hB'.mono (by omega)))⟩:Reads W' B 5 A n (cellsK encSet l)∧HasMax W'))
 have HB1:=Lib.hid hb1
 have HSZ1:=Lib.hid hsz1
 have HVS:=Lib.hid hv
 obtain ⟨KL,hKL⟩:∃ K,K=clonesL l p nq:=⟨_,rfl⟩
 rw [← hKL]
 have HKL:=Lib.hid hKL
 clear hnl hr kT hsz1 hv hKL
 go_enter Tryd.func59,Tryd.ntmps59
 go_wp2_with fail
 rw [← hW1]
 clear hW1
 go_loopw [7,16] (fun a j wr=>∃ (k m:Nat) (A1:Option Addr) (c1:Nat),k≤n∧m≤k∧a=.slice A1 m c1∧j=.int .i64 (k:Int)∧Hid (m=(clonesL (l.take k) p nq).length)∧wr.ownsRow W1.heap.size 9 1 (.slice A1 m c1) m (scells (clonesL (l.take k) p nq))∧Below W1.heap.size W1 wr) (fun _ j _=>n-(intOf j).toNat)
 case atStart=>exact ⟨0,0,none,0,Nat.zero_le _,Nat.zero_le _,rfl,rfl,rfl,⟨rfl,.inl ⟨rfl,rfl⟩⟩,Below.refl _ _⟩
 case round =>
  clear hb1
  obtain ⟨k,m,A1,c1,hk,hmk,rfl,rfl,hml,hown,hbw⟩:=hrel
  by_cases hlt:k<n
  ·obtain ⟨hrw,hmw⟩:=hR.out _ hbw
   obtain ⟨ad,rfl,-,c0,c1',c2,c3,c4⟩:=set_at hrw HN.out hlt
   have hki:(k:Int)<(n:Int):=by omega
   have hkl:k<l.length:=by have:=HN.out;omega
   obtain ⟨x,hx⟩:∃ x,x=l[k]'hkl:=⟨_,rfl⟩
   have hxl:=HVS.out x (by rw [hx];exact List.getElem_mem _)
   rw [← hx] at c0 c1' c2 c3 c4
   have htk:=List.take_succ_eq_append_getElem hkl
   rw [← hx] at htk
   have HNT:Hid (clonesL (l.take (k+1)) p nq=clonesL (l.take k) p nq++(if clP p nq x.org=true then [x.path] else [])):=by
    show _=_
    rw [htk,clonesL_snoc]
   obtain ⟨W0,hW0⟩:∃ W0,W0=wr.alloc (.cells #[.string ⟨x.path.toArray⟩,.string ⟨x.org.toArray⟩,.slice x.body.A x.body.n x.body.c,.slice x.snaps.A x.snaps.n x.snaps.c,.slice x.own.A x.own.n x.own.c] 45):=⟨_,rfl⟩
   have hblk:Blk W0 wr.heap.size 45 #[.string ⟨x.path.toArray⟩,.string ⟨x.org.toArray⟩,.slice x.body.A x.body.n x.body.c,.slice x.snaps.A x.snaps.n x.snaps.c,.slice x.own.A x.own.n x.own.c]:=by rw [hW0];exact Blk.new wr _ _
   have hszW:W0.heap.size=wr.heap.size+1:=by rw [hW0];show (wr.heap.push _).size=_;rw [Array.size_push]
   have hwr:=hbw.size
   have hsz1:=HSZ1.out
   have hb1W:Below W1.heap.size W1 W0:=by rw [hW0];exact hbw.alloc hbw.size _
   have HB2:=Lib.hid hb1W
   have HSZ:=Lib.hid hszW
   have hpn:=split_any ⟨x.org.toArray⟩ W0 (by show x.org.length≤_;exact hxl) (hR.out _ hb1W).2
   rw [show (ByteArray.mk x.org.toArray).data.toList=x.org from rfl] at hpn
   have hown0:Hid (∀ W,Below W0.heap.size W0 W→W.ownsRow W1.heap.size 9 1 (.slice A1 m c1) m (scells (clonesL (l.take k) p nq))∧W.cell? ⟨wr.heap.size,0,none⟩=some (.string ⟨x.path.toArray⟩)):=by
    show ∀ W,_→_
    intro W hb
    refine ⟨own_below (w:=W0) ?_ hb,(hblk.below hb (by omega)).cell 0⟩
    rw [hW0]
    exact hown.alloc _
   obtain ⟨xp,xo,⟨b1,b2,b3,bl⟩,⟨s1,s2,s3,sl⟩,⟨o1,o2,o3,ol⟩⟩:=x
   simp only at c0 c1' c2 c3 c4 HNT hW0 hpn hown0
   clear hx htk hxl hblk hrw hown hR hT hmw
   go_wp2_with fail
   rw [← hW0]
   clear hW0 hszW c0 c1' c2 c3 c4
   refine hpn.mono ?_
   clear hpn
   rintro e w4 ⟨rfl,hb4⟩
   obtain ⟨ho4,q0⟩:=hown0.out _ hb4
   have hbf:=HB2.out.trans (hb4.mono (by have:=HSZ.out;omega))
   have hbF:=HB1.out.trans (hbf.mono (by omega))
   have hbase:=hbf.size
   clear hown0 hb4
   rcases splitV_cases xo with ⟨hs1,hs2⟩ | ⟨sa,sb,hs1,hs2,-,-⟩
   ·rw [hs2]
    have HS1:=Lib.hid hs1
    clear hs1 hs2
    have HNT2:Hid (clonesL (l.take (k+1)) p nq=clonesL (l.take k) p nq):=by
     show _=_
     rw [HNT.out,if_neg (by unfold clP;rw [HS1.out];simp)]
     simp
    clear HNT
    go_wp2_with fail
    go_roundw
    case rel=>exact ⟨k+1,m,A1,c1,by omega,by omega,rfl,by go_num,by rw [HNT2.out];exact hml.out,by rw [HNT2.out];exact ho4,hbf⟩
    case measure=>simp [intOf];omega
   ·rw [hs2]
    have HCL:Hid (clP p nq xo=(sa == p && (nq == [] || sb == nq))):=by show _=_;unfold clP;rw [hs1]
    clear hs1 hs2
    by_cases hap:sa=p
    ·have hap1:(sa == p)=true:=by simpa using hap
     by_cases hq:nq=[]
     ·subst hq
      have HNT2:Hid (clonesL (l.take (k+1)) p []=clonesL (l.take k) p []++[xp]):=by
       show _=_
       rw [HNT.out,if_pos (by rw [HCL.out,hap1];rfl)]
      clear HNT
      go_wp2_with (at_builtin;(refine wpList_push w4 rfl (.tmp 43) (.tmp 46) 39 rfl W1.heap.size 9 i0 (.string ByteArray.empty) 1 16 Tryd.underlying39 hi0 hz0 hz1 hz2 rfl (by omega) (.slice A1 m c1) m _ rfl ho4 1 #[.string ⟨xp.toArray⟩] 9 rfl rfl (by simp [Value.oneCell']) (by unfold maxLen;omega) (by omega) hbase ?_);intro v' w' ho' hb' hg')
      obtain ⟨A2,c2,rfl,_,_,_⟩:=own_form ho'
      have hb'2:=hbf.trans hb'
      go_wp2_with fail
      go_roundw
      case rel=>exact ⟨k+1,m+1,A2,c2,by omega,by omega,rfl,by go_num,by show _=_;rw [HNT2.out,List.length_append,← hml.out];rfl,by rw [HNT2.out,scells_append];exact ho',hb'2⟩
      case measure=>simp [intOf];omega
     ·have hq1:(nq == [])=false:=by simpa using hq
      have hq2:(nq.toArray == #[])=false:=by simpa using hq
      by_cases hb:sb=nq
      ·subst hb
       have hq3:(sb == sb)=true:=by simp
       have HNT2:Hid (clonesL (l.take (k+1)) p sb=clonesL (l.take k) p sb++[xp]):=by
        show _=_
        rw [HNT.out,if_pos (by rw [HCL.out,hap1,hq3];simp)]
       clear HNT
       go_wp2_with (at_builtin;(refine wpList_push w4 rfl (.tmp 43) (.tmp 46) 39 rfl W1.heap.size 9 i0 (.string ByteArray.empty) 1 16 Tryd.underlying39 hi0 hz0 hz1 hz2 rfl (by omega) (.slice A1 m c1) m _ rfl ho4 1 #[.string ⟨xp.toArray⟩] 9 rfl rfl (by simp [Value.oneCell']) (by unfold maxLen;omega) (by omega) hbase ?_);intro v' w' ho' hb' hg')
       obtain ⟨A2,c2,rfl,_,_,_⟩:=own_form ho'
       have hb'2:=hbf.trans hb'
       go_wp2_with fail
       go_roundw
       case rel=>exact ⟨k+1,m+1,A2,c2,by omega,by omega,rfl,by go_num,by show _=_;rw [HNT2.out,List.length_append,← hml.out];rfl,by rw [HNT2.out,scells_append];exact ho',hb'2⟩
       case measure=>simp [intOf];omega
      ·have hb1:(sb == nq)=false:=by simpa using hb
       have HNT2:Hid (clonesL (l.take (k+1)) p nq=clonesL (l.take k) p nq):=by
        show _=_
        rw [HNT.out,if_neg (by rw [HCL.out,hap1,hq1,hb1];simp)]
        simp
       clear HNT
       go_wp2_with fail
       go_roundw
       case rel=>exact ⟨k+1,m,A1,c1,by omega,by omega,rfl,by go_num,by rw [HNT2.out];exact hml.out,by rw [HNT2.out];exact ho4,hbf⟩
       case measure=>simp [intOf];omega
    ·have hap1:(sa == p)=false:=by simpa using hap
     have HNT2:Hid (clonesL (l.take (k+1)) p nq=clonesL (l.take k) p nq):=by
      show _=_
      rw [HNT.out,if_neg (by rw [HCL.out,hap1];simp)]
      simp
     clear HNT
     go_wp2_with fail
     go_roundw
     case rel=>exact ⟨k+1,m,A1,c1,by omega,by omega,rfl,by go_num,by rw [HNT2.out];exact hml.out,by rw [HNT2.out];exact ho4,hbf⟩
     case measure=>simp [intOf];omega
  ·have hkn:k=n:=by omega
   have hall:l.take k=l:=List.take_of_length_le (by rw [hkn,HN.out];exact Nat.le_refl _)
   rw [hall,← HKL.out] at hown
   have HM:Hid (m=KL.length):=by show _=_;rw [hml.out,hall,HKL.out]
   have HO:=Lib.hid (own_mono hown (show w.heap.size≤W1.heap.size by have:=HSZ1.out;omega))
   have HBF:=Lib.hid (HB1.out.trans (hbw.mono (by have:=HSZ1.out;omega)))
   clear hkn hall hml hown hbw
   go_wp2_with fail
   go_ret
   refine ⟨A1,c1,by rw [← HM.out];rfl,by rw [← HM.out];exact HO.out,HBF.out⟩
end Go.Proofs.YtcgclpcocdappaaDoor
namespace Go.Proofs.YtcgclpcocdappaaDoor
open Go.RowKit
theorem any_congr_mem {α:Type} {p q:α→Bool} (l:List α) (h:∀ y∈l,p y=q y):l.any p=l.any q:=by
 induction l with
 | nil=>rfl
 | cons x r ih=>rw [List.any_cons,List.any_cons,h x List.mem_cons_self,ih fun y hy=>h y (List.mem_cons_of_mem _ hy)]
def TenC.clones (c:TenC) (p q:BS):Nat:=(c.sets.filter fun s=>clP p q s.org).length
theorem clones_con (t:TenR) (p q:BS):(clonesL t.sets.l p q).length=t.con.clones p q:=by
 unfold clonesL TenC.clones
 rw [List.length_map]
 show _=((t.sets.l.map SetR.con).filter _).length
 rw [List.filter_map,List.length_map]
 rfl
/-- a set is gone -/
def TenC.destroy (c:TenC) (p:BS):Int×TenC:=if c.ask p≠0 then (c.ask p,c) else if c.find p<0 then (71,c) else if p=[]∨0<c.kids p+c.clones p []∨(c.stages.any fun s=>s.into == p)=true then (44,c) else if c.heldAt (c.find p).toNat=true then (43,c) else (0,c.dropS (c.find p).toNat)
theorem any_stages (t:TenR) (p:BS):(t.con.stages.any fun s=>s.into == p)=t.stages.l.any fun s=>s.into == p:=by
 show (t.stages.l.map StageR.con).any _=_
 rw [List.any_map]
 rfl
theorem placeP_con (t:TenR) (p:BS):placeP t p=if t.con.ask p≠0 then (0,t.con.ask p) else if t.con.find p<0 then (0,71) else (t.con.find p,0):=by
 unfold placeP
 rw [askP_con,← findS_con]
 by_cases h:t.con.ask p≠0
 ·rw [if_pos h,if_pos h]
 ·rw [if_neg h,if_neg h]
  rcases firstI_cases (fun s:SetR=>s.path == p) t.sets.l with ⟨h1,h2⟩ | ⟨k,hk,h1,h2⟩
  ·have h1:findS t.sets.l p=-1:=h1
   simp only [h2,h1]
   rfl
  ·have h1:findS t.sets.l p=(k:Int):=h1
   simp only [h2,h1]
   rw [if_neg (by omega)]
end Go.Proofs.YtcgclpcocdappaaDoor
namespace Go.Proofs.YtcgclpcocdappaaDoor
open Go.RowKit
structure SetOk (l:List SetC) (s:SetC):Prop where
 path:pathB s.path=true
 par:∀ u,parB s.path=some u→∃ x∈l,x.path=u
 own:propsB s.own=true
 body:okL s.body=true
 snaps:snapsB (s.snaps.map SnapC.r)=true
 org:s.org=[]∨∃ a b,splitL s.org=some (a,b)∧a≠s.path∧∃ x,l.find? (fun x=>x.path == a)=some x∧∃ y∈x.snaps,y.nm=b
theorem setB_iff (l:List SetC) (s:SetC):setB (l.map SetC.r) s.r=true↔SetOk l s:=by
 have hpar:(match parB s.path with | none=>true | some u=>(l.map SetC.r).any fun x=>x.path == u)=true↔∀ u,parB s.path=some u→∃ x∈l,x.path=u:=by
  cases hp:parB s.path with
  | none=>exact ⟨fun _ u h=>by (cases h),fun _=>rfl⟩
  | some u =>
   simp only [List.any_map]
   constructor
   ·intro h v hv
    cases hv
    obtain ⟨x,hx,e⟩:=List.any_eq_true.1 h
    exact ⟨x,hx,by simpa [SetC.r] using e⟩
   ·intro h
    obtain ⟨x,hx,e⟩:=h u rfl
    exact List.any_eq_true.2 ⟨x,hx,by simpa [SetC.r] using e⟩
 have horg:originB (l.map SetC.r) s.r=true↔(s.org=[]∨∃ a b,splitL s.org=some (a,b)∧a≠s.path∧∃ x,l.find? (fun x=>x.path == a)=some x∧∃ y∈x.snaps,y.nm=b):=by
  unfold originB
  show (s.org == [] || match splitL s.org with
   | none=>false
   | some (p,n)=>!(p == s.path) && match (l.map SetC.r).find? (fun x=>x.path == p) with
    | none=>false
    | some x=>x.snaps.l.any fun y=>y.nm == n)=true↔_
  rw [Bool.or_eq_true]
  refine or_congr (by simp) ?_
  cases hsp:splitL s.org with
  | none=>simp
  | some v =>
   obtain ⟨a,b⟩:=v
   simp only [Bool.and_eq_true,find_map]
   have e:(l.find? fun x:SetC=>(SetC.r x).path == a)=l.find? fun x=>x.path == a:=rfl
   rw [e]
   constructor
   ·rintro ⟨h1,h2⟩
    refine ⟨a,b,rfl,by simpa using h1,?_⟩
    cases hf:l.find? (fun x=>x.path == a) with
    | none=>rw [hf] at h2;cases h2
    | some x =>
     rw [hf] at h2
     simp only [Option.map_some] at h2
     have h2:((x.snaps.map SnapC.r).any fun y=>y.nm == b)=true:=h2
     rw [List.any_map] at h2
     obtain ⟨y,hy,ey⟩:=List.any_eq_true.1 h2
     exact ⟨x,rfl,y,hy,by simpa [SnapC.r] using ey⟩
   ·rintro ⟨a',b',h0,h1,x,hf,y,hy,ey⟩
    cases h0
    refine ⟨by simpa using h1,?_⟩
    rw [hf]
    show ((x.snaps.map SnapC.r).any fun y=>y.nm == b)=true
    rw [List.any_map]
    exact List.any_eq_true.2 ⟨y,hy,by simpa [SnapC.r] using ey⟩
 unfold setB
 rw [Bool.and_eq_true,Bool.and_eq_true,Bool.and_eq_true,Bool.and_eq_true,Bool.and_eq_true,horg]
 constructor
 ·rintro ⟨⟨⟨⟨⟨h1,h2⟩,h3⟩,h4⟩,h5⟩,h6⟩
  exact ⟨h1,hpar.1 h2,h3,h4,h5,h6⟩
 ·rintro ⟨h1,h2,h3,h4,h5,h6⟩
  exact ⟨⟨⟨⟨⟨h1,hpar.2 h2⟩,h3⟩,h4⟩,h5⟩,h6⟩
structure SetsOk (l:List SetC):Prop where
 len:l.length≤32
 root:∃ x∈l,x.path=[]
 each:∀ s∈l,SetOk l s
 asc:l.Pairwise fun a b=>Op.bytesLess a.path b.path=true
theorem setsB_iff (l:List SetC):setsB (l.map SetC.r)=true↔SetsOk l:=by
 unfold setsB
 rw [Bool.and_eq_true,Bool.and_eq_true,setsFrom_iff]
 simp only [decide_eq_true_eq,List.length_map,List.any_map]
 constructor
 ·rintro ⟨⟨h1,h2⟩,h3,h4,-⟩
  obtain ⟨x,hx,e⟩:=List.any_eq_true.1 h2
  exact ⟨h1,⟨x,hx,by simpa [SetC.r] using e⟩,fun s hs=>(setB_iff l s).1 (h3 _ (List.mem_map_of_mem hs)),List.pairwise_map.1 h4⟩
 ·rintro ⟨h1,⟨x,hx,e⟩,h3,h4⟩
  refine ⟨⟨h1,List.any_eq_true.2 ⟨x,hx,by simpa [SetC.r] using e⟩⟩,fun s hs=>?_,List.pairwise_map.2 h4,fun q hq=>by cases hq⟩
  obtain ⟨y,hy,rfl⟩:=List.mem_map.1 hs
  exact (setB_iff l y).2 (h3 y hy)
structure TenC.Ok (c:TenC):Prop where
 nm:nameB c.nm=true
 quota:amt c.quota 0=true
 next:amt c.next 1=true
 sets:SetsOk c.sets
 grants:grantsB c.grants=true
 stages:stagesB (c.stages.map StageC.r)=true
 log:logB c.log=true
theorem TenC.E_ok (c:TenC):c.E=0↔c.Ok:=by
 unfold TenC.E tenE
 constructor
 ·intro h
  have hb:tenB c.r=true:=by
   by_cases hb:tenB c.r=true
   ·exact hb
   ·rw [if_neg hb] at h;exact absurd h (by decide)
  unfold tenB at hb
  rw [Bool.and_eq_true,Bool.and_eq_true,Bool.and_eq_true,Bool.and_eq_true,Bool.and_eq_true,Bool.and_eq_true] at hb
  obtain ⟨⟨⟨⟨⟨⟨h1,h2⟩,h3⟩,h4⟩,h5⟩,h6⟩,h7⟩:=hb
  exact ⟨h1,h2,h3,(setsB_iff _).1 h4,h5,h6,h7⟩
 ·rintro ⟨h1,h2,h3,h4,h5,h6,h7⟩
  rw [if_pos]
  unfold tenB
  rw [Bool.and_eq_true,Bool.and_eq_true,Bool.and_eq_true,Bool.and_eq_true,Bool.and_eq_true,Bool.and_eq_true]
  exact ⟨⟨⟨⟨⟨⟨h1,h2⟩,h3⟩,(setsB_iff _).2 h4⟩,h5⟩,h6⟩,h7⟩
/-- sets in order: each is found by its path -/
theorem find_of_mem {l:List SetC} (h:l.Pairwise fun a b=>Op.bytesLess a.path b.path=true) {x:SetC} (hx:x∈l):l.find? (fun y=>y.path == x.path)=some x:=by
 induction l with
 | nil=>cases hx
 | cons y r ih =>
  obtain ⟨h1,h2⟩:=List.pairwise_cons.1 h
  rcases List.mem_cons.1 hx with rfl | hx
  ·rw [List.find?_cons_of_pos (by simp)]
  ·rw [List.find?_cons_of_neg (by simpa using bl_ne (h1 x hx))]
   exact ih h2 hx
/-! ### a set less -/
theorem mem_at' {α:Type} {a b:List α} {x y:α} (h:y∈a++x :: b):y=x∨y∈a++b:=by
 rcases List.mem_append.1 h with h | h
 ·exact .inr (List.mem_append_left _ h)
 ·rcases List.mem_cons.1 h with h | h
  ·exact .inl h
  ·exact .inr (List.mem_append_right _ h)
theorem mem_drop_of {l:List SetC} {i:Nat} (hi:i<l.length) {x:SetC} (hx:x∈l) (hne:x.path≠(l[i]'hi).path):x∈l.take i++l.drop (i+1):=by
 have hl:l=l.take i++l[i]'hi :: l.drop (i+1):=by
  conv=>lhs;rw [← List.take_append_drop i l,List.drop_eq_getElem_cons hi]
 rw [hl] at hx
 rcases mem_at' hx with rfl | h
 ·exact absurd rfl hne
 ·exact h
theorem drop_sub (l:List SetC) (i:Nat):(l.take i++l.drop (i+1)).Sublist l:=by
 by_cases hi:i<l.length
 ·conv=>rhs;rw [← List.take_append_drop i l,List.drop_eq_getElem_cons hi]
  exact List.Sublist.append_left (List.sublist_cons_self _ _) _
 ·rw [List.drop_eq_nil_of_le (by omega),List.append_nil]
  exact List.take_sublist _ _
theorem dropS_ok (c:TenC) (i:Nat) (hi:i<c.sets.length) (h:c.Ok) (hp:(c.sets[i]'hi).path≠[]) (hk:c.kids (c.sets[i]'hi).path=0) (hc:c.clones (c.sets[i]'hi).path []=0):(c.dropS i).Ok:=by
 obtain ⟨h1,h2,h3,h4,h5,h6,h7⟩:=h
 refine ⟨h1,h2,h3,?_,h5,h6,h7⟩
 show SetsOk (c.sets.take i++c.sets.drop (i+1))
 have hsub:=drop_sub c.sets i
 have hasc:=h4.asc.sublist hsub
 refine ⟨Nat.le_trans hsub.length_le h4.len,?_,fun s hs=>?_,hasc⟩
 ·obtain ⟨x,hx,e⟩:=h4.root
  exact ⟨x,mem_drop_of hi hx (by rw [e];exact fun h=>hp h.symm),e⟩
 ·have hsl:=hsub.subset hs
  have ho:=h4.each s hsl
  refine ⟨ho.path,fun u hu=>?_,ho.own,ho.body,ho.snaps,?_⟩
  ·obtain ⟨x,hx,e⟩:=ho.par u hu
   refine ⟨x,mem_drop_of hi hx ?_,e⟩
   intro e2
   unfold TenC.kids at hk
   rw [List.length_eq_zero_iff,List.filter_eq_nil_iff] at hk
   exact hk s hsl (by rw [hu,← e,e2];simp)
  ·rcases ho.org with h | ⟨a,b,h1,h2,x,hf,y,hy,e⟩
   ·exact .inl h
   ·refine .inr ⟨a,b,h1,h2,x,?_,y,hy,e⟩
    have hxm:=List.mem_of_find?_eq_some hf
    have hxa:x.path=a:=by simpa using List.find?_some hf
    have hne:x.path≠(c.sets[i]'hi).path:=by
     intro e2
     unfold TenC.clones at hc
     rw [List.length_eq_zero_iff,List.filter_eq_nil_iff] at hc
     refine hc s hsl ?_
     unfold clP
     rw [h1]
     simp [← hxa,e2]
    rw [← hxa]
    exact find_of_mem hasc (mem_drop_of hi hxm hne)
theorem sum_sub {α:Type} (f:α→Nat) {l l':List α} (h:l.Sublist l'):(l.map f).sum≤(l'.map f).sum:=by
 induction h with
 | slnil=>exact Nat.le_refl _
 | cons x _ ih=>rw [List.map_cons,List.sum_cons];omega
 | cons_cons x _ ih=>rw [List.map_cons,List.map_cons,List.sum_cons,List.sum_cons];omega
theorem dropS_charge (c:TenC) (i:Nat):(c.dropS i).charge≤c.charge:=by
 unfold TenC.charge
 have:=sum_sub SetC.charge (drop_sub c.sets i)
 show ((c.sets.take i++c.sets.drop (i+1)).map SetC.charge).sum+_≤_
 exact Nat.add_le_add_right this _
/-- what a set that could be destroyed tells -/
theorem destroy_ok (c:TenC) (p:BS) (c2:TenC) (h:(0,c2)=c.destroy p):c.E=0∧c2.E=0∧c2.charge≤c.charge∧∃ i,c2=c.dropS i:=by
 unfold TenC.destroy at h
 by_cases h1:c.ask p≠0
 ·rw [if_pos h1] at h
  injection h with h _
  exact absurd h.symm h1
 rw [if_neg h1] at h
 by_cases h2:c.find p<0
 ·rw [if_pos h2] at h
  injection h with h _
  cases h
 rw [if_neg h2] at h
 by_cases h3:p=[]∨0<c.kids p+c.clones p []∨(c.stages.any fun s=>s.into == p)=true
 ·rw [if_pos h3] at h
  injection h with h _
  cases h
 rw [if_neg h3] at h
 split at h
 ·injection h with h _
  cases h
 ·injection h with _ h
  have hE:c.E=0:=by
   unfold TenC.ask at h1
   rcases c.E_two with h6 | h6
   ·exact h6
   ·rw [if_pos h6] at h1
    exact absurd (by decide) h1
  have hne:p≠[]:=fun e=>h3 (.inl e)
  have hkc:c.kids p=0∧c.clones p []=0:=by
   have:¬ 0<c.kids p+c.clones p []:=fun e=>h3 (.inr (.inl e))
   omega
  have hfi:∃ k:Nat,∃ hk:k<c.sets.length,c.find p=(k:Int)∧(c.sets[k]'hk).path=p:=by
   rcases firstI_cases (fun s:SetC=>s.path == p) c.sets with ⟨e1,e2⟩ | ⟨k,hk,e1,e2⟩
   ·have e1:c.find p=-1:=e1
    omega
   ·exact ⟨k,hk,e1,by simpa using List.find?_some e2⟩
  obtain ⟨k,hk,e1,e2⟩:=hfi
  refine ⟨hE,?_,?_,k,?_⟩
  ·rw [h,e1,Int.toNat_natCast]
   exact (TenC.E_ok _).2 (dropS_ok c k hk ((TenC.E_ok c).1 hE) (by rw [e2];exact hne) (by rw [e2];exact hkc.1) (by rw [e2];exact hkc.2))
  ·rw [h]
   exact dropS_charge c _
  ·rw [h,e1,Int.toNat_natCast]
/-! ### a set turned -/
theorem SetOk.congr {l l':List SetC} {s:SetC} (h:SetOk l s) (hp:∀ x∈l,∃ y∈l',y.path=x.path) (hf:∀ a x,l.find? (fun x=>x.path == a)=some x→∃ y,l'.find? (fun x=>x.path == a)=some y∧y.snaps=x.snaps):SetOk l' s:=by
 refine ⟨h.path,fun u hu=>?_,h.own,h.body,h.snaps,?_⟩
 ·obtain ⟨x,hx,e⟩:=h.par u hu
  obtain ⟨y,hy,e2⟩:=hp x hx
  exact ⟨y,hy,e2.trans e⟩
 ·rcases h.org with h | ⟨a,b,h1,h2,x,hx,y,hy,e⟩
  ·exact .inl h
  ·obtain ⟨z,hz,e2⟩:=hf a x hx
   exact .inr ⟨a,b,h1,h2,z,hz,y,by rw [e2];exact hy,e⟩
theorem putS_ok (c:TenC) (k:Nat) (hk:k<c.sets.length) (s:SetC) (h:c.Ok) (h1:s.path=(c.sets[k]'hk).path) (h2:s.org=(c.sets[k]'hk).org) (h3:s.snaps=(c.sets[k]'hk).snaps) (hb:okL s.body=true) (ho:propsB s.own=true):(c.putS k s).Ok:=by
 obtain ⟨g1,g2,g3,g4,g5,g6,g7⟩:=h
 refine ⟨g1,g2,g3,?_,g5,g6,g7⟩
 show SetsOk (c.sets.set k s)
 have hpath:(c.sets.set k s).map SetC.path=c.sets.map SetC.path:=by
  rw [List.map_set,h1,← List.getElem_map SetC.path (h:=by rw [List.length_map];exact hk),List.set_getElem_self]
 have hasc:(c.sets.set k s).Pairwise fun a b=>Op.bytesLess a.path b.path=true:=by
  have:=List.pairwise_map (f:=SetC.path) (l:=c.sets) (R:=fun a b=>Op.bytesLess a b=true)
  have h4:=this.2 g4.asc
  rw [← hpath] at h4
  exact List.pairwise_map.1 h4
 have hmem:∀ x∈c.sets,∃ y∈c.sets.set k s,y.path=x.path∧y.snaps=x.snaps:=by
  intro x hx
  obtain ⟨j,hj,rfl⟩:=List.mem_iff_getElem.1 hx
  by_cases hjk:k=j
  ·subst hjk
   exact ⟨s,List.mem_iff_getElem.2 ⟨k,by rw [List.length_set];exact hj,by rw [List.getElem_set_self]⟩,h1,h3⟩
  ·exact ⟨c.sets[j],List.mem_iff_getElem.2 ⟨j,by rw [List.length_set];exact hj,by rw [List.getElem_set_ne hjk]⟩,rfl,rfl⟩
 have hcg:∀ z,SetOk c.sets z→SetOk (c.sets.set k s) z:=fun z hz=>hz.congr (fun x hx=>by
  obtain ⟨y,hy,e,_⟩:=hmem x hx
  exact ⟨y,hy,e⟩) (fun a x hx=>by
  obtain ⟨y,hy,e1,e2⟩:=hmem x (List.mem_of_find?_eq_some hx)
  have hxa:x.path=a:=by simpa using List.find?_some hx
  refine ⟨y,?_,e2⟩
  rw [← hxa,← e1]
  exact find_of_mem hasc hy)
 refine ⟨by rw [List.length_set];exact g4.len,?_,fun z hz=>?_,hasc⟩
 ·obtain ⟨x,hx,e⟩:=g4.root
  obtain ⟨y,hy,e1,_⟩:=hmem x hx
  exact ⟨y,hy,e1.trans e⟩
 ·rcases List.mem_or_eq_of_mem_set hz with hz | rfl
  ·exact hcg z (g4.each z hz)
  ·have h5:=hcg _ (g4.each _ (List.getElem_mem hk))
   exact ⟨by rw [h1];exact h5.path,by rw [h1];exact h5.par,ho,hb,by rw [h3];exact h5.snaps,by rw [h1,h2];exact h5.org⟩
end Go.Proofs.YtcgclpcocdappaaDoor
