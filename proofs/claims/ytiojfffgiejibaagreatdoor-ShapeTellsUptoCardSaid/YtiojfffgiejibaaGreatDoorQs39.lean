/-
  The page's Clones and Kids, by their contracts. What a row's slices read: the part behind a place. The sets of a tenant that may be lie in order: where a path's place is.
-/
import Derived.Test.YtiojfffgiejibaaGreatDoorQsM1
import Derived.WalkKit
import Derived.WalkSpells
import Derived.Below
import Derived.Laws.OwnMore
import Derived.Deep.AppendLies
import Derived.Deep.Draws
import Derived.Laws.Rows
import Derived.Maps.AppendAt
import Derived.RegionTactic
import Derived.OwnWalk
import Derived.Deep.QuietTactic
import Derived.BigQuiet
import Derived.Lib.Hide
import Derived.Laws.CopyOwn
import Derived.IntWalk
import Derived.Test.YtiojfffgiejibaaGreatDoorRows
import Derived.Handy
import Derived.Deep.Quiet
import Derived.Orders
import Derived.Lib.SplitLaws
import Derived.Lib.LastIndexByte
import Derived.Lib.Strings
import Derived.ShutString
import Derived.Sort.Walk0
import Derived.Sort.KeysCollected
import Derived.Shelf.Strings.Search1
import Derived.Shelf.Strings.Search2
import Derived.Shelf.Strings.Search3
import Derived.Shelf.Strings.Cut
import Derived.Shelf.Strings.Count
import Derived.Shelf.LaysM
import Derived.Shelf.Strings.Shaped
import Derived.Shelf.Strings.LastIndex
import Derived.Shelf.Strings.Split
import Derived.Shelf.Strings.SplitShaped
import Derived.Shelf.Unicode.Decode
import Derived.Shelf.Strings.RuneCount
import Derived.Shelf.Strings.Explode
import Derived.Shelf.Unicode.DecodeSlow
import Derived.Shelf.Slices.Turned
import Derived.Test.YtiojfffgiejibaaGreatDoorProg
import Derived.Laws.BytesString
import Derived.Laws.IdiomStrings
import Derived.Lib.ConvBytes
import Derived.Deep.MidRow
import Derived.Test.YtiojfffgiejibaaGreatDoorQ0
import Derived.Test.YtiojfffgiejibaaGreatDoorQs1
import Derived.Test.YtiojfffgiejibaaGreatDoorQs2
import Derived.Test.YtiojfffgiejibaaGreatDoorQs5
import Derived.Test.YtiojfffgiejibaaGreatDoorQs7
import Derived.Test.YtiojfffgiejibaaGreatDoorQs8
import Derived.Test.YtiojfffgiejibaaGreatDoorQs10
import Derived.Test.YtiojfffgiejibaaGreatDoorQs12
import Derived.Test.YtiojfffgiejibaaGreatDoorQs19
import Derived.Test.YtiojfffgiejibaaGreatDoorQs25
import Derived.Test.YtiojfffgiejibaaGreatDoorQs28
import Derived.Test.YtiojfffgiejibaaGreatDoorQs31
namespace Go.Proofs.YtiojfffgiejibaaGreatDoor
open Go.RowKit
theorem Tryz.rfcStr_info:(Tryz.prog.info? 9).map (fun i=>(i.zero,i.size,i.bytes))=some (some (.string ByteArray.empty),1,16):=tZ2
set_option maxRecDepth 100000 in
set_option maxHeartbeats 8000000 in
theorem rclones_any (v0 v1 v2 v4 v5 v6:Value) (l:List SetR) (n:Nat) (hnl:n=l.length) (A:Option Addr) (c:Nat) (p nq:BS) (w:World) (B:Nat) (hr:Reads w B 5 A n (cellsK encSet l)) (hB:B≤w.heap.size) (hn:n≤1000000000000) (hv:∀ y∈l,y.org.length≤4000000000) :
  Calls Tryz.prog 57 #[.agg #[v0,v1,v2,.slice A n c,v4,v5,v6],.string ⟨p.toArray⟩,.string ⟨nq.toArray⟩] w fun e w'=>(∃ A1 c1,e=.returned (.slice A1 (clonesL l p nq).length c1))∧Below w.heap.size w w':=by
 obtain ⟨i0,hi0,hz0,hz1,hz2⟩:=info_parts Tryz.rfcStr_info
 have HN:=Lib.hid hnl
 have hb1:=(Below.refl w.heap.size w).alloc (Nat.le_refl _) (.cells #[v0,v1,v2,.slice A n c,v4,v5,v6] 27)
 have kT:=Blk.new w 27 #[v0,v1,v2,.slice A n c,v4,v5,v6]
 obtain ⟨W1,hW1⟩:∃ W,W=w.alloc (.cells #[v0,v1,v2,.slice A n c,v4,v5,v6] 27):=⟨_,rfl⟩
 have hsz1:W1.heap.size=w.heap.size+1:=tZ32
 rw [← hW1] at hb1 kT
 have hT:Hid (∀ W',Below W1.heap.size W1 W'→W'.cell? ⟨w.heap.size,3,none⟩=some (.slice A n c)):=fun W' hB'=>(kT.below hB' tZ1).cell 3
 have hR:Hid (∀ W',Below W1.heap.size W1 W'→Reads W' B 5 A n (cellsK encSet l)):=fun W' hB'=>hr.below ((hb1.trans (hB'.mono tZ1)).mono hB)
 have HB1:=Lib.hid hb1
 have HSZ1:=Lib.hid hsz1
 have HVS:=Lib.hid hv
 clear hnl hr kT hsz1 hv hb1
 go_enter Tryz.func57,Tryz.ntmps57
 go_wp2_with fail
 rw [← hW1]
 clear hW1
 go_loopw [7,8] (fun a j wr=>∃ (k m:Nat) (A1:Option Addr) (c1:Nat),k≤n∧m≤k∧a=.slice A1 m c1∧j=.int .i64 (k:Int)∧Hid (m=(clonesL (l.take k) p nq).length)∧wr.ownsRow W1.heap.size 9 1 (.slice A1 m c1) m (scells (clonesL (l.take k) p nq))∧Below W1.heap.size W1 wr) (fun _ j _=>n-(intOf j).toNat)
 case atStart=>exact ⟨0,0,none,0,Nat.zero_le _,Nat.zero_le _,rfl,rfl,rfl,⟨rfl,.inl ⟨rfl,rfl⟩⟩,Below.refl _ _⟩
 case round =>
  obtain ⟨k,m,A1,c1,hk,hmk,rfl,rfl,hml,hown,hbw⟩:=hrel
  have t3:=hT.out wr hbw
  by_cases hlt:k<n
  ·have hki:(k:Int)<(n:Int):=tZ1
   have hk0:(0:Int)≤(k:Int):=tZ1
   have hkl:k<l.length:=tZ9
   have htk:=List.take_succ_eq_append_getElem hkl
   have hxl:=HVS.out _ (List.getElem_mem hkl)
   have hat:=fun W h=>set_at (hR.out W h) HN.out hlt
   obtain ⟨x,hx⟩:∃ x,x=l[k]'hkl:=⟨_,rfl⟩
   simp only [← hx] at hat
   rw [← hx] at htk hxl
   have HNT:Hid (clonesL (l.take (k+1)) p nq=clonesL (l.take k) p nq++(if clP p nq x.org=true then [x.path] else [])):=by
    show _=_
    rw [htk,clonesL_snoc]
   obtain ⟨xp,xo,⟨bA,bn,bc,bl⟩,⟨zA,zn,zc,zl⟩,⟨oA,on,oc,ol⟩⟩:=x
   simp only at hat HNT hxl
   have HAT:=Lib.hid hat
   obtain ⟨ad,hA,-,e0,e1,-,-,-⟩:=hat wr hbw
   subst hA
   have hpn:=refSplit_any ⟨xo.toArray⟩ wr (by show xo.length≤_;exact hxl)
   rw [show (ByteArray.mk xo.toArray).data.toList=xo from rfl] at hpn
   have HBW:=Lib.hid hbw
   have HOW:=Lib.hid hown
   clear hx hat htk hbw hown e0
   go_wp2_with fail
   refine hpn.mono ?_
   clear hpn e1 t3
   rintro e w4 ⟨rfl,hb4⟩
   have ho4:=own_below HOW.out hb4
   have hbf:=HBW.out.trans (hb4.mono HBW.out.size)
   have hbase:=hbf.size
   have t3:=hT.out w4 hbf
   obtain ⟨ad2,hA2,-,e0,-,-,-,-⟩:=HAT.out w4 hbf
   injection hA2 with hA2
   subst hA2
   clear hb4
   rcases splitV_cases xo with ⟨hs1,hs2⟩ | ⟨sa,sb,hs1,hs2,-,-⟩
   ·exact mZ161
   ·rw [hs2]
    have HCL:Hid (clP p nq xo=(sa == p && (nq == [] || sb == nq))):=tZ146
    clear hs1 hs2
    by_cases hap:sa=p
    ·have hap1:(sa == p)=true:=tZ81
     by_cases hq:nq=[]
     ·subst hq
      have HNT2:Hid (clonesL (l.take (k+1)) p []=clonesL (l.take k) p []++[xp]):=by
       show _=_
       rw [HNT.out,if_pos (by rw [HCL.out,hap1];rfl)]
      clear HNT
      go_wp2_with (at_builtin;(refine wpList_push w4 rfl (.tmp 46) (.tmp 53) 51 rfl W1.heap.size 9 i0 (.string ByteArray.empty) 1 16 Tryz.underlying51 hi0 hz0 hz1 hz2 rfl tZ1 (.slice A1 m c1) m _ rfl ho4 1 #[.string ⟨xp.toArray⟩] 9 rfl rfl tZ5 tZ11 tZ1 hbase ?_);intro v' w' ho' hb' hg')
      obtain ⟨A2,c2,rfl,_,_,_⟩:=own_form ho'
      go_wp2_with fail
      go_roundw
      case rel=>exact ⟨k+1,m+1,A2,c2,by omega,by omega,rfl,by go_num,by show _=_;rw [HNT2.out,List.length_append,← hml.out];rfl,by rw [HNT2.out,scells_append];exact ho',hbf.trans hb'⟩
      case measure=>simp [intOf];omega
     ·have hq1:(nq == [])=false:=by simpa using hq
      have hq2:(nq.toArray == #[])=false:=by simpa using hq
      by_cases hb:sb=nq
      ·subst hb
       have hq3:(sb == sb)=true:=tZ3
       have HNT2:Hid (clonesL (l.take (k+1)) p sb=clonesL (l.take k) p sb++[xp]):=by
        show _=_
        rw [HNT.out,if_pos (by rw [HCL.out,hap1,hq3];simp)]
       clear HNT
       go_wp2_with (at_builtin;(refine wpList_push w4 rfl (.tmp 46) (.tmp 53) 51 rfl W1.heap.size 9 i0 (.string ByteArray.empty) 1 16 Tryz.underlying51 hi0 hz0 hz1 hz2 rfl tZ1 (.slice A1 m c1) m _ rfl ho4 1 #[.string ⟨xp.toArray⟩] 9 rfl rfl tZ5 tZ11 tZ1 hbase ?_);intro v' w' ho' hb' hg')
       obtain ⟨A2,c2,rfl,_,_,_⟩:=own_form ho'
       go_wp2_with fail
       go_roundw
       case rel=>exact ⟨k+1,m+1,A2,c2,by omega,by omega,rfl,by go_num,by show _=_;rw [HNT2.out,List.length_append,← hml.out];rfl,by rw [HNT2.out,scells_append];exact ho',hbf.trans hb'⟩
       case measure=>simp [intOf];omega
      ·have hb1:(sb == nq)=false:=by simpa using hb
       have hb2:¬ nq=sb:=fun e=>hb e.symm
       have hb3:(nq == sb)=false:=by simpa using hb2
       exact mZ159
    ·have hap1:(sa == p)=false:=tZ81
     have HNT2:Hid (clonesL (l.take (k+1)) p nq=clonesL (l.take k) p nq):=by
      show _=_
      rw [HNT.out,if_neg (by rw [HCL.out,hap1];simp)]
      simp
     clear HNT
     exact mZ156
  ·have hkn:k=n:=tZ1
   have HML:Hid (m=(clonesL l p nq).length):=by
    exact mZ212
   exact mZ211
theorem kidsL_step (l:List SetR) (x:SetR) (p:BS):kidsL (l++[x]) p=kidsL l p++(if parB x.path=some p then [x.path] else []):=by
 unfold kidsL
 rw [List.filter_append,List.map_append]
 congr 1
 by_cases h:parB x.path=some p
 ·simp [h]
 ·rw [if_neg h,List.filter_cons_of_neg tZ50]
  rfl
set_option maxRecDepth 100000 in
set_option maxHeartbeats 8000000 in
theorem rkids_any (v0 v1 v2 v4 v5 v6:Value) (l:List SetR) (n:Nat) (hnl:n=l.length) (A:Option Addr) (c:Nat) (p:BS) (w:World) (B:Nat) (hr:Reads w B 5 A n (cellsK encSet l)) (hB:B≤w.heap.size) (hn:n≤1000000000000) (hv:∀ y∈l,y.path.length≤4000000000) :
  Calls Tryz.prog 56 #[.agg #[v0,v1,v2,.slice A n c,v4,v5,v6],.string ⟨p.toArray⟩] w fun e w'=>(∃ A1 c1,e=.returned (.slice A1 (kidsL l p).length c1))∧Below w.heap.size w w':=by
 obtain ⟨i0,hi0,hz0,hz1,hz2⟩:=info_parts Tryz.rfcStr_info
 have HN:=Lib.hid hnl
 have hb1:=(Below.refl w.heap.size w).alloc (Nat.le_refl _) (.cells #[v0,v1,v2,.slice A n c,v4,v5,v6] 27)
 have kT:=Blk.new w 27 #[v0,v1,v2,.slice A n c,v4,v5,v6]
 obtain ⟨W1,hW1⟩:∃ W,W=w.alloc (.cells #[v0,v1,v2,.slice A n c,v4,v5,v6] 27):=⟨_,rfl⟩
 have hsz1:W1.heap.size=w.heap.size+1:=tZ32
 rw [← hW1] at hb1 kT
 have hT:Hid (∀ W',Below W1.heap.size W1 W'→W'.cell? ⟨w.heap.size,3,none⟩=some (.slice A n c)):=fun W' hB'=>(kT.below hB' tZ1).cell 3
 have hR:Hid (∀ W',Below W1.heap.size W1 W'→Reads W' B 5 A n (cellsK encSet l)):=fun W' hB'=>hr.below ((hb1.trans (hB'.mono tZ1)).mono hB)
 have HB1:=Lib.hid hb1
 have HSZ1:=Lib.hid hsz1
 have HVS:=Lib.hid hv
 clear hnl hr kT hsz1 hv hb1
 go_enter Tryz.func56,Tryz.ntmps56
 go_wp2_with fail
 rw [← hW1]
 clear hW1
 go_loopw [5,6] (fun a j wr=>∃ (k m:Nat) (A1:Option Addr) (c1:Nat),k≤n∧m≤k∧a=.slice A1 m c1∧j=.int .i64 (k:Int)∧Hid (m=(kidsL (l.take k) p).length)∧wr.ownsRow W1.heap.size 9 1 (.slice A1 m c1) m (scells (kidsL (l.take k) p))∧Below W1.heap.size W1 wr) (fun _ j _=>n-(intOf j).toNat)
 case atStart=>exact ⟨0,0,none,0,Nat.zero_le _,Nat.zero_le _,rfl,rfl,rfl,⟨rfl,.inl ⟨rfl,rfl⟩⟩,Below.refl _ _⟩
 case round =>
  obtain ⟨k,m,A1,c1,hk,hmk,rfl,rfl,hml,hown,hbw⟩:=hrel
  have t3:=hT.out wr hbw
  by_cases hlt:k<n
  ·have hki:(k:Int)<(n:Int):=tZ1
   have hk0:(0:Int)≤(k:Int):=tZ1
   have hkl:k<l.length:=tZ9
   have htk:=List.take_succ_eq_append_getElem hkl
   have hxl:=HVS.out _ (List.getElem_mem hkl)
   have hat:=fun W h=>set_at (hR.out W h) HN.out hlt
   obtain ⟨x,hx⟩:∃ x,x=l[k]'hkl:=⟨_,rfl⟩
   simp only [← hx] at hat
   rw [← hx] at htk hxl
   have HNT:Hid (kidsL (l.take (k+1)) p=kidsL (l.take k) p++(if parB x.path=some p then [x.path] else [])):=by
    show _=_
    rw [htk,kidsL_step]
   obtain ⟨xp,xo,⟨bA,bn,bc,bl⟩,⟨zA,zn,zc,zl⟩,⟨oA,on,oc,ol⟩⟩:=x
   simp only at hat HNT hxl
   have HAT:=Lib.hid hat
   obtain ⟨ad,hA,-,e0,-,-,-,-⟩:=hat wr hbw
   subst hA
   have hpn:=refParent_any ⟨xp.toArray⟩ wr (by show xp.toArray.size≤_;simpa using hxl)
   have HBW:=Lib.hid hbw
   have HOW:=Lib.hid hown
   clear hx hat htk hbw hown
   go_wp2_with fail
   refine hpn.mono ?_
   clear hpn t3 e0
   rintro e w4 ⟨hb4,⟨hs1,rfl⟩ | ⟨hs1,hs2,rfl⟩⟩
   ·have ho4:=own_below HOW.out hb4
    have hbf:=HBW.out.trans (hb4.mono HBW.out.size)
    have HPB:Hid (parB xp=none):=by show _=_;unfold parB;exact if_pos hs1
    clear hb4 hs1
    have HNT2:Hid (kidsL (l.take (k+1)) p=kidsL (l.take k) p):=by
     show _=_
     rw [HNT.out,if_neg (by rw [HPB.out];simp)]
     simp
    clear HNT HPB
    exact mZ156
   ·have ho4:=own_below HOW.out hb4
    have hbf:=HBW.out.trans (hb4.mono HBW.out.size)
    have hs1:xp≠[]:=hs1
    have hs2:pathB xp=true:=hs2
    have HPB:Hid (parB xp=some (upL xp)):=by show _=_;unfold parB;exact if_neg (by rintro (h | h);exact hs1 h;rw [hs2] at h;cases h)
    have hbase:=hbf.size
    have t3:=hT.out w4 hbf
    obtain ⟨ad2,hA2,-,e0,-,-,-,-⟩:=HAT.out w4 hbf
    injection hA2 with hA2
    subst hA2
    obtain ⟨up,hup⟩:∃ u,u=upL xp:=⟨_,rfl⟩
    rw [← hup] at HPB ⊢
    clear hb4 hs1 hs2 hup
    by_cases hap:up=p
    ·subst hap
     have hap1:(up == up)=true:=tZ3
     have HNT2:Hid (kidsL (l.take (k+1)) up=kidsL (l.take k) up++[xp]):=by
      show _=_
      rw [HNT.out,if_pos HPB.out]
     clear HNT HPB
     go_wp2_with (at_builtin;(refine wpList_push w4 rfl (.tmp 32) (.tmp 39) 51 rfl W1.heap.size 9 i0 (.string ByteArray.empty) 1 16 Tryz.underlying51 hi0 hz0 hz1 hz2 rfl tZ1 (.slice A1 m c1) m _ rfl ho4 1 #[.string ⟨xp.toArray⟩] 9 rfl rfl tZ5 tZ11 tZ1 hbase ?_);intro v' w' ho' hb' hg')
     obtain ⟨A2,c2,rfl,_,_,_⟩:=own_form ho'
     go_wp2_with fail
     go_roundw
     case rel=>exact ⟨k+1,m+1,A2,c2,by omega,by omega,rfl,by go_num,by show _=_;rw [HNT2.out,List.length_append,← hml.out];rfl,by rw [HNT2.out,scells_append];exact ho',hbf.trans hb'⟩
     case measure=>simp [intOf];omega
    ·have hap1:(up == p)=false:=tZ81
     have hap2:(up.toArray == p.toArray)=false:=tZ81
     have HNT2:Hid (kidsL (l.take (k+1)) p=kidsL (l.take k) p):=by
      show _=_
      rw [HNT.out,if_neg (by rw [HPB.out];simpa using hap)]
      simp
     clear HNT HPB
     exact mZ156
  ·have hkn:k=n:=tZ1
   have HML:Hid (m=(kidsL l p).length):=by
    exact mZ212
   exact mZ211
end Go.Proofs.YtiojfffgiejibaaGreatDoor
namespace Go.Proofs.YtiojfffgiejibaaGreatDoor
open Go.RowKit
theorem Reads.rest {w:World} {B size n g c k:Nat} {xs:List Value} (h:Reads w B size (some ⟨g,0,none⟩) n xs) (hk:k≤n) (hc:n≤c):Reads w B size (if c=k then some ⟨g,0,none⟩ else some ((⟨g,0,none⟩:Addr).add (k*size))) (n-k) (xs.drop (k*size)):=by
 obtain ⟨h1,h2⟩:=h
 refine ⟨by rw [List.length_drop,h1,Nat.sub_mul],fun hp=>?_⟩
 rw [if_neg tZ1]
 obtain ⟨ad,e,hb,hcl⟩:=h2 tZ1
 injection e with e
 subst e
 refine ⟨_,rfl,?_,fun j u hj=>?_⟩
 ·have:((⟨g,0,none⟩:Addr).add (k*size)).block=g:=tZ142
  rw [this]
  exact hb
 ·rw [List.getElem?_drop] at hj
  have h3:=hcl _ _ hj
  have e:((⟨g,0,none⟩:Addr).add (k*size)).add j=(⟨g,0,none⟩:Addr).add (k*size+j):=by
   unfold Addr.add
   by_cases h0:k*size=0
   ·simp [h0]
   ·by_cases hj0:j=0
    ·simp [hj0]
    ·simp [h0,hj0]
  rw [e]
  exact h3
theorem grown_any {w W:World} {o:Option Nat} (hb:Below w.heap.size w W):w.grownBy W o:=⟨hb.os,hb.tape,hb.output,hb.size,fun k hk _=>hb.block k hk⟩
end Go.Proofs.YtiojfffgiejibaaGreatDoor
namespace Go.Proofs.YtiojfffgiejibaaGreatDoor
open Go.RowKit
theorem setsB_pairs (l:List SetR) (h:setsB l=true):l.length≤32∧l.Pairwise fun a b=>Op.bytesLess a.path b.path=true:=by
 unfold setsB at h
 simp only [Bool.and_eq_true,decide_eq_true_eq] at h
 exact ⟨h.1.1,((setsFrom_iff l none l).1 h.2).2.1⟩
theorem pairs_asc (l:List SetR) (h:l.Pairwise fun a b=>Op.bytesLess a.path b.path=true) (p:BS):SignAsc (fun s:SetR=>cmpS s.path p) l:=by
 intro i j a b hij ha hb hlt
 obtain ⟨hi,hai⟩:=List.getElem?_eq_some_iff.1 ha
 obtain ⟨hj,hbj⟩:=List.getElem?_eq_some_iff.1 hb
 have h1:=List.pairwise_iff_getElem.1 h i j hi hj hij
 rw [hai,hbj] at h1
 have hlt:cmpS b.path p<0:=hlt
 show cmpS a.path p<0
 rw [cmpS_neg] at hlt ⊢
 exact bl_trans h1 hlt
theorem tenE_ord (t:TenR) (h:tenE t=0):t.sets.l.length≤32∧t.sets.l.Pairwise fun a b=>Op.bytesLess a.path b.path=true:=by
 unfold tenE at h
 have hb:tenB t=true:=by
  by_cases hb:tenB t=true
  ·exact hb
  ·rw [if_neg hb] at h;exact absurd h tZ4
 unfold tenB at hb
 simp only [Bool.and_eq_true] at hb
 exact setsB_pairs _ hb.1.1.1.2
end Go.Proofs.YtiojfffgiejibaaGreatDoor
