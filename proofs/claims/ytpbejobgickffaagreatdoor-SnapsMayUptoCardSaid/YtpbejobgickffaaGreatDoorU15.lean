/-
  The page's amount, Find, Snap, tags, Parent, Split: by their contracts. tree.copySnap, by its contract. The page's SameSnap, SameSet at equal contents: they answer true. tree.odd; slices.IndexFunc and ContainsFunc at entries: by their contracts.
-/
import Derived.Test.YtpbejobgickffaaGreatDoorU0
import Derived.Test.YtpbejobgickffaaGreatDoorU11
import Derived.Test.YtpbejobgickffaaGreatDoorU6
import Derived.Test.YtpbejobgickffaaGreatDoorU12
import Derived.Test.YtpbejobgickffaaGreatDoorU2
import Derived.Test.YtpbejobgickffaaGreatDoorU3
import Derived.Deep.DeepCutAuto
import Derived.Test.YtpbejobgickffaaGreatDoorU7
import Derived.Test.YtpbejobgickffaaGreatDoorU10
import Derived.Test.YtpbejobgickffaaGreatDoorU13
namespace Go.Proofs.YtpbejobgickffaaGreatDoor
open Go.RowKit
set_option maxRecDepth 100000 in
theorem refAmount_any (n k:Int) (w:World):Calls Tryz.prog 88 #[.int .i64 n,.int .i64 k] w fun e w'=>e=.returned (.bool (amt n k))∧w'=w:=by
 go_enter Tryz.func88,Tryz.ntmps88
 go_wp2_with fail
 all_goals go_ret
 all_goals refine ⟨congrArg Ending.returned (congrArg Value.bool ?_),rfl⟩
 all_goals unfold amt
 all_goals rw [Bool.eq_iff_iff]
 all_goals simp
 all_goals omega
theorem refAmountB_any (n k:Int) (w:World):Calls Tryz.prog 88 #[.int .i64 n,.int .i64 k] w fun e w'=>e=.returned (.bool (amt n k))∧Below w.heap.size w w':=by
 refine (refAmount_any n k w).mono ?_
 rintro e w1 ⟨rfl,rfl⟩
 exact ⟨rfl,Below.refl _ _⟩
theorem refNameB_any (x:BS) (w:World) (hs:x.length≤4000000000):Calls Tryz.prog 87 #[.string ⟨x.toArray⟩] w fun e w'=>e=.returned (.bool (nameB x))∧Below w.heap.size w w':=by
 refine (refName_s ⟨x.toArray⟩ w (by show x.length≤_;omega)).mono ?_
 rintro e w1 ⟨rfl,rfl⟩
 exact ⟨rfl,Below.refl _ _⟩
set_option maxRecDepth 100000 in
set_option maxHeartbeats 1000000 in
theorem refFind_any (v0 v1 v2 v4 v5 v6:Value) (l:List SetR) (n:Nat) (hnl:n=l.length) (A:Option Addr) (c:Nat) (p:BS) (w:World) (B:Nat) (hr:Reads w B 5 A n (cellsK encSet l)) (hB:B≤w.heap.size) (hn:n≤5000000000000) :
  Calls Tryz.prog 12 #[.agg #[v0,v1,v2,.slice A n c,v4,v5,v6],.string ⟨p.toArray⟩] w fun e w'=>e=.returned (.int .i64 (findS l p))∧Below w.heap.size w w':=by
 have HN:=Lib.hid hnl
 have hb1:=(Below.refl w.heap.size w).alloc (Nat.le_refl _) (.cells #[v0,v1,v2,.slice A n c,v4,v5,v6] 27)
 have kT:=Blk.new w 27 #[v0,v1,v2,.slice A n c,v4,v5,v6]
 obtain ⟨W1,hW1⟩:∃ W,W=w.alloc (.cells #[v0,v1,v2,.slice A n c,v4,v5,v6] 27):=⟨_,rfl⟩
 have hsz1:W1.heap.size=w.heap.size+1:=by rw [hW1];simp
 rw [← hW1] at hb1 kT
 have q3:W1.cell? ⟨w.heap.size,3,none⟩=some (.slice A n c):=kT.cell 3
 have hrw:=hr.below (hb1.mono hB)
 have HB1:=Lib.hid hb1
 clear hnl hr kT hsz1 hb1
 go_enter Tryz.func12,Tryz.ntmps12
 go_wp2_with fail
 rw [← hW1]
 clear hW1
 go_loopw [5] (fun j wr=>∃ k:Nat,k≤n∧j=.int .i64 (k:Int)∧Hid (∀ y∈l.take k,(y.path == p)=false)∧wr=W1) (fun j _=>n-(intOf j).toNat)
 case atStart=>exact ⟨0,Nat.zero_le _,rfl,(show ∀ y∈_,_ by simp),rfl⟩
 case round =>
  obtain ⟨k,hk,rfl,hno,hww⟩:=hrel
  have hww:=hww.symm
  subst hww
  by_cases hlt:k<n
  ·have hki:(k:Int)<(n:Int):=by omega
   have hkl:k<l.length:=by have:=HN.out;omega
   obtain ⟨ad,rfl,-,c0,-⟩:=set_at hrw HN.out hlt
   obtain ⟨x,hx⟩:∃ x,x=l[k]'hkl:=⟨_,rfl⟩
   rw [← hx] at c0
   have htk:=List.take_succ_eq_append_getElem hkl
   rw [← hx] at htk
   have HTK:=Lib.hid htk
   have HX:=Lib.hid (show l[k]?=some x by rw [hx];exact List.getElem?_eq_getElem _)
   obtain ⟨xp,hxp⟩:∃ y,y=x.path:=⟨_,rfl⟩
   rw [← hxp] at c0
   have HXP:=Lib.hid hxp
   clear hx htk hrw hxp
   by_cases hxy:xp=p
   ·subst hxy
    go_wp2_with fail
    go_ret
    have hf:=firstP_eq (fun y:SetR=>y.path == xp) l k x hno.out HX.out (by show (x.path == xp)=true;rw [← HXP.out];simp)
    exact ⟨by show _=Ending.returned (.int .i64 (firstI (fun y:SetR=>y.path == xp) l));unfold firstI;rw [hf,if_pos hkl];rfl,HB1.out⟩
   ·have hd:(xp == p)=false:=by simpa using hxy
    have HD:Hid ((x.path == p)=false):=by show _=_;rw [← HXP.out];exact hd
    clear hxy
    go_wp2_with fail
    go_roundw
    case rel =>
     refine ⟨k+1,by omega,by go_num,?_,trivial⟩
     show ∀ z∈l.take (k+1),(z.path == p)=false
     intro z hz
     rw [HTK.out] at hz
     rcases List.mem_append.1 hz with hz | hz
     ·exact hno.out z hz
     ·simp at hz;subst hz;exact HD.out
    case measure=>simp [intOf];omega
  ·have hkn:k=n:=by omega
   have HF:Hid (findS l p=-1):=by
    show firstI (fun y:SetR=>y.path == p) l=_
    unfold firstI
    rw [firstP_none _ l (fun y hy=>hno.out y (by rw [List.take_of_length_le (by rw [hkn,HN.out];exact Nat.le_refl _)];exact hy)),if_neg (Nat.lt_irrefl _)]
   clear hrw hkn
   go_wp2_with fail
   go_ret
   exact ⟨by rw [HF.out];rfl,HB1.out⟩
set_option maxRecDepth 100000 in
set_option maxHeartbeats 1000000 in
theorem refSnap_any (v0 v1 v2 v4:Value) (l:List SnapR) (n:Nat) (hnl:n=l.length) (A:Option Addr) (c:Nat) (p:BS) (w:World) (B:Nat) (hr:Reads w B 5 A n (cellsK encSnap l)) (hB:B≤w.heap.size) (hn:n≤5000000000000) :
  Calls Tryz.prog 37 #[.agg #[v0,v1,v2,.slice A n c,v4],.string ⟨p.toArray⟩] w fun e w'=>e=.returned (.int .i64 (findN l p))∧Below w.heap.size w w':=by
 have HN:=Lib.hid hnl
 have hb1:=(Below.refl w.heap.size w).alloc (Nat.le_refl _) (.cells #[v0,v1,v2,.slice A n c,v4] 42)
 have kT:=Blk.new w 42 #[v0,v1,v2,.slice A n c,v4]
 obtain ⟨W1,hW1⟩:∃ W,W=w.alloc (.cells #[v0,v1,v2,.slice A n c,v4] 42):=⟨_,rfl⟩
 have hsz1:W1.heap.size=w.heap.size+1:=by rw [hW1];simp
 rw [← hW1] at hb1 kT
 have q3:W1.cell? ⟨w.heap.size,3,none⟩=some (.slice A n c):=kT.cell 3
 have hrw:=hr.below (hb1.mono hB)
 have HB1:=Lib.hid hb1
 clear hnl hr kT hsz1 hb1
 go_enter Tryz.func37,Tryz.ntmps37
 go_wp2_with fail
 rw [← hW1]
 clear hW1
 go_loopw [5] (fun j wr=>∃ k:Nat,k≤n∧j=.int .i64 (k:Int)∧Hid (∀ y∈l.take k,(y.nm == p)=false)∧wr=W1) (fun j _=>n-(intOf j).toNat)
 case atStart=>exact ⟨0,Nat.zero_le _,rfl,(show ∀ y∈_,_ by simp),rfl⟩
 case round =>
  obtain ⟨k,hk,rfl,hno,hww⟩:=hrel
  have hww:=hww.symm
  subst hww
  by_cases hlt:k<n
  ·have hki:(k:Int)<(n:Int):=by omega
   have hkl:k<l.length:=by have:=HN.out;omega
   obtain ⟨ad,rfl,-,c0,-⟩:=snap_at hrw HN.out hlt
   obtain ⟨x,hx⟩:∃ x,x=l[k]'hkl:=⟨_,rfl⟩
   rw [← hx] at c0
   have htk:=List.take_succ_eq_append_getElem hkl
   rw [← hx] at htk
   have HTK:=Lib.hid htk
   have HX:=Lib.hid (show l[k]?=some x by rw [hx];exact List.getElem?_eq_getElem _)
   obtain ⟨xp,hxp⟩:∃ y,y=x.nm:=⟨_,rfl⟩
   rw [← hxp] at c0
   have HXP:=Lib.hid hxp
   clear hx htk hrw hxp
   by_cases hxy:xp=p
   ·subst hxy
    go_wp2_with fail
    go_ret
    have hf:=firstP_eq (fun y:SnapR=>y.nm == xp) l k x hno.out HX.out (by show (x.nm == xp)=true;rw [← HXP.out];simp)
    exact ⟨by show _=Ending.returned (.int .i64 (firstI (fun y:SnapR=>y.nm == xp) l));unfold firstI;rw [hf,if_pos hkl];rfl,HB1.out⟩
   ·have hd:(xp == p)=false:=by simpa using hxy
    have HD:Hid ((x.nm == p)=false):=by show _=_;rw [← HXP.out];exact hd
    clear hxy
    go_wp2_with fail
    go_roundw
    case rel =>
     refine ⟨k+1,by omega,by go_num,?_,trivial⟩
     show ∀ z∈l.take (k+1),(z.nm == p)=false
     intro z hz
     rw [HTK.out] at hz
     rcases List.mem_append.1 hz with hz | hz
     ·exact hno.out z hz
     ·simp at hz;subst hz;exact HD.out
    case measure=>simp [intOf];omega
  ·have hkn:k=n:=by omega
   have HF:Hid (findN l p=-1):=by
    show firstI (fun y:SnapR=>y.nm == p) l=_
    unfold firstI
    rw [firstP_none _ l (fun y hy=>hno.out y (by rw [List.take_of_length_le (by rw [hkn,HN.out];exact Nat.le_refl _)];exact hy)),if_neg (Nat.lt_irrefl _)]
   clear hrw hkn
   go_wp2_with fail
   go_ret
   exact ⟨by rw [HF.out];rfl,HB1.out⟩
def prevS (l:List BS) (k:Nat):Option BS:=match k with
 | 0=>none
 | j+1=>l[j]?
set_option maxRecDepth 100000 in
set_option maxHeartbeats 2000000 in
theorem refTags_any (l:List BS) (n:Nat) (hnl:n=l.length) (A:Option Addr) (c:Nat) (w:World) (B:Nat) (hr:Reads w B 1 A n (scells l)) (hn:n≤5000000000000) (hv:∀ x∈l,x.length≤4000000000) :
  Calls Tryz.prog 180 #[.slice A n c] w fun e w'=>e=.returned (.bool (tagsB l))∧∃ q,w'=w.drewN q:=by
 have HN:=Lib.hid hnl
 obtain ⟨V,hV⟩:∃ V,V=tagsB l:=⟨_,rfl⟩
 have HVB:Hid (V=(decide (n≤4) && ascF none l)):=by show _=_;rw [hV];unfold tagsB;rw [hnl]
 rw [← hV]
 clear hnl hV
 go_enter Tryz.func180,Tryz.ntmps180
 go_wp2_with fail
 go_loopw [3] (fun j wr=>∃ k:Nat,k≤n∧j=.int .i64 (k:Int)∧Hid (ascF none l=ascF (prevS l k) (l.drop k))∧∃ p,wr=w.drewN p) (fun j _=>n-(intOf j).toNat)
 case atStart=>exact ⟨0,Nat.zero_le _,rfl,rfl,0,rfl⟩
 case round =>
  obtain ⟨k,hk,rfl,hok,p,rfl⟩:=hrel
  by_cases hlt:k<n
  ·obtain ⟨ad,rfl,hadB,c0⟩:=strs_at hr HN.out hlt
   have hki:(k:Int)<(n:Int):=by omega
   have hkl:k<l.length:=by have:=HN.out;omega
   obtain ⟨x,hx⟩:∃ x,x=l[k]'hkl:=⟨_,rfl⟩
   have hxl:=hv x (by rw [hx];exact List.getElem_mem _)
   rw [← hx] at c0
   have hdr:=List.drop_eq_getElem_cons hkl
   rw [← hx] at hdr
   have HX:=Lib.hid hx
   have HDR:=Lib.hid hdr
   simp only [strV] at c0
   have hbad:Hid ((nameB x=false∨(∃ y,prevS l k=some y∧Op.bytesLess y x=false))→V=false):=by
    show _→_
    intro h
    rw [HVB.out,hok.out,HDR.out,ascF_cons]
    rcases h with h | ⟨y,hy,h⟩
    ·rw [h];simp
    ·rw [hy];simp [h]
   have hgood:Hid (nameB x=true→(∀ y,prevS l k=some y→Op.bytesLess y x=true)→ascF none l=ascF (prevS l (k+1)) (l.drop (k+1))):=by
    show _→_→_
    intro h1 h3
    rw [hok.out,HDR.out]
    have hp:prevS l (k+1)=some x:=by
     show l[k]?=_
     rw [List.getElem?_eq_getElem hkl,← HX.out]
    rw [hp,ascF_cons,h1]
    cases hq:prevS l k with
    | none=>rfl
    | some y=>simp [h3 y hq]
   have hN:∀ m,Calls Tryz.prog 87 #[.string ⟨x.toArray⟩] (w.drewN (p+m)) fun e W'=>e=.returned (.bool (nameB x))∧∃ n,W'=w.drewN (p+n):=fun m=>quietN (refName_any x _ (by omega))
   clear hx hdr hok hxl hv
   obtain ⟨bn,hbn0⟩:∃ b,b=nameB x:=⟨_,rfl⟩
   rw [← hbn0] at hbad hgood hN
   clear hbn0
   cases bn with
   | false =>
    have HB:=Lib.hid (hbad.out (.inl rfl))
    clear hr hbad hgood
    go_wp2_with fail
    go_big_quiet ((go_at_call 87;exact hN _))
    clear hN
    go_wp2_with fail
    go_ret
    exact ⟨by rw [HB.out];rfl,_,World.drewN_drewN _ _ _⟩
   | true =>
    rcases Nat.eq_zero_or_pos k with h0 | h0
    ·have HG:=Lib.hid (hgood.out rfl (fun y hy=>by subst h0;cases hy))
     have d4:decide ((0:Int)<(k:Int))=false:=by simp;omega
     have d4':decide (0<k)=false:=by simp;omega
     clear h0 hr hbad hgood
     go_wp2_with fail
     go_big_quiet ((go_at_call 87;exact hN _))
     clear hN
     go_wp2_with fail
     go_roundw
     case rel=>exact ⟨k+1,by omega,by go_num,HG,_,rfl⟩
     case measure=>simp [intOf];omega
    ·have d4:decide ((0:Int)<(k:Int))=true:=by simp;omega
     have d4':decide (0<k)=true:=by simp;omega
     have hk1l:k-1<l.length:=by omega
     obtain ⟨y,hy⟩:∃ y,y=l[k-1]'hk1l:=⟨_,rfl⟩
     have hpv:prevS l k=some y:=by
      obtain ⟨j,rfl⟩:∃ j,k=j+1:=⟨k-1,by omega⟩
      show l[j]?=_
      have hj:j<l.length:=by simpa using hk1l
      rw [List.getElem?_eq_getElem hj,hy]
      rfl
     obtain ⟨ad2,e2,-,c2⟩:=(strs_at hr HN.out (k:=k-1) (by omega))
     injection e2 with e2
     subst e2
     rw [← hy] at c2
     simp only [strV] at c2
     have i1:(1:Int)≤(k:Int):=by omega
     have i2:(k:Int)-1<(n:Int):=by omega
     have i3:IntKind.i64.wrap ((k:Int)-1)=(k:Int)-1:=IntWalk.i64_in _ (by omega)
     have i4:((k:Int)-1).toNat=k-1:=by omega
     have hleq:=leqS 9 x y
     cases hcmp:Op.bytesLess y x with
     | true =>
      have HG:=Lib.hid (hgood.out rfl (fun y' hy'=>by rw [hpv] at hy';cases hy';exact hcmp))
      have f1:(Op.bytesLess x y || x == y)=false:=by
       rw [Bool.or_eq_false_iff]
       refine ⟨?_,by simpa using (bl_ne hcmp).symm⟩
       rw [← Bool.not_eq_true]
       intro h
       have:=bl_trans hcmp h
       rw [bl_irrefl] at this
       cases this
      rw [f1] at hleq
      clear hr hbad hgood h0 hpv hy hcmp f1
      go_wp2_with fail
      go_big_quiet ((go_at_call 87;exact hN _))
      clear hN hleq
      go_wp2_with fail
      go_roundw
      case rel=>exact ⟨k+1,by omega,by go_num,HG,_,rfl⟩
      case measure=>simp [intOf];omega
     | false =>
      have HB:=Lib.hid (hbad.out (.inr ⟨y,hpv,hcmp⟩))
      have f1:(Op.bytesLess x y || x == y)=true:=by
       by_cases e:x=y
       ·simp [e]
       ·rw [bl_tri y x hcmp (fun h=>e h.symm)];rfl
      rw [f1] at hleq
      clear hr hbad hgood h0 hpv hy hcmp f1
      go_wp2_with fail
      go_big_quiet ((go_at_call 87;exact hN _))
      clear hN hleq
      go_wp2_with fail
      go_ret
      exact ⟨by rw [HB.out];rfl,_,World.drewN_drewN _ _ _⟩
  ·have hkn:k=n:=by omega
   have hF:Hid (V=decide (n≤4)):=by
    show _=_
    rw [HVB.out,hok.out,List.drop_of_length_le (by rw [hkn,HN.out];exact Nat.le_refl _)]
    simp [ascF]
   clear hok hr hkn HVB
   by_cases h8:n≤4
   ·have hi8:(n:Int)≤(4:Int):=by omega
    have HV:Hid (V=true):=by show _=_;rw [hF.out,decide_eq_true h8]
    clear hF
    go_wp2_with fail
    go_ret
    exact ⟨by rw [HV.out];rfl,p,rfl⟩
   ·have hi8:¬ (n:Int)≤(4:Int):=by omega
    have HV:Hid (V=false):=by show _=_;rw [hF.out,decide_eq_false h8]
    clear hF
    go_wp2_with fail
    go_ret
    exact ⟨by rw [HV.out];rfl,p,rfl⟩
def ParPost (l:BS) (w:World) (e:Ending) (w':World):Prop:=Below w.heap.size w w' ∧
   ((l=[]∨pathB l=false)∧e=.returned (.tuple #[.string ⟨#[]⟩,.bool false]) ∨
    l≠[]∧pathB l=true∧e=.returned (.tuple #[.string ⟨(upL l).toArray⟩,.bool true]))
set_option maxRecDepth 100000 in
set_option maxHeartbeats 1000000 in
theorem refParent_any (s:ByteArray) (w:World) (hs:s.size≤4000000000) :
  Calls Tryz.prog 122 #[.string s] w (ParPost s.data.toList w):=by
 have hts:=Lib.hid (toList_data s)
 have hpa:=refPath_any s w hs
 by_cases hs0:s.data.toList=[]
 ·have h0:s=⟨#[]⟩:=by apply eq_mk;exact hs0
  subst h0
  clear hpa hts
  go_enter Tryz.func122,Tryz.ntmps122
  go_wp2_with fail
  refine bodyPost_ret (v:=.tuple #[.string ⟨#[]⟩,.bool false]) (by simp [results,Tryz.results122,go_sem]) rfl ⟨Below.refl _ _,.inl ⟨.inl rfl,rfl⟩⟩
 have HNE:=Lib.hid hs0
 have hie:s.toList.isEmpty=false:=by rw [hts.out];simpa using hs0
 have hie2:s.toList≠[]:=by rw [hts.out];exact hs0
 obtain ⟨bs,hbs0⟩:∃ b,b=pathB s.data.toList:=⟨_,rfl⟩
 rw [← hbs0] at hpa
 have HBS:=Lib.hid hbs0
 have hsp:=Lib.hid (lastS_spec s.data.toList)
 have hsz:=Lib.hid (Lib.size_eq s)
 clear hs0 hbs0
 cases bs with
 | false =>
  go_enter Tryz.func122,Tryz.ntmps122
  go_wp2_with fail
  refine hpa.mono ?_
  rintro e w1 ⟨rfl,hb1⟩
  go_wp2_with fail
  refine bodyPost_ret (v:=.tuple #[.string ⟨#[]⟩,.bool false]) (by simp [results,Tryz.results122,go_sem]) rfl ⟨hb1,.inl ⟨.inr HBS.out.symm,rfl⟩⟩
 | true =>
  have i3:IntKind.i64.wrap ((s.size:Int)-1)=(s.size:Int)-1:=IntWalk.i64_in _ (by omega)
  go_enter Tryz.func122,Tryz.ntmps122
  go_wp2_with fail
  refine hpa.mono ?_
  rintro e w1 ⟨rfl,hb1⟩
  go_wp2_with fail
  clear i3 hpa
  go_loopw [4] (fun j wr=>∃ z:Int,-1≤z∧z≤(s.size:Int)-1∧j=.int .i64 z∧Hid (∀ k:Nat,z<(k:Int)→s.data.toList[k]?≠some 47)∧wr=w1) (fun j _=>(intOf j+1).toNat)
  case atStart =>
   refine ⟨(s.size:Int)-1,by omega,by omega,rfl,?_,rfl⟩
   show ∀ k:Nat,_→_
   intro k hk e
   have:=(List.getElem?_eq_some_iff.1 e).1
   have:=hsz.out
   omega
  case round =>
   obtain ⟨z,hz1,hz2,rfl,hok,hww⟩:=hrel
   have hww:=hww.symm
   subst hww
   by_cases hz:0≤z
   ·obtain ⟨k,rfl⟩:∃ k:Nat,z=(k:Int):=⟨z.toNat,by omega⟩
    have hks:k<s.size:=by omega
    have hki:(k:Int)<(s.size:Int):=by omega
    have hkl:k<s.data.toList.length:=by have:=hsz.out;omega
    obtain ⟨y,hy⟩:∃ y,y=s[k]'hks:=⟨_,rfl⟩
    have HY:=Lib.hid (show s.data.toList[k]?=some y by rw [List.getElem?_eq_getElem hkl,bget s k hks,hy])
    have hyv:((s[k]'hks).toNat:Int)=(y.toNat:Int):=by rw [hy]
    have hlt:=y.toNat_lt
    clear hy hz1 hz2
    by_cases h47:(y.toNat:Int)=47
    ·have hy47:y=47:=by
      apply UInt8.toNat_inj.1
      have e:(47:UInt8).toNat=47:=rfl
      omega
     have HU:Hid (upL s.data.toList=s.data.toList.take k):=by
      show _=_
      rcases hsp.out with ⟨_,h2⟩ | ⟨j,h1,h2,h3⟩
      ·exact absurd (by rw [← hy47];exact List.mem_of_getElem? HY.out) h2
      ·have hjk:j=k:=by
        rcases Nat.lt_trichotomy j k with h | h | h
        ·exact absurd (by rw [HY.out,hy47]) (h3 k h)
        ·exact h
        ·exact absurd h2 (hok.out j (by omega))
       unfold upL
       rw [h1,hjk]
       rfl
     have hks2:(k:Int)≤(s.size:Int):=by omega
     clear hy47
     go_wp2_with fail
     have hv:s.extract 0 k=⟨(upL s.data.toList).toArray⟩:=by
      apply eq_mk
      rw [Lib.extract_from_zero,HU.out]
     refine bodyPost_ret (v:=.tuple #[.string ⟨(upL s.data.toList).toArray⟩,.bool true]) (by simp [results,Tryz.results122,go_sem,hv]) rfl ⟨hb1,.inr ⟨HNE.out,HBS.out.symm,rfl⟩⟩
    ·have hyb:((y.toNat:Int) == 47)=false:=by simpa using h47
     have HG:Hid (y≠47):=by
      show _≠_
      rintro rfl
      exact h47 rfl
     go_wp2_with fail
     go_roundw
     case rel =>
      refine ⟨(k:Int)-1,by omega,by omega,by go_num,?_,trivial⟩
      show ∀ k':Nat,_→_
      intro k' hk' e
      by_cases h:k'=k
      ·subst h
       rw [HY.out] at e
       exact HG.out (Option.some.inj e)
      ·exact hok.out k' (by omega) e
     case measure=>simp [intOf];try omega
   ·have HU:Hid (upL s.data.toList=[]):=by
     show _=_
     rcases hsp.out with ⟨h1,_⟩ | ⟨j,h1,h2,h3⟩
     ·unfold upL;rw [h1];rfl
     ·exact absurd h2 (hok.out j (by omega))
    go_wp2_with fail
    have HU2:=HU.out
    refine bodyPost_ret (v:=.tuple #[.string ⟨#[]⟩,.bool true]) (by simp [results,Tryz.results122,go_sem]) rfl ⟨hb1,.inr ⟨HNE.out,HBS.out.symm,by rw [HU2]⟩⟩
end Go.Proofs.YtpbejobgickffaaGreatDoor
namespace Go.Proofs.YtpbejobgickffaaGreatDoor
open Go.RowKit
theorem own_setCells_below {base size n:Nat} {t:TypeId} {v:Value} {xs:List Value} {g:Nat} (hg:g<base) (cs:List Value):∀ (w:World) (o:Nat),w.ownsRow base t size v n xs→(w.setCells g o cs).ownsRow base t size v n xs:=by
 induction cs with
 | nil=>intro w o h;exact h
 | cons u cs ih=>intro w o h;exact ih _ _ (own_setCell_below (p:=⟨g,o,none⟩) h hg u)
set_option maxRecDepth 100000 in
set_option maxHeartbeats 8000000 in
theorem copySnap_any (nm:BS) (gd:Int) (b1:Option Addr) (bn b3:Nat) (t1:Option Addr) (tn t3:Nat) (o1:Option Addr) (on o3:Nat) (xb xt xo:List Value) (w:World) (B:Nat) (hB:B≤w.heap.size)
  (hb:Reads w B 2 b1 bn xb) (ht:Reads w B 1 t1 tn xt) (ho:Reads w B 2 o1 on xo) (h1:∀ u∈xb,u.oneCell'=true) (h2:∀ u∈xt,u.oneCell'=true) (h3:∀ u∈xo,u.oneCell'=true) (hbn:bn≤1000000000000) (htn:tn≤1000000000000) (hon:on≤1000000000000) :
  Calls Tryz.prog 163 #[.agg #[.string ⟨nm.toArray⟩,.int .i64 gd,.slice b1 bn b3,.slice t1 tn t3,.slice o1 on o3]] w fun e w'=>∃ Ab cb At ct Ao co,e=.returned (.agg #[.string ⟨nm.toArray⟩,.int .i64 gd,.slice Ab bn cb,.slice At tn ct,.slice Ao on co])∧w'.ownsRow w.heap.size 77 2 (.slice Ab bn cb) bn xb∧w'.ownsRow w.heap.size 9 1 (.slice At tn ct) tn xt∧w'.ownsRow w.heap.size 80 2 (.slice Ao on co) on xo∧Below w.heap.size w w':=by
 have hC1:Hid (∀ W,Below w.heap.size w W→Calls Tryz.prog 48 #[.slice b1 bn b3] W fun e w'=>∃ v,e=.returned v∧w'.ownsRow W.heap.size 77 2 v bn xb∧Below W.heap.size W w'):=fun W h=>cloneBl_any xb bn b1 b3 W B (hb.below (h.mono hB)) (by have:=h.size;omega) h1 (by omega)
 have hC2:Hid (∀ W,Below w.heap.size w W→Calls Tryz.prog 188 #[.slice t1 tn t3] W fun e w'=>∃ v,e=.returned v∧w'.ownsRow W.heap.size 9 1 v tn xt∧Below W.heap.size W w'):=fun W h=>cloneSt_any xt tn t1 t3 W B (ht.below (h.mono hB)) (by have:=h.size;omega) h2 (by omega)
 have hC3:Hid (∀ W,Below w.heap.size w W→Calls Tryz.prog 49 #[.slice o1 on o3] W fun e w'=>∃ v,e=.returned v∧w'.ownsRow W.heap.size 80 2 v on xo∧Below W.heap.size W w'):=fun W h=>clonePr_any xo on o1 o3 W B (ho.below (h.mono hB)) (by have:=h.size;omega) h3 (by omega)
 clear hb ht ho h1 h2 h3
 go_enter Tryz.func163,Tryz.ntmps163
 go_upto_region 1 with (fail)
 have kB:=(Blk.new w 64 #[.string ⟨nm.toArray⟩,.int .i64 gd,.slice b1 bn b3,.slice t1 tn t3,.slice o1 on o3]).alloc (.cells #[.string ⟨#[]⟩,.int .i64 0,.slice none 0 0,.slice none 0 0,.slice none 0 0] 64)
 have kZ:=Blk.new (w.alloc (.cells #[.string ⟨nm.toArray⟩,.int .i64 gd,.slice b1 bn b3,.slice t1 tn t3,.slice o1 on o3] 64)) 64 #[.string ⟨#[]⟩,.int .i64 0,.slice none 0 0,.slice none 0 0,.slice none 0 0]
 rw [show (w.alloc (.cells #[.string ⟨nm.toArray⟩,.int .i64 gd,.slice b1 bn b3,.slice t1 tn t3,.slice o1 on o3] 64)).heap.size=w.heap.size+1 by simp] at kZ
 have hb2:=((Below.refl w.heap.size w).alloc (Nat.le_refl _) (.cells #[.string ⟨nm.toArray⟩,.int .i64 gd,.slice b1 bn b3,.slice t1 tn t3,.slice o1 on o3] 64)).alloc (by simp) (.cells #[.string ⟨#[]⟩,.int .i64 0,.slice none 0 0,.slice none 0 0,.slice none 0 0] 64)
 obtain ⟨W2,hW2⟩:∃ W,W=(w.alloc (.cells #[.string ⟨nm.toArray⟩,.int .i64 gd,.slice b1 bn b3,.slice t1 tn t3,.slice o1 on o3] 64)).alloc (.cells #[.string ⟨#[]⟩,.int .i64 0,.slice none 0 0,.slice none 0 0,.slice none 0 0] 64):=⟨_,rfl⟩
 have hsz:W2.heap.size=w.heap.size+2:=by rw [hW2];simp
 rw [← hW2] at kB kZ hb2 ⊢
 have K:=Lib.hid kB.drew
 have K2:=Lib.hid kZ.drew
 have HB:=Lib.hid hb2.drew
 have HZ:=Lib.hid (show w.heap.size+2≤W2.drew.heap.size by show _≤W2.heap.size;omega)
 have c0:=kB.cell 0
 have c1:=kB.cell 1
 have c2:=kB.cell 2
 have c3:=kB.cell 3
 have c4:=kB.cell 4
 simp only [zF,zD,zE] at c0 c1 c2 c3 c4
 clear hW2 kB kZ hb2 hsz
 go_cut [1,2] from 0 to 14 (fun s1 s2 wx=>s1=.pointer (some ⟨w.heap.size,0,none⟩)∧s2=.pointer (some ⟨w.heap.size+1,0,none⟩)∧∃ Ab cb At ct Ao co,Blk wx w.heap.size 64 #[.string ⟨nm.toArray⟩,.int .i64 gd,.slice Ab bn cb,.slice At tn ct,.slice Ao on co]∧Blk wx (w.heap.size+1) 64 #[.string ⟨#[]⟩,.int .i64 0,.slice none 0 0,.slice none 0 0,.slice none 0 0]∧wx.ownsRow (w.heap.size+2) 77 2 (.slice Ab bn cb) bn xb∧wx.ownsRow (w.heap.size+2) 9 1 (.slice At tn ct) tn xt∧wx.ownsRow (w.heap.size+2) 80 2 (.slice Ao on co) on xo∧Below w.heap.size w wx)
 case first =>
  go_region_law (first | (go_simp;with_reducible refine (hC1.out _ HB.out).mono ?_;rintro e w2 ⟨v,rfl,ho,hb⟩;obtain ⟨Ab,cb,rfl,_,_,_⟩:=own_form ho;have HOb:=Lib.hid (own_mono ho HZ.out);(try have HOt:=Lib.hid (own_below HOt.out hb));(try have HOo:=Lib.hid (own_below HOo.out hb));have HZ:=Lib.hid (Nat.le_trans HZ.out hb.size);have HB:=Lib.hid (HB.out.trans (hb.mono HB.out.size));have K2:=Lib.hid (K2.out.below hb K2.out.lt);have K:=Lib.hid (K.out.below hb K.out.lt);obtain ⟨c0,c1,c2,c3,c4⟩:=(⟨K.out.cell 0,K.out.cell 1,K.out.cell 2,K.out.cell 3,K.out.cell 4⟩:_∧_∧_∧_∧_);simp only [zF,zD,zE] at c0 c1 c2 c3 c4;have f2:=K.out.frozen 2;have f3:=K.out.frozen 3;have f4:=K.out.frozen 4;clear ho hb) | (go_simp;with_reducible refine (hC2.out _ HB.out).mono ?_;rintro e w2 ⟨v,rfl,ho,hb⟩;obtain ⟨At,ct,rfl,_,_,_⟩:=own_form ho;have HOt:=Lib.hid (own_mono ho HZ.out);(try have HOb:=Lib.hid (own_below HOb.out hb));(try have HOo:=Lib.hid (own_below HOo.out hb));have HZ:=Lib.hid (Nat.le_trans HZ.out hb.size);have HB:=Lib.hid (HB.out.trans (hb.mono HB.out.size));have K2:=Lib.hid (K2.out.below hb K2.out.lt);have K:=Lib.hid (K.out.below hb K.out.lt);obtain ⟨c0,c1,c2,c3,c4⟩:=(⟨K.out.cell 0,K.out.cell 1,K.out.cell 2,K.out.cell 3,K.out.cell 4⟩:_∧_∧_∧_∧_);simp only [zF,zD,zE] at c0 c1 c2 c3 c4;have f2:=K.out.frozen 2;have f3:=K.out.frozen 3;have f4:=K.out.frozen 4;clear ho hb) | (go_simp;with_reducible refine (hC3.out _ HB.out).mono ?_;rintro e w2 ⟨v,rfl,ho,hb⟩;obtain ⟨Ao,co,rfl,_,_,_⟩:=own_form ho;have HOo:=Lib.hid (own_mono ho HZ.out);(try have HOb:=Lib.hid (own_below HOb.out hb));(try have HOt:=Lib.hid (own_below HOt.out hb));have HZ:=Lib.hid (Nat.le_trans HZ.out hb.size);have HB:=Lib.hid (HB.out.trans (hb.mono HB.out.size));have K2:=Lib.hid (K2.out.below hb K2.out.lt);have K:=Lib.hid (K.out.below hb K.out.lt);obtain ⟨c0,c1,c2,c3,c4⟩:=(⟨K.out.cell 0,K.out.cell 1,K.out.cell 2,K.out.cell 3,K.out.cell 4⟩:_∧_∧_∧_∧_);simp only [zF,zD,zE] at c0 c1 c2 c3 c4;have f2:=K.out.frozen 2;have f3:=K.out.frozen 3;have f4:=K.out.frozen 4;clear ho hb))
  all_goals
   have k3:=((K.out.set_ 2 (.slice Ab bn cb)).set_ 3 (.slice At tn ct)).set_ 4 (.slice Ao on co)
   have kz:=((K2.out.far (p:=⟨w.heap.size,2,none⟩) (by simp) (.slice Ab bn cb)).far (p:=⟨w.heap.size,3,none⟩) (by simp) (.slice At tn ct)).far (p:=⟨w.heap.size,4,none⟩) (by simp) (.slice Ao on co)
   have q1:=own_setCell_below (p:=⟨w.heap.size,4,none⟩) (own_setCell_below (p:=⟨w.heap.size,3,none⟩) (own_setCell_below (p:=⟨w.heap.size,2,none⟩) HOb.out (by show w.heap.size<_;omega) (.slice Ab bn cb)) (by show w.heap.size<_;omega) (.slice At tn ct)) (by show w.heap.size<_;omega) (.slice Ao on co)
   have q2:=own_setCell_below (p:=⟨w.heap.size,4,none⟩) (own_setCell_below (p:=⟨w.heap.size,3,none⟩) (own_setCell_below (p:=⟨w.heap.size,2,none⟩) HOt.out (by show w.heap.size<_;omega) (.slice Ab bn cb)) (by show w.heap.size<_;omega) (.slice At tn ct)) (by show w.heap.size<_;omega) (.slice Ao on co)
   have q3:=own_setCell_below (p:=⟨w.heap.size,4,none⟩) (own_setCell_below (p:=⟨w.heap.size,3,none⟩) (own_setCell_below (p:=⟨w.heap.size,2,none⟩) HOo.out (by show w.heap.size<_;omega) (.slice Ab bn cb)) (by show w.heap.size<_;omega) (.slice At tn ct)) (by show w.heap.size<_;omega) (.slice Ao on co)
   have hbw:=((HB.out.setCell (p:=⟨w.heap.size,2,none⟩) (Nat.le_refl _) (.slice Ab bn cb)).setCell (p:=⟨w.heap.size,3,none⟩) (Nat.le_refl _) (.slice At tn ct)).setCell (p:=⟨w.heap.size,4,none⟩) (Nat.le_refl _) (.slice Ao on co)
   have HH:=Lib.hid (show _∧_∧_∧_∧_∧_ from ⟨k3,kz,q1,q2,q3,hbw⟩)
   clear k3 kz q1 q2 q3 hbw c0 c1 c2 c3 c4 f2 f3 f4
   go_wp2_with fail
   go_meet
   exact ⟨rfl,rfl,Ab,cb,At,ct,Ao,co,HH.out.1,HH.out.2.1,HH.out.2.2.1,HH.out.2.2.2.1,HH.out.2.2.2.2.1,HH.out.2.2.2.2.2⟩
 case rest =>
 obtain ⟨rfl,rfl,Ab,cb,At,ct,Ao,co,k3,kz,q1,q2,q3,hbw⟩:=hcut
 clear K K2 HB HZ hC1 hC2 hC3 c0 c1 c2 c3 c4
 obtain ⟨c0,c1,c2,c3,c4⟩:=(⟨k3.cell 0,k3.cell 1,k3.cell 2,k3.cell 3,k3.cell 4⟩:_∧_∧_∧_∧_)
 simp at c0 c1 c2 c3 c4
 have hth:=Lib.hid (kz.there 5 (by decide))
 have k4:=Blk.setCells (g:=w.heap.size+1) [.string ⟨nm.toArray⟩,.int .i64 gd,.slice Ab bn cb,.slice At tn ct,.slice Ao on co] wc [] [.string ⟨#[]⟩,.int .i64 0,.slice none 0 0,.slice none 0 0,.slice none 0 0] rfl kz
 simp only [List.length_nil,List.nil_append] at k4
 have q1:=Lib.hid (own_setCells_below (g:=w.heap.size+1) (by omega) [.string ⟨nm.toArray⟩,.int .i64 gd,.slice Ab bn cb,.slice At tn ct,.slice Ao on co] wc 0 q1)
 have q2:=Lib.hid (own_setCells_below (g:=w.heap.size+1) (by omega) [.string ⟨nm.toArray⟩,.int .i64 gd,.slice Ab bn cb,.slice At tn ct,.slice Ao on co] wc 0 q2)
 have q3:=Lib.hid (own_setCells_below (g:=w.heap.size+1) (by omega) [.string ⟨nm.toArray⟩,.int .i64 gd,.slice Ab bn cb,.slice At tn ct,.slice Ao on co] wc 0 q3)
 have hbw:=Lib.hid (below_setCells (g:=w.heap.size+1) (by omega) [.string ⟨nm.toArray⟩,.int .i64 gd,.slice Ab bn cb,.slice At tn ct,.slice Ao on co] wc 0 hbw)
 obtain ⟨W4,hW4⟩:∃ W,W=wc.setCells (w.heap.size+1) 0 (#[.string ⟨nm.toArray⟩,.int .i64 gd,.slice Ab bn cb,.slice At tn ct,.slice Ao on co]:Array Value).toList:=⟨_,rfl⟩
 rw [show ([.string ⟨nm.toArray⟩,.int .i64 gd,.slice Ab bn cb,.slice At tn ct,.slice Ao on co]:List Value)=(#[.string ⟨nm.toArray⟩,.int .i64 gd,.slice Ab bn cb,.slice At tn ct,.slice Ao on co]:Array Value).toList from rfl,← hW4] at k4 q1 q2 q3 hbw
 obtain ⟨d0,d1,d2,d3,d4⟩:=(⟨k4.cell 0,k4.cell 1,k4.cell 2,k4.cell 3,k4.cell 4⟩:_∧_∧_∧_∧_)
 simp at d0 d1 d2 d3 d4
 have HD:=Lib.hid (show _∧_∧_∧_∧_ from ⟨d0,d1,d2,d3,d4⟩)
 clear k3 kz k4 d0 d1 d2 d3 d4
 go_wp2_with (refine wpList_store_mid rfl 64 (.tmp 2) (.tmp 15) rfl (w.heap.size+1) 0 #[.string ⟨nm.toArray⟩,.int .i64 gd,.slice Ab bn cb,.slice At tn ct,.slice Ao on co] rfl rfl hth.out (by kernel_rfl) (by simp [Value.oneCell']) ?_;rw [← hW4];clear hW4)
 obtain ⟨d0,d1,d2,d3,d4⟩:=HD.out
 refine bodyPost_ret (v:=.agg #[.string ⟨nm.toArray⟩,.int .i64 gd,.slice Ab bn cb,.slice At tn ct,.slice Ao on co]) (by simp [results,Tryz.results163,go_sem,d0,d1,d2,d3,d4]) rfl ⟨Ab,cb,At,ct,Ao,co,rfl,own_mono q1.out (by omega),own_mono q2.out (by omega),own_mono q3.out (by omega),hbw.out⟩
end Go.Proofs.YtpbejobgickffaaGreatDoor
namespace Go.Proofs.YtpbejobgickffaaGreatDoor
open Go.RowKit
/-- snapshots of one content -/
structure SnapR.eqv (x y:SnapR):Prop where
 nm:x.nm=y.nm
 gd:x.gd=y.gd
 body:x.body.l=y.body.l
 tags:x.tags.l=y.tags.l
 own:x.own.l=y.own.l
/-- sets of one content -/
structure SetR.eqv (x y:SetR):Prop where
 path:x.path=y.path
 org:x.org=y.org
 body:x.body.l=y.body.l
 len:x.snaps.l.length=y.snaps.l.length
 each:∀ i (h:i<x.snaps.l.length) (h':i<y.snaps.l.length),(x.snaps.l[i]'h).eqv (y.snaps.l[i]'h')
 own:x.own.l=y.own.l
end Go.Proofs.YtpbejobgickffaaGreatDoor
namespace Go.Proofs.YtpbejobgickffaaGreatDoor
open Go.RowKit
def entryP (us:BS) (kd:Int) (pa:BS) (er:Int):Bool:=(us == [] || nameB us) && pathB pa && amt kd 0 && amt er 0
theorem entryB_P (x:EntryR):entryB x=entryP x.user x.kind x.path x.err:=rfl
set_option maxRecDepth 100000 in
set_option maxHeartbeats 2000000 in
theorem odd14_any (us:BS) (kd:Int) (pa:BS) (er:Int) (w:World) (hpa:pa.length≤4000000000) (hmx:HasMax w) :
  Calls Tryz.prog 133 #[.agg #[.string ⟨us.toArray⟩,.int .i64 kd,.string ⟨pa.toArray⟩,.int .i64 er]] w fun e w'=>e=.returned (.bool (!(entryP us kd pa er)))∧Below w.heap.size w w':=by
 have hb1:=(Below.refl w.heap.size w).alloc (Nat.le_refl _) (.cells #[.string ⟨us.toArray⟩,.int .i64 kd,.string ⟨pa.toArray⟩,.int .i64 er] 118)
 have kT:=Blk.new w 118 #[.string ⟨us.toArray⟩,.int .i64 kd,.string ⟨pa.toArray⟩,.int .i64 er]
 obtain ⟨W1,hW1⟩:∃ W,W=w.alloc (.cells #[.string ⟨us.toArray⟩,.int .i64 kd,.string ⟨pa.toArray⟩,.int .i64 er] 118):=⟨_,rfl⟩
 have hsz1:W1.heap.size=w.heap.size+1:=by rw [hW1];simp
 rw [← hW1] at hb1 kT
 have hT:=Lib.hid (fun (W':World) (hB':Below W1.heap.size W1 W')=>(⟨(kT.below hB' (by omega)).cell 0,(kT.below hB' (by omega)).cell 1,(kT.below hB' (by omega)).cell 2,(kT.below hB' (by omega)).cell 3⟩:W'.cell? ⟨w.heap.size,0,none⟩=some (.string ⟨us.toArray⟩)∧W'.cell? ⟨w.heap.size,1,none⟩=some (.int .i64 kd)∧W'.cell? ⟨w.heap.size,2,none⟩=some (.string ⟨pa.toArray⟩)∧W'.cell? ⟨w.heap.size,3,none⟩=some (.int .i64 er)))
 have hN:Hid (∀ W,Below W1.heap.size W1 W→Calls Tryz.prog 84 #[.string ⟨us.toArray⟩] W fun e W'=>e=.returned (.bool (nameB us))∧Below W.heap.size W W'):=fun W _=>name_any ⟨us.toArray⟩ W
 have hP:Hid (∀ W,Below W1.heap.size W1 W→Calls Tryz.prog 80 #[.string ⟨pa.toArray⟩] W fun e W'=>e=.returned (.bool (pathB pa))∧Below W.heap.size W W'):=fun W hb=>path_any ⟨pa.toArray⟩ W (by show pa.length≤_;exact hpa) (hmx.below (hb1.trans (hb.mono (by omega))))
 have hA0:Hid (∀ W,Below W1.heap.size W1 W→Calls Tryz.prog 128 #[.int .i64 kd,.int .i64 0] W fun e W'=>e=.returned (.bool (amt kd 0))∧Below W.heap.size W W'):=fun W _=>amountB_any kd 0 W
 have hA1:Hid (∀ W,Below W1.heap.size W1 W→Calls Tryz.prog 128 #[.int .i64 er,.int .i64 0] W fun e W'=>e=.returned (.bool (amt er 0))∧Below W.heap.size W W'):=fun W _=>amountB_any er 0 W
 have HV:Hid ((!(entryP us kd pa er))=!((us == [] || nameB us) && (pathB pa && (amt kd 0 && amt er 0)))):=by
  show _=_
  unfold entryP
  simp only [Bool.and_assoc]
 obtain ⟨V,hV⟩:∃ V,V=(!(entryP us kd pa er)):=⟨_,rfl⟩
 obtain ⟨bN,hbN⟩:∃ V,V=nameB us:=⟨_,rfl⟩
 obtain ⟨bP,hbP⟩:∃ V,V=pathB pa:=⟨_,rfl⟩
 obtain ⟨bA,hbA⟩:∃ V,V=amt kd 0:=⟨_,rfl⟩
 obtain ⟨bX,hbX⟩:∃ V,V=amt er 0:=⟨_,rfl⟩
 rw [← hV] at HV ⊢
 rw [← hbN] at HV hN
 rw [← hbP] at HV hP
 rw [← hbA] at HV hA0
 rw [← hbX] at HV hA1
 have HB1:=Lib.hid hb1
 have HSZ1:=Lib.hid hsz1
 clear hV hbN hbA hbP hbX hb1 hsz1 kT
 have hW0:=Below.refl W1.heap.size W1
 by_cases hu:us=[]
 ·subst hu
  have HV:Hid (V=!(true && (bP && (bA && bX)))):=by show _=_;rw [HV.out];rfl
  go_enter Tryz.func133,Tryz.ntmps133
  have hc:=hP.out _ hW0
  cases bP with
  | false =>
   go_wp2_with fail
   rw [← hW1]
   refine hc.mono ?_
   clear hc
   rintro e w11 ⟨rfl,hbw11⟩
   have hWw11:=hW0.trans (hbw11.mono hW0.size)
   clear hbw11 
   obtain ⟨t0,t1,t2,t3⟩:=hT.out _ hWw11
   have HB:Hid (V=true):=by show _=_;rw [HV.out];rfl
   go_wp2_with fail
   go_ret
   exact ⟨by rw [HB.out];rfl,HB1.out.trans (hWw11.mono (by have:=HSZ1.out;omega))⟩
  | true =>
   go_wp2_with fail
   rw [← hW1]
   refine hc.mono ?_
   clear hc
   rintro e w11 ⟨rfl,hbw11⟩
   have hWw11:=hW0.trans (hbw11.mono hW0.size)
   clear hbw11 
   obtain ⟨t0,t1,t2,t3⟩:=hT.out _ hWw11
   have hc:=hA0.out _ hWw11
   cases bA with
   | false =>
    go_wp2_with fail
    refine hc.mono ?_
    clear hc
    rintro e w12 ⟨rfl,hbw12⟩
    have hWw12:=hWw11.trans (hbw12.mono hWw11.size)
    clear hbw12 
    obtain ⟨t0,t1,t2,t3⟩:=hT.out _ hWw12
    have HB:Hid (V=true):=by show _=_;rw [HV.out];rfl
    go_wp2_with fail
    go_ret
    exact ⟨by rw [HB.out];rfl,HB1.out.trans (hWw12.mono (by have:=HSZ1.out;omega))⟩
   | true =>
    go_wp2_with fail
    refine hc.mono ?_
    clear hc
    rintro e w12 ⟨rfl,hbw12⟩
    have hWw12:=hWw11.trans (hbw12.mono hWw11.size)
    clear hbw12 
    obtain ⟨t0,t1,t2,t3⟩:=hT.out _ hWw12
    have hc:=hA1.out _ hWw12
    cases bX with
    | false =>
     go_wp2_with fail
     refine hc.mono ?_
     clear hc
     rintro e w13 ⟨rfl,hbw13⟩
     have hWw13:=hWw12.trans (hbw13.mono hWw12.size)
     clear hbw13 
     obtain ⟨t0,t1,t2,t3⟩:=hT.out _ hWw13
     have HB:Hid (V=true):=by show _=_;rw [HV.out];rfl
     go_wp2_with fail
     go_ret
     exact ⟨by rw [HB.out];rfl,HB1.out.trans (hWw13.mono (by have:=HSZ1.out;omega))⟩
    | true =>
     go_wp2_with fail
     refine hc.mono ?_
     clear hc
     rintro e w13 ⟨rfl,hbw13⟩
     have hWw13:=hWw12.trans (hbw13.mono hWw12.size)
     clear hbw13 
     obtain ⟨t0,t1,t2,t3⟩:=hT.out _ hWw13
     have HB:Hid (V=false):=by show _=_;rw [HV.out];rfl
     go_wp2_with fail
     go_ret
     exact ⟨by rw [HB.out];rfl,HB1.out.trans (hWw13.mono (by have:=HSZ1.out;omega))⟩
 ·have hu1:(us == [])=false:=by simpa using hu
  have hu2:us.isEmpty=false:=by cases us <;> simp_all
  have HV:Hid (V=!(bN && (bP && (bA && bX)))):=by show _=_;rw [HV.out,hu1];rfl
  clear hu
  go_enter Tryz.func133,Tryz.ntmps133
  have hc:=hN.out _ hW0
  cases bN with
  | false =>
   go_wp2_with fail
   rw [← hW1]
   refine hc.mono ?_
   clear hc
   rintro e w11 ⟨rfl,hbw11⟩
   have hWw11:=hW0.trans (hbw11.mono hW0.size)
   clear hbw11 
   obtain ⟨t0,t1,t2,t3⟩:=hT.out _ hWw11
   have HB:Hid (V=true):=by show _=_;rw [HV.out];rfl
   go_wp2_with fail
   go_ret
   exact ⟨by rw [HB.out];rfl,HB1.out.trans (hWw11.mono (by have:=HSZ1.out;omega))⟩
  | true =>
   go_wp2_with fail
   rw [← hW1]
   refine hc.mono ?_
   clear hc
   rintro e w11 ⟨rfl,hbw11⟩
   have hWw11:=hW0.trans (hbw11.mono hW0.size)
   clear hbw11 
   obtain ⟨t0,t1,t2,t3⟩:=hT.out _ hWw11
   have hc:=hP.out _ hWw11
   cases bP with
   | false =>
    go_wp2_with fail
    refine hc.mono ?_
    clear hc
    rintro e w12 ⟨rfl,hbw12⟩
    have hWw12:=hWw11.trans (hbw12.mono hWw11.size)
    clear hbw12 
    obtain ⟨t0,t1,t2,t3⟩:=hT.out _ hWw12
    have HB:Hid (V=true):=by show _=_;rw [HV.out];rfl
    go_wp2_with fail
    go_ret
    exact ⟨by rw [HB.out];rfl,HB1.out.trans (hWw12.mono (by have:=HSZ1.out;omega))⟩
   | true =>
    go_wp2_with fail
    refine hc.mono ?_
    clear hc
    rintro e w12 ⟨rfl,hbw12⟩
    have hWw12:=hWw11.trans (hbw12.mono hWw11.size)
    clear hbw12 
    obtain ⟨t0,t1,t2,t3⟩:=hT.out _ hWw12
    have hc:=hA0.out _ hWw12
    cases bA with
    | false =>
     go_wp2_with fail
     refine hc.mono ?_
     clear hc
     rintro e w13 ⟨rfl,hbw13⟩
     have hWw13:=hWw12.trans (hbw13.mono hWw12.size)
     clear hbw13 
     obtain ⟨t0,t1,t2,t3⟩:=hT.out _ hWw13
     have HB:Hid (V=true):=by show _=_;rw [HV.out];rfl
     go_wp2_with fail
     go_ret
     exact ⟨by rw [HB.out];rfl,HB1.out.trans (hWw13.mono (by have:=HSZ1.out;omega))⟩
    | true =>
     go_wp2_with fail
     refine hc.mono ?_
     clear hc
     rintro e w13 ⟨rfl,hbw13⟩
     have hWw13:=hWw12.trans (hbw13.mono hWw12.size)
     clear hbw13 
     obtain ⟨t0,t1,t2,t3⟩:=hT.out _ hWw13
     have hc:=hA1.out _ hWw13
     cases bX with
     | false =>
      go_wp2_with fail
      refine hc.mono ?_
      clear hc
      rintro e w14 ⟨rfl,hbw14⟩
      have hWw14:=hWw13.trans (hbw14.mono hWw13.size)
      clear hbw14 
      obtain ⟨t0,t1,t2,t3⟩:=hT.out _ hWw14
      have HB:Hid (V=true):=by show _=_;rw [HV.out];rfl
      go_wp2_with fail
      go_ret
      exact ⟨by rw [HB.out];rfl,HB1.out.trans (hWw14.mono (by have:=HSZ1.out;omega))⟩
     | true =>
      go_wp2_with fail
      refine hc.mono ?_
      clear hc
      rintro e w14 ⟨rfl,hbw14⟩
      have hWw14:=hWw13.trans (hbw14.mono hWw13.size)
      clear hbw14 
      obtain ⟨t0,t1,t2,t3⟩:=hT.out _ hWw14
      have HB:Hid (V=false):=by show _=_;rw [HV.out];rfl
      go_wp2_with fail
      go_ret
      exact ⟨by rw [HB.out];rfl,HB1.out.trans (hWw14.mono (by have:=HSZ1.out;omega))⟩
set_option maxRecDepth 100000 in
set_option maxHeartbeats 1000000 in
theorem fiEnt_index {α:Type} (f0 f1 f2 f3:α→Value) (p:α→Bool) (l:List α) (n:Nat) (hnl:n=l.length) (A:Option Addr) (c:Nat) (Keep:World→Prop) (w:World) (B:Nat)
  (hr:Reads w B 4 A n (cellsK (fun x=>[f0 x,f1 x,f2 x,f3 x]) l)) (hB:B≤w.heap.size) (hn:n≤5000000000000) (hp:PredK Tryz.prog 133 #[] (fun x=>#[f0 x,f1 x,f2 x,f3 x]) (·∈l) p Keep) (hk0:Keep w) :
  Calls Tryz.prog 174 #[.slice A n c,.func (.func 133) #[] #[]] w fun e w'=>e=.returned (.int .i64 (firstI p l))∧Below w.heap.size w w':=by
 have HN:=Lib.hid hnl
 have HP:=Lib.hid hp
 clear hnl hp
 go_enter Tryz.func174,Tryz.ntmps174
 go_wp2_with fail
 go_loopw [8] (fun j wr=>∃ k:Nat,k≤n∧j=.int .i64 (k:Int)∧Hid (∀ y∈l.take k,p y=false)∧Below w.heap.size w wr∧Keep wr) (fun j _=>n-(intOf j).toNat)
 case atStart=>exact ⟨0,Nat.zero_le _,rfl,(show ∀ y∈_,_ by simp),Below.refl _ _,hk0⟩
 case round =>
  obtain ⟨k,hk,rfl,hno,hbw,hkw⟩:=hrel
  by_cases hlt:k<n
  ·have hki:(k:Int)<(n:Int):=by omega
   have hkl:k<l.length:=by have:=HN.out;omega
   obtain ⟨ad,rfl,_,c0,c1,c2,c3⟩:=(hr.below (hbw.mono hB)).el4 HN.out hlt
   obtain ⟨x,hx⟩:∃ x,x=l[k]'hkl:=⟨_,rfl⟩
   rw [← hx] at c0 c1 c2 c3
   have htk:=List.take_succ_eq_append_getElem hkl
   rw [← hx] at htk
   have HTK:=Lib.hid htk
   have HX:=Lib.hid (show l[k]?=some x by rw [hx];exact List.getElem?_eq_getElem _)
   have hc:=HP.out.call x wr (List.mem_of_getElem? HX.out) hkw
   obtain ⟨b,hb⟩:∃ b,b=p x:=⟨_,rfl⟩
   rw [← hb] at hc
   have HBX:=Lib.hid hb
   simp only [List.append_toArray,List.cons_append,List.nil_append] at hc
   clear hx htk hr hb
   go_wp2_with fail
   refine hc.mono ?_
   clear hc
   rintro e w1 ⟨rfl,hb1⟩
   have hkw1:=HP.out.below wr w1 hkw hb1
   have hbw1:=hbw.trans (hb1.mono hbw.size)
   cases b with
   | true =>
    go_wp2_with fail
    go_ret
    have hf:=firstP_eq p l k x hno.out HX.out HBX.out.symm
    exact ⟨by unfold firstI;rw [hf,if_pos hkl];rfl,hbw1⟩
   | false =>
    go_wp2_with fail
    go_roundw
    case rel =>
     refine ⟨k+1,by omega,by go_num,?_,hbw1,hkw1⟩
     show ∀ y∈l.take (k+1),p y=false
     intro y hy
     rw [HTK.out] at hy
     rcases List.mem_append.1 hy with hy | hy
     ·exact hno.out y hy
     ·simp at hy;subst hy;exact HBX.out.symm
    case measure=>simp [intOf];omega
  ·have hkn:k=n:=by omega
   have HF:Hid (firstI p l=-1):=by
    show _=_
    unfold firstI
    rw [firstP_none p l (fun y hy=>hno.out y (by rw [List.take_of_length_le (by rw [hkn,HN.out];exact Nat.le_refl _)];exact hy)),if_neg (Nat.lt_irrefl _)]
   clear hr hkn
   go_wp2_with fail
   go_ret
   exact ⟨by rw [HF.out];rfl,hbw⟩
set_option maxRecDepth 100000 in
theorem oddLog_any (l:List EntryR) (n:Nat) (hnl:n=l.length) (A:Option Addr) (c:Nat) (w:World) (B:Nat) (hr:Reads w B 4 A n (cellsK encEntry l)) (hB:B≤w.heap.size) (hn:n≤1000000000000) (hv:∀ y∈l,y.sz) (hmx:HasMax w) :
  Calls Tryz.prog 132 #[.slice A n c,.func (.func 133) #[] #[]] w fun e w'=>e=.returned (.bool (!(l.all entryB)))∧Below w.heap.size w w':=by
 have HC:=Lib.hid (fiEnt_index (fun x:EntryR=>.string ⟨x.user.toArray⟩) (fun x=>.int .i64 x.kind) (fun x=>.string ⟨x.path.toArray⟩) (fun x=>.int .i64 x.err) (fun x=>!(entryB x)) l n hnl A c HasMax w B hr hB (by omega)
  ⟨fun x W hx hm=>odd14_any x.user x.kind x.path x.err W (hv x hx).path hm,fun W W' hm hb=>hm.below hb⟩ hmx)
 have HA:Hid (decide ((0:Int)≤firstI (fun x=>!(entryB x)) l)=!(l.all entryB)):=by
  show _=_
  rw [firstI_any,List.all_eq_not_any_not,Bool.not_not]
 clear hnl hr hv
 go_enter Tryz.func132,Tryz.ntmps132
 go_wp2_with fail
 refine HC.out.mono ?_
 rintro e w1 ⟨rfl,hb⟩
 go_wp2_with fail
 go_ret
 exact ⟨by rw [← HA.out];rfl,hb⟩
end Go.Proofs.YtpbejobgickffaaGreatDoor
