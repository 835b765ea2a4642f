/-
  The page's amount, Find, Snap, tags, Parent, Split: by their contracts. The page's Check of contents, as a callee that only draws.
-/
import Derived.WalkKit
import Derived.WalkSpells
import Derived.Below
import Derived.Laws.OwnMore
import Derived.Deep.AppendLies
import Derived.Deep.Draws
import Derived.Laws.Rows
import Derived.Maps.AppendAt
import Derived.RegionTactic
import Derived.OwnWalk
import Derived.Deep.QuietTactic
import Derived.BigQuiet
import Derived.Lib.Hide
import Derived.Laws.CopyOwn
import Derived.IntWalk
import Derived.Test.YtcgclpcocdappaaGreatDoorRows
import Derived.Handy
import Derived.Deep.Quiet
import Derived.Orders
import Derived.Lib.SplitLaws
import Derived.Lib.LastIndexByte
import Derived.Lib.Strings
import Derived.ShutString
import Derived.Sort.Walk0
import Derived.Sort.KeysCollected
import Derived.Shelf.Strings.Search1
import Derived.Shelf.Strings.Search2
import Derived.Shelf.Strings.Search3
import Derived.Shelf.Strings.Cut
import Derived.Shelf.Strings.Count
import Derived.Shelf.LaysM
import Derived.Shelf.Strings.Shaped
import Derived.Shelf.Strings.LastIndex
import Derived.Shelf.Strings.Split
import Derived.Shelf.Strings.SplitShaped
import Derived.Shelf.Unicode.Decode
import Derived.Shelf.Strings.RuneCount
import Derived.Shelf.Strings.Explode
import Derived.Shelf.Unicode.DecodeSlow
import Derived.Test.YtcgclpcocdappaaGreatDoorProg
import Derived.Laws.BytesString
import Derived.Laws.IdiomStrings
import Derived.Lib.ConvBytes
import Derived.Test.YtcgclpcocdappaaGreatDoorG0
import Derived.Test.YtcgclpcocdappaaGreatDoorGg1
import Derived.Test.YtcgclpcocdappaaGreatDoorGg2
import Derived.Test.YtcgclpcocdappaaGreatDoorGg3
import Derived.Test.YtcgclpcocdappaaGreatDoorGg5
import Derived.Test.YtcgclpcocdappaaGreatDoorGg6
import Derived.Test.YtcgclpcocdappaaGreatDoorGg7
import Derived.Test.YtcgclpcocdappaaGreatDoorGg8
import Derived.Test.YtcgclpcocdappaaGreatDoorGg9
import Derived.Test.YtcgclpcocdappaaGreatDoorGg12
import Derived.Test.YtcgclpcocdappaaGreatDoorGg13
import Derived.Test.YtcgclpcocdappaaGreatDoorGg22
namespace Go.Proofs.YtcgclpcocdappaaGreatDoor
open Go.RowKit
set_option maxRecDepth 100000 in
theorem refAmount_any (n k:Int) (w:World):Calls Tryz.prog 64 #[.int .i64 n,.int .i64 k] w fun e w'=>e=.returned (.bool (amt n k))∧w'=w:=by
 go_enter Tryz.func64,Tryz.ntmps64
 go_wp2_with fail
 all_goals go_ret
 all_goals refine ⟨congrArg Ending.returned (congrArg Value.bool ?_),rfl⟩
 all_goals unfold amt
 all_goals rw [Bool.eq_iff_iff]
 all_goals simp
 all_goals omega
theorem refAmountB_any (n k:Int) (w:World):Calls Tryz.prog 64 #[.int .i64 n,.int .i64 k] w fun e w'=>e=.returned (.bool (amt n k))∧Below w.heap.size w w':=by
 refine (refAmount_any n k w).mono ?_
 rintro e w1 ⟨rfl,rfl⟩
 exact ⟨rfl,Below.refl _ _⟩
theorem refNameB_any (x:BS) (w:World) (hs:x.length≤4000000000):Calls Tryz.prog 63 #[.string ⟨x.toArray⟩] w fun e w'=>e=.returned (.bool (nameB x))∧Below w.heap.size w w':=by
 refine (refName_s ⟨x.toArray⟩ w (by show x.length≤_;omega)).mono ?_
 rintro e w1 ⟨rfl,rfl⟩
 exact ⟨rfl,Below.refl _ _⟩
set_option maxRecDepth 100000 in
set_option maxHeartbeats 1000000 in
theorem refFind_any (v0 v1 v2 v4 v5 v6:Value) (l:List SetR) (n:Nat) (hnl:n=l.length) (A:Option Addr) (c:Nat) (p:BS) (w:World) (B:Nat) (hr:Reads w B 5 A n (cellsK encSet l)) (hB:B≤w.heap.size) (hn:n≤5000000000000) :
  Calls Tryz.prog 10 #[.agg #[v0,v1,v2,.slice A n c,v4,v5,v6],.string ⟨p.toArray⟩] w fun e w'=>e=.returned (.int .i64 (findS l p))∧Below w.heap.size w w':=by
 have HN:=Lib.hid hnl
 have hb1:=(Below.refl w.heap.size w).alloc (Nat.le_refl _) (.cells #[v0,v1,v2,.slice A n c,v4,v5,v6] 27)
 have kT:=Blk.new w 27 #[v0,v1,v2,.slice A n c,v4,v5,v6]
 obtain ⟨W1,hW1⟩:∃ W,W=w.alloc (.cells #[v0,v1,v2,.slice A n c,v4,v5,v6] 27):=⟨_,rfl⟩
 have hsz1:W1.heap.size=w.heap.size+1:=by rw [hW1];simp
 rw [← hW1] at hb1 kT
 have q3:W1.cell? ⟨w.heap.size,3,none⟩=some (.slice A n c):=kT.cell 3
 have hrw:=hr.below (hb1.mono hB)
 have HB1:=Lib.hid hb1
 clear hnl hr kT hsz1 hb1
 go_enter Tryz.func10,Tryz.ntmps10
 go_wp2_with fail
 rw [← hW1]
 clear hW1
 go_loopw [5] (fun j wr=>∃ k:Nat,k≤n∧j=.int .i64 (k:Int)∧Hid (∀ y∈l.take k,(y.path == p)=false)∧wr=W1) (fun j _=>n-(intOf j).toNat)
 case atStart=>exact ⟨0,Nat.zero_le _,rfl,(show ∀ y∈_,_ by simp),rfl⟩
 case round =>
  obtain ⟨k,hk,rfl,hno,hww⟩:=hrel
  have hww:=hww.symm
  subst hww
  by_cases hlt:k<n
  ·have hki:(k:Int)<(n:Int):=by omega
   have hkl:k<l.length:=by have:=HN.out;omega
   obtain ⟨ad,rfl,-,c0,-⟩:=set_at hrw HN.out hlt
   obtain ⟨x,hx⟩:∃ x,x=l[k]'hkl:=⟨_,rfl⟩
   rw [← hx] at c0
   have htk:=List.take_succ_eq_append_getElem hkl
   rw [← hx] at htk
   have HTK:=Lib.hid htk
   have HX:=Lib.hid (show l[k]?=some x by rw [hx];exact List.getElem?_eq_getElem _)
   obtain ⟨xp,hxp⟩:∃ y,y=x.path:=⟨_,rfl⟩
   rw [← hxp] at c0
   have HXP:=Lib.hid hxp
   clear hx htk hrw hxp
   by_cases hxy:xp=p
   ·subst hxy
    go_wp2_with fail
    go_ret
    have hf:=firstP_eq (fun y:SetR=>y.path == xp) l k x hno.out HX.out (by show (x.path == xp)=true;rw [← HXP.out];simp)
    exact ⟨by show _=Ending.returned (.int .i64 (firstI (fun y:SetR=>y.path == xp) l));unfold firstI;rw [hf,if_pos hkl];rfl,HB1.out⟩
   ·have hd:(xp == p)=false:=by simpa using hxy
    have HD:Hid ((x.path == p)=false):=by show _=_;rw [← HXP.out];exact hd
    clear hxy
    go_wp2_with fail
    go_roundw
    case rel =>
     refine ⟨k+1,by omega,by go_num,?_,trivial⟩
     show ∀ z∈l.take (k+1),(z.path == p)=false
     intro z hz
     rw [HTK.out] at hz
     rcases List.mem_append.1 hz with hz | hz
     ·exact hno.out z hz
     ·simp at hz;subst hz;exact HD.out
    case measure=>simp [intOf];omega
  ·have hkn:k=n:=by omega
   have HF:Hid (findS l p=-1):=by
    show firstI (fun y:SetR=>y.path == p) l=_
    unfold firstI
    rw [firstP_none _ l (fun y hy=>hno.out y (by rw [List.take_of_length_le (by rw [hkn,HN.out];exact Nat.le_refl _)];exact hy)),if_neg (Nat.lt_irrefl _)]
   clear hrw hkn
   go_wp2_with fail
   go_ret
   exact ⟨by rw [HF.out];rfl,HB1.out⟩
set_option maxRecDepth 100000 in
set_option maxHeartbeats 1000000 in
theorem refSnap_any (v0 v1 v2 v4:Value) (l:List SnapR) (n:Nat) (hnl:n=l.length) (A:Option Addr) (c:Nat) (p:BS) (w:World) (B:Nat) (hr:Reads w B 5 A n (cellsK encSnap l)) (hB:B≤w.heap.size) (hn:n≤5000000000000) :
  Calls Tryz.prog 27 #[.agg #[v0,v1,v2,.slice A n c,v4],.string ⟨p.toArray⟩] w fun e w'=>e=.returned (.int .i64 (findN l p))∧Below w.heap.size w w':=by
 have HN:=Lib.hid hnl
 have hb1:=(Below.refl w.heap.size w).alloc (Nat.le_refl _) (.cells #[v0,v1,v2,.slice A n c,v4] 42)
 have kT:=Blk.new w 42 #[v0,v1,v2,.slice A n c,v4]
 obtain ⟨W1,hW1⟩:∃ W,W=w.alloc (.cells #[v0,v1,v2,.slice A n c,v4] 42):=⟨_,rfl⟩
 have hsz1:W1.heap.size=w.heap.size+1:=by rw [hW1];simp
 rw [← hW1] at hb1 kT
 have q3:W1.cell? ⟨w.heap.size,3,none⟩=some (.slice A n c):=kT.cell 3
 have hrw:=hr.below (hb1.mono hB)
 have HB1:=Lib.hid hb1
 clear hnl hr kT hsz1 hb1
 go_enter Tryz.func27,Tryz.ntmps27
 go_wp2_with fail
 rw [← hW1]
 clear hW1
 go_loopw [5] (fun j wr=>∃ k:Nat,k≤n∧j=.int .i64 (k:Int)∧Hid (∀ y∈l.take k,(y.nm == p)=false)∧wr=W1) (fun j _=>n-(intOf j).toNat)
 case atStart=>exact ⟨0,Nat.zero_le _,rfl,(show ∀ y∈_,_ by simp),rfl⟩
 case round =>
  obtain ⟨k,hk,rfl,hno,hww⟩:=hrel
  have hww:=hww.symm
  subst hww
  by_cases hlt:k<n
  ·have hki:(k:Int)<(n:Int):=by omega
   have hkl:k<l.length:=by have:=HN.out;omega
   obtain ⟨ad,rfl,-,c0,-⟩:=snap_at hrw HN.out hlt
   obtain ⟨x,hx⟩:∃ x,x=l[k]'hkl:=⟨_,rfl⟩
   rw [← hx] at c0
   have htk:=List.take_succ_eq_append_getElem hkl
   rw [← hx] at htk
   have HTK:=Lib.hid htk
   have HX:=Lib.hid (show l[k]?=some x by rw [hx];exact List.getElem?_eq_getElem _)
   obtain ⟨xp,hxp⟩:∃ y,y=x.nm:=⟨_,rfl⟩
   rw [← hxp] at c0
   have HXP:=Lib.hid hxp
   clear hx htk hrw hxp
   by_cases hxy:xp=p
   ·subst hxy
    go_wp2_with fail
    go_ret
    have hf:=firstP_eq (fun y:SnapR=>y.nm == xp) l k x hno.out HX.out (by show (x.nm == xp)=true;rw [← HXP.out];simp)
    exact ⟨by show _=Ending.returned (.int .i64 (firstI (fun y:SnapR=>y.nm == xp) l));unfold firstI;rw [hf,if_pos hkl];rfl,HB1.out⟩
   ·have hd:(xp == p)=false:=by simpa using hxy
    have HD:Hid ((x.nm == p)=false):=by show _=_;rw [← HXP.out];exact hd
    clear hxy
    go_wp2_with fail
    go_roundw
    case rel =>
     refine ⟨k+1,by omega,by go_num,?_,trivial⟩
     show ∀ z∈l.take (k+1),(z.nm == p)=false
     intro z hz
     rw [HTK.out] at hz
     rcases List.mem_append.1 hz with hz | hz
     ·exact hno.out z hz
     ·simp at hz;subst hz;exact HD.out
    case measure=>simp [intOf];omega
  ·have hkn:k=n:=by omega
   have HF:Hid (findN l p=-1):=by
    show firstI (fun y:SnapR=>y.nm == p) l=_
    unfold firstI
    rw [firstP_none _ l (fun y hy=>hno.out y (by rw [List.take_of_length_le (by rw [hkn,HN.out];exact Nat.le_refl _)];exact hy)),if_neg (Nat.lt_irrefl _)]
   clear hrw hkn
   go_wp2_with fail
   go_ret
   exact ⟨by rw [HF.out];rfl,HB1.out⟩
def prevS (l:List BS) (k:Nat):Option BS:=match k with
 | 0=>none
 | j+1=>l[j]?
set_option maxRecDepth 100000 in
set_option maxHeartbeats 2000000 in
theorem refTags_any (l:List BS) (n:Nat) (hnl:n=l.length) (A:Option Addr) (c:Nat) (w:World) (B:Nat) (hr:Reads w B 1 A n (scells l)) (hn:n≤5000000000000) (hv:∀ x∈l,x.length≤4000000000) :
  Calls Tryz.prog 183 #[.slice A n c] w fun e w'=>e=.returned (.bool (tagsB l))∧∃ q,w'=w.drewN q:=by
 have HN:=Lib.hid hnl
 obtain ⟨V,hV⟩:∃ V,V=tagsB l:=⟨_,rfl⟩
 have HVB:Hid (V=(decide (n≤4) && ascF none l)):=by show _=_;rw [hV];unfold tagsB;rw [hnl]
 rw [← hV]
 clear hnl hV
 go_enter Tryz.func183,Tryz.ntmps183
 go_wp2_with fail
 go_loopw [3] (fun j wr=>∃ k:Nat,k≤n∧j=.int .i64 (k:Int)∧Hid (ascF none l=ascF (prevS l k) (l.drop k))∧∃ p,wr=w.drewN p) (fun j _=>n-(intOf j).toNat)
 case atStart=>exact ⟨0,Nat.zero_le _,rfl,rfl,0,rfl⟩
 case round =>
  obtain ⟨k,hk,rfl,hok,p,rfl⟩:=hrel
  by_cases hlt:k<n
  ·obtain ⟨ad,rfl,hadB,c0⟩:=strs_at hr HN.out hlt
   have hki:(k:Int)<(n:Int):=by omega
   have hkl:k<l.length:=by have:=HN.out;omega
   obtain ⟨x,hx⟩:∃ x,x=l[k]'hkl:=⟨_,rfl⟩
   have hxl:=hv x (by rw [hx];exact List.getElem_mem _)
   rw [← hx] at c0
   have hdr:=List.drop_eq_getElem_cons hkl
   rw [← hx] at hdr
   have HX:=Lib.hid hx
   have HDR:=Lib.hid hdr
   simp only [strV] at c0
   have hbad:Hid ((nameB x=false∨(∃ y,prevS l k=some y∧Op.bytesLess y x=false))→V=false):=by
    show _→_
    intro h
    rw [HVB.out,hok.out,HDR.out,ascF_cons]
    rcases h with h | ⟨y,hy,h⟩
    ·rw [h];simp
    ·rw [hy];simp [h]
   have hgood:Hid (nameB x=true→(∀ y,prevS l k=some y→Op.bytesLess y x=true)→ascF none l=ascF (prevS l (k+1)) (l.drop (k+1))):=by
    show _→_→_
    intro h1 h3
    rw [hok.out,HDR.out]
    have hp:prevS l (k+1)=some x:=by
     show l[k]?=_
     rw [List.getElem?_eq_getElem hkl,← HX.out]
    rw [hp,ascF_cons,h1]
    cases hq:prevS l k with
    | none=>rfl
    | some y=>simp [h3 y hq]
   have hN:∀ m,Calls Tryz.prog 63 #[.string ⟨x.toArray⟩] (w.drewN (p+m)) fun e W'=>e=.returned (.bool (nameB x))∧∃ n,W'=w.drewN (p+n):=fun m=>quietN (refName_any x _ (by omega))
   clear hx hdr hok hxl hv
   obtain ⟨bn,hbn0⟩:∃ b,b=nameB x:=⟨_,rfl⟩
   rw [← hbn0] at hbad hgood hN
   clear hbn0
   cases bn with
   | false =>
    have HB:=Lib.hid (hbad.out (.inl rfl))
    clear hr hbad hgood
    go_wp2_with fail
    go_big_quiet ((go_at_call 63;exact hN _))
    clear hN
    go_wp2_with fail
    go_ret
    exact ⟨by rw [HB.out];rfl,_,World.drewN_drewN _ _ _⟩
   | true =>
    rcases Nat.eq_zero_or_pos k with h0 | h0
    ·have HG:=Lib.hid (hgood.out rfl (fun y hy=>by subst h0;cases hy))
     have d4:decide ((0:Int)<(k:Int))=false:=by simp;omega
     have d4':decide (0<k)=false:=by simp;omega
     clear h0 hr hbad hgood
     go_wp2_with fail
     go_big_quiet ((go_at_call 63;exact hN _))
     clear hN
     go_wp2_with fail
     go_roundw
     case rel=>exact ⟨k+1,by omega,by go_num,HG,_,rfl⟩
     case measure=>simp [intOf];omega
    ·have d4:decide ((0:Int)<(k:Int))=true:=by simp;omega
     have d4':decide (0<k)=true:=by simp;omega
     have hk1l:k-1<l.length:=by omega
     obtain ⟨y,hy⟩:∃ y,y=l[k-1]'hk1l:=⟨_,rfl⟩
     have hpv:prevS l k=some y:=by
      obtain ⟨j,rfl⟩:∃ j,k=j+1:=⟨k-1,by omega⟩
      show l[j]?=_
      have hj:j<l.length:=by simpa using hk1l
      rw [List.getElem?_eq_getElem hj,hy]
      rfl
     obtain ⟨ad2,e2,-,c2⟩:=(strs_at hr HN.out (k:=k-1) (by omega))
     injection e2 with e2
     subst e2
     rw [← hy] at c2
     simp only [strV] at c2
     have i1:(1:Int)≤(k:Int):=by omega
     have i2:(k:Int)-1<(n:Int):=by omega
     have i3:IntKind.i64.wrap ((k:Int)-1)=(k:Int)-1:=IntWalk.i64_in _ (by omega)
     have i4:((k:Int)-1).toNat=k-1:=by omega
     have hleq:=leqS 9 x y
     cases hcmp:Op.bytesLess y x with
     | true =>
      have HG:=Lib.hid (hgood.out rfl (fun y' hy'=>by rw [hpv] at hy';cases hy';exact hcmp))
      have f1:(Op.bytesLess x y || x == y)=false:=by
       rw [Bool.or_eq_false_iff]
       refine ⟨?_,by simpa using (bl_ne hcmp).symm⟩
       rw [← Bool.not_eq_true]
       intro h
       have:=bl_trans hcmp h
       rw [bl_irrefl] at this
       cases this
      rw [f1] at hleq
      clear hr hbad hgood h0 hpv hy hcmp f1
      go_wp2_with fail
      go_big_quiet ((go_at_call 63;exact hN _))
      clear hN hleq
      go_wp2_with fail
      go_roundw
      case rel=>exact ⟨k+1,by omega,by go_num,HG,_,rfl⟩
      case measure=>simp [intOf];omega
     | false =>
      have HB:=Lib.hid (hbad.out (.inr ⟨y,hpv,hcmp⟩))
      have f1:(Op.bytesLess x y || x == y)=true:=by
       by_cases e:x=y
       ·simp [e]
       ·rw [bl_tri y x hcmp (fun h=>e h.symm)];rfl
      rw [f1] at hleq
      clear hr hbad hgood h0 hpv hy hcmp f1
      go_wp2_with fail
      go_big_quiet ((go_at_call 63;exact hN _))
      clear hN hleq
      go_wp2_with fail
      go_ret
      exact ⟨by rw [HB.out];rfl,_,World.drewN_drewN _ _ _⟩
  ·have hkn:k=n:=by omega
   have hF:Hid (V=decide (n≤4)):=by
    show _=_
    rw [HVB.out,hok.out,List.drop_of_length_le (by rw [hkn,HN.out];exact Nat.le_refl _)]
    simp [ascF]
   clear hok hr hkn HVB
   by_cases h8:n≤4
   ·have hi8:(n:Int)≤(4:Int):=by omega
    have HV:Hid (V=true):=by show _=_;rw [hF.out,decide_eq_true h8]
    clear hF
    go_wp2_with fail
    go_ret
    exact ⟨by rw [HV.out];rfl,p,rfl⟩
   ·have hi8:¬ (n:Int)≤(4:Int):=by omega
    have HV:Hid (V=false):=by show _=_;rw [hF.out,decide_eq_false h8]
    clear hF
    go_wp2_with fail
    go_ret
    exact ⟨by rw [HV.out];rfl,p,rfl⟩
def ParPost (l:BS) (w:World) (e:Ending) (w':World):Prop:=Below w.heap.size w w' ∧
   ((l=[]∨pathB l=false)∧e=.returned (.tuple #[.string ⟨#[]⟩,.bool false]) ∨
    l≠[]∧pathB l=true∧e=.returned (.tuple #[.string ⟨(upL l).toArray⟩,.bool true]))
set_option maxRecDepth 100000 in
set_option maxHeartbeats 1000000 in
theorem refParent_any (s:ByteArray) (w:World) (hs:s.size≤4000000000) :
  Calls Tryz.prog 133 #[.string s] w (ParPost s.data.toList w):=by
 have hts:=Lib.hid (toList_data s)
 have hpa:=refPath_any s w hs
 by_cases hs0:s.data.toList=[]
 ·have h0:s=⟨#[]⟩:=by apply eq_mk;exact hs0
  subst h0
  clear hpa hts
  go_enter Tryz.func133,Tryz.ntmps133
  go_wp2_with fail
  refine bodyPost_ret (v:=.tuple #[.string ⟨#[]⟩,.bool false]) (by simp [results,Tryz.results133,go_sem]) rfl ⟨Below.refl _ _,.inl ⟨.inl rfl,rfl⟩⟩
 have HNE:=Lib.hid hs0
 have hie:s.toList.isEmpty=false:=by rw [hts.out];simpa using hs0
 have hie2:s.toList≠[]:=by rw [hts.out];exact hs0
 obtain ⟨bs,hbs0⟩:∃ b,b=pathB s.data.toList:=⟨_,rfl⟩
 rw [← hbs0] at hpa
 have HBS:=Lib.hid hbs0
 have hsp:=Lib.hid (lastS_spec s.data.toList)
 have hsz:=Lib.hid (Lib.size_eq s)
 clear hs0 hbs0
 cases bs with
 | false =>
  go_enter Tryz.func133,Tryz.ntmps133
  go_wp2_with fail
  refine hpa.mono ?_
  rintro e w1 ⟨rfl,hb1⟩
  go_wp2_with fail
  refine bodyPost_ret (v:=.tuple #[.string ⟨#[]⟩,.bool false]) (by simp [results,Tryz.results133,go_sem]) rfl ⟨hb1,.inl ⟨.inr HBS.out.symm,rfl⟩⟩
 | true =>
  have i3:IntKind.i64.wrap ((s.size:Int)-1)=(s.size:Int)-1:=IntWalk.i64_in _ (by omega)
  go_enter Tryz.func133,Tryz.ntmps133
  go_wp2_with fail
  refine hpa.mono ?_
  rintro e w1 ⟨rfl,hb1⟩
  go_wp2_with fail
  clear i3 hpa
  go_loopw [4] (fun j wr=>∃ z:Int,-1≤z∧z≤(s.size:Int)-1∧j=.int .i64 z∧Hid (∀ k:Nat,z<(k:Int)→s.data.toList[k]?≠some 47)∧wr=w1) (fun j _=>(intOf j+1).toNat)
  case atStart =>
   refine ⟨(s.size:Int)-1,by omega,by omega,rfl,?_,rfl⟩
   show ∀ k:Nat,_→_
   intro k hk e
   have:=(List.getElem?_eq_some_iff.1 e).1
   have:=hsz.out
   omega
  case round =>
   obtain ⟨z,hz1,hz2,rfl,hok,hww⟩:=hrel
   have hww:=hww.symm
   subst hww
   by_cases hz:0≤z
   ·obtain ⟨k,rfl⟩:∃ k:Nat,z=(k:Int):=⟨z.toNat,by omega⟩
    have hks:k<s.size:=by omega
    have hki:(k:Int)<(s.size:Int):=by omega
    have hkl:k<s.data.toList.length:=by have:=hsz.out;omega
    obtain ⟨y,hy⟩:∃ y,y=s[k]'hks:=⟨_,rfl⟩
    have HY:=Lib.hid (show s.data.toList[k]?=some y by rw [List.getElem?_eq_getElem hkl,bget s k hks,hy])
    have hyv:((s[k]'hks).toNat:Int)=(y.toNat:Int):=by rw [hy]
    have hlt:=y.toNat_lt
    clear hy hz1 hz2
    by_cases h47:(y.toNat:Int)=47
    ·have hy47:y=47:=by
      apply UInt8.toNat_inj.1
      have e:(47:UInt8).toNat=47:=rfl
      omega
     have HU:Hid (upL s.data.toList=s.data.toList.take k):=by
      show _=_
      rcases hsp.out with ⟨_,h2⟩ | ⟨j,h1,h2,h3⟩
      ·exact absurd (by rw [← hy47];exact List.mem_of_getElem? HY.out) h2
      ·have hjk:j=k:=by
        rcases Nat.lt_trichotomy j k with h | h | h
        ·exact absurd (by rw [HY.out,hy47]) (h3 k h)
        ·exact h
        ·exact absurd h2 (hok.out j (by omega))
       unfold upL
       rw [h1,hjk]
       rfl
     have hks2:(k:Int)≤(s.size:Int):=by omega
     clear hy47
     go_wp2_with fail
     have hv:s.extract 0 k=⟨(upL s.data.toList).toArray⟩:=by
      apply eq_mk
      rw [Lib.extract_from_zero,HU.out]
     refine bodyPost_ret (v:=.tuple #[.string ⟨(upL s.data.toList).toArray⟩,.bool true]) (by simp [results,Tryz.results133,go_sem,hv]) rfl ⟨hb1,.inr ⟨HNE.out,HBS.out.symm,rfl⟩⟩
    ·have hyb:((y.toNat:Int) == 47)=false:=by simpa using h47
     have HG:Hid (y≠47):=by
      show _≠_
      rintro rfl
      exact h47 rfl
     go_wp2_with fail
     go_roundw
     case rel =>
      refine ⟨(k:Int)-1,by omega,by omega,by go_num,?_,trivial⟩
      show ∀ k':Nat,_→_
      intro k' hk' e
      by_cases h:k'=k
      ·subst h
       rw [HY.out] at e
       exact HG.out (Option.some.inj e)
      ·exact hok.out k' (by omega) e
     case measure=>simp [intOf];try omega
   ·have HU:Hid (upL s.data.toList=[]):=by
     show _=_
     rcases hsp.out with ⟨h1,_⟩ | ⟨j,h1,h2,h3⟩
     ·unfold upL;rw [h1];rfl
     ·exact absurd h2 (hok.out j (by omega))
    go_wp2_with fail
    have HU2:=HU.out
    refine bodyPost_ret (v:=.tuple #[.string ⟨#[]⟩,.bool true]) (by simp [results,Tryz.results133,go_sem]) rfl ⟨hb1,.inr ⟨HNE.out,HBS.out.symm,by rw [HU2]⟩⟩
end Go.Proofs.YtcgclpcocdappaaGreatDoor
namespace Go.Proofs.YtcgclpcocdappaaGreatDoor
open Go.RowKit
set_option maxRecDepth 100000 in
set_option maxHeartbeats 2000000 in
theorem rcheckq_any (l:BL) (n:Nat) (hnl:n=l.length) (A:Option Addr) (c:Nat) (w:World) (B:Nat) (hr:Reads w B 2 A n (bcells l)) (hn:n≤140737488351232) :
  Calls Tryz.prog 117 #[.slice A n c] w fun e w'=>e=.returned (.int .i64 (okE l))∧∃ q,w'=w.drewN q:=by
 have HN:=Lib.hid hnl
 clear hnl
 go_enter Tryz.func117,Tryz.ntmps117
 go_wp2_with fail
 go_loopw [3] (fun j wr=>∃ k q0:Nat,k≤n∧j=.int .i64 (k:Int)∧Hid (okL l=okFrom (prevAt l k) (l.drop k))∧wr=w.drewN q0) (fun j _=>n-(intOf j).toNat)
 case atStart=>exact ⟨0,0,Nat.zero_le _,rfl,rfl,rfl⟩
 case round =>
  obtain ⟨k,q0,hk,rfl,hok,rfl⟩:=hrel
  by_cases hlt:k<n
  ·have hrw:=hr
   obtain ⟨ad,rfl,hadB,c0,c1⟩:=hrw.blk2 HN.out hlt
   have hki:(k:Int)<(n:Int):=by omega
   have hkl:k<l.length:=by have:=HN.out;omega
   obtain ⟨x,hx⟩:∃ x,x=l[k]'hkl:=⟨_,rfl⟩
   rw [← hx] at c0 c1
   have hdr:=List.drop_eq_getElem_cons hkl
   rw [← hx] at hdr
   have HX:=Lib.hid hx
   have HDR:=Lib.hid hdr
   obtain ⟨xi,xs⟩:=x
   simp only at c0 c1
   have hbad:Hid ((xi<0∨1024≤xi∨xs.length≠16∨(∃ y,prevAt l k=some y∧xi≤y))→okE l=9):=by
    intro h
    have hf:okL l=false:=by
     rw [hok.out,HDR.out]
     cases hfv:okFrom (prevAt l k) ((xi,xs) :: l.drop (k+1)) with
     | false=>rfl
     | true =>
      exfalso
      simp only [okFrom,Bool.and_eq_true,decide_eq_true_eq] at hfv
      obtain ⟨⟨⟨⟨h1,h2⟩,h3⟩,h4⟩,_⟩:=hfv
      rcases h with h | h | h | ⟨y,hy,h⟩
      ·omega
      ·omega
      ·exact h h3
      ·rw [hy] at h4;simp at h4;omega
    unfold okE
    rw [hf]
    rfl
   have hgood:Hid ((0≤xi∧xi<1024∧xs.length=16∧(∀ y,prevAt l k=some y→y<xi))→okL l=okFrom (prevAt l (k+1)) (l.drop (k+1))):=by
    rintro ⟨h1,h2,h3,h4⟩
    rw [hok.out,HDR.out]
    have hp:prevAt l (k+1)=some xi:=by
     show (l[k]?).map (·.1)=_
     rw [List.getElem?_eq_getElem hkl,← HX.out]
     rfl
    rw [hp]
    simp only [okFrom,h1,h2,h3,decide_true,Bool.true_and]
    cases hq:prevAt l k with
    | none=>rfl
    | some y=>simp [h4 y hq]
   clear hx hdr hok
   by_cases g1:xi<0
   ·have HB:=Lib.hid (hbad.out (.inl g1))
    clear hr hrw hbad hgood
    go_wp2_with fail
    go_big_quiet (fail)
    go_wp2_with fail
    go_ret
    exact ⟨by rw [HB.out];rfl,q0+nq,World.drewN_drewN _ _ _⟩
   by_cases g2:1024≤xi
   ·have HB:=Lib.hid (hbad.out (.inr (.inl g2)))
    have d1:decide (xi<0)=false:=by simp;omega
    have d2:decide (1024≤xi)=true:=by simp;omega
    clear hr hrw hbad hgood g1 g2
    go_wp2_with fail
    go_big_quiet (fail)
    go_wp2_with fail
    go_ret
    exact ⟨by rw [HB.out];rfl,q0+nq,World.drewN_drewN _ _ _⟩
   by_cases g3:xs.length=16
   ·have g1':0≤xi:=by omega
    have g2':xi<1024:=by omega
    have g3a:((xs.length:Int) == 16)=true:=by simp [g3]
    have g3b:((xs.length:Int) != 16)=false:=by simp [g3]
    have d1:decide (xi<0)=false:=by simp;omega
    have d2:decide (1024≤xi)=false:=by simp;omega
    rcases Nat.eq_zero_or_pos k with h0 | h0
    ·have HG:=Lib.hid (hgood.out ⟨g1',g2',g3,fun y hy=>by subst h0;cases hy⟩)
     have d4:decide ((0:Int)<(k:Int))=false:=by simp;omega
     have d4':decide (0<k)=false:=by simp;omega
     have H0:=Lib.hid h0
     clear hr hrw hbad hgood g1 g2 g3 h0
     go_wp2_with fail
     go_big_quiet (fail)
     go_wp2_with fail
     go_roundw
     case rel=>exact ⟨k+1,q0+nq,by omega,by go_num,HG,rfl⟩
     case measure=>simp [intOf];omega
    ·have d4:decide ((0:Int)<(k:Int))=true:=by simp;omega
     have d4':decide (0<k)=true:=by simp;omega
     have hk1l:k-1<l.length:=by omega
     obtain ⟨y,hy⟩:∃ y,y=(l[k-1]'hk1l).1:=⟨_,rfl⟩
     have hpv:prevAt l k=some y:=by
      obtain ⟨j,rfl⟩:∃ j,k=j+1:=⟨k-1,by omega⟩
      show (l[j]?).map (·.1)=_
      have hj:j<l.length:=by simpa using hk1l
      rw [List.getElem?_eq_getElem hj,hy]
      rfl
     have hcp:=(hrw.blk2 HN.out (k:=k-1) (by omega))
     obtain ⟨ad2,e2,-,c2,-⟩:=hcp
     injection e2 with e2
     subst e2
     rw [← hy] at c2
     have i1:(0:Int)≤(k:Int)-1:=by omega
     have i2:(k:Int)-1<(n:Int):=by omega
     have i3:IntKind.i64.wrap ((k:Int)-1)=(k:Int)-1:=IntWalk.i64_in _ (by omega)
     have i4:((k:Int)-1).toNat=k-1:=by omega
     by_cases g5:y<xi
     ·have HG:=Lib.hid (hgood.out ⟨g1',g2',g3,fun y' hy'=>by rw [hpv] at hy';cases hy';exact g5⟩)
      have d5:decide (xi≤y)=false:=by simp;omega
      clear hr hrw hbad hgood g1 g2 g3 h0 hpv hy g5
      go_wp2_with fail
      go_big_quiet (fail)
      clear i3 i4
      go_wp2_with fail
      go_roundw
      case rel=>exact ⟨k+1,q0+nq,by omega,by go_num,HG,rfl⟩
      case measure=>simp [intOf];omega
     ·have HB:=Lib.hid (hbad.out (.inr (.inr (.inr ⟨y,hpv,by omega⟩))))
      have d5:decide (xi≤y)=true:=by simp;omega
      clear hr hrw hbad hgood g1 g2 g3 h0 hpv hy g5
      go_wp2_with fail
      go_big_quiet (fail)
      clear i3 i4
      go_wp2_with fail
      go_ret
      exact ⟨by rw [HB.out];rfl,q0+nq,World.drewN_drewN _ _ _⟩
   ·have g3a:((xs.length:Int) == 16)=false:=by simp;omega
    have g3b:((xs.length:Int) != 16)=true:=by simp;omega
    have g1':0≤xi:=by omega
    have g2':xi<1024:=by omega
    have HB:=Lib.hid (hbad.out (.inr (.inr (.inl g3))))
    have d1:decide (xi<0)=false:=by simp;omega
    have d2:decide (1024≤xi)=false:=by simp;omega
    clear hr hrw hbad hgood g1 g2 g3
    go_wp2_with fail
    go_big_quiet (fail)
    go_wp2_with fail
    go_ret
    exact ⟨by rw [HB.out];rfl,q0+nq,World.drewN_drewN _ _ _⟩
  ·obtain rfl:k=n:=by omega
   have HF:Hid (okE l=0):=by
    show _=_
    unfold okE
    rw [hok.out,List.drop_of_length_le (by rw [HN.out];exact Nat.le_refl _)]
    rfl
   clear hok hr
   go_wp2_with fail
   go_ret
   exact ⟨by rw [HF.out];rfl,q0,rfl⟩
end Go.Proofs.YtcgclpcocdappaaGreatDoor
