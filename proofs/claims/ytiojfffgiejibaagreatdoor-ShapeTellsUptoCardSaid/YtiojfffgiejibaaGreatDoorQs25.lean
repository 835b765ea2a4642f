/-
  The page's Path, by its contract. The page's amount, Find, Snap, tags, Parent, Split: by their contracts.
-/
import Derived.Test.YtiojfffgiejibaaGreatDoorQsM1
import Derived.WalkKit
import Derived.WalkSpells
import Derived.Below
import Derived.Laws.OwnMore
import Derived.Deep.AppendLies
import Derived.Deep.Draws
import Derived.Laws.Rows
import Derived.Maps.AppendAt
import Derived.RegionTactic
import Derived.OwnWalk
import Derived.Deep.QuietTactic
import Derived.BigQuiet
import Derived.Lib.Hide
import Derived.Laws.CopyOwn
import Derived.IntWalk
import Derived.Deep.Quiet
import Derived.Lib.SplitLaws
import Derived.Lib.LastIndexByte
import Derived.Lib.Strings
import Derived.Test.YtiojfffgiejibaaGreatDoorRows
import Derived.Handy
import Derived.Shelf.Strings.Search1
import Derived.Shelf.Strings.Search2
import Derived.Shelf.Strings.Search3
import Derived.Shelf.Strings.Cut
import Derived.Shelf.Strings.Count
import Derived.Shelf.LaysM
import Derived.Shelf.Strings.Shaped
import Derived.Shelf.Strings.LastIndex
import Derived.Shelf.Strings.Split
import Derived.Shelf.Strings.SplitShaped
import Derived.Shelf.Unicode.Decode
import Derived.Shelf.Strings.RuneCount
import Derived.Shelf.Strings.Explode
import Derived.Shelf.Unicode.DecodeSlow
import Derived.Shelf.Slices.Turned
import Derived.Test.YtiojfffgiejibaaGreatDoorProg
import Derived.Laws.BytesString
import Derived.Laws.IdiomStrings
import Derived.Lib.ConvBytes
import Derived.Orders
import Derived.ShutString
import Derived.Sort.Walk0
import Derived.Sort.KeysCollected
import Derived.Test.YtiojfffgiejibaaGreatDoorQ0
import Derived.Test.YtiojfffgiejibaaGreatDoorQs1
import Derived.Test.YtiojfffgiejibaaGreatDoorQs2
import Derived.Test.YtiojfffgiejibaaGreatDoorQs3
import Derived.Test.YtiojfffgiejibaaGreatDoorQs5
import Derived.Test.YtiojfffgiejibaaGreatDoorQs7
import Derived.Test.YtiojfffgiejibaaGreatDoorQs8
import Derived.Test.YtiojfffgiejibaaGreatDoorQs9
import Derived.Test.YtiojfffgiejibaaGreatDoorQs10
import Derived.Test.YtiojfffgiejibaaGreatDoorQs12
import Derived.Test.YtiojfffgiejibaaGreatDoorQs13
namespace Go.Proofs.YtiojfffgiejibaaGreatDoor
open Go.RowKit
theorem extract_mk (s:ByteArray) (j k:Nat):s.extract j k=⟨((s.data.toList.drop j).take (k-j)).toArray⟩:=by
 apply eq_mk
 rw [ByteArray.data_extract,Array.toList_extract]
theorem partsL_len (l:BS):(partsL l).length≤l.length+1:=by
 induction l with
 | nil=>simp [partsL]
 | cons c l ih =>
  unfold partsL
  split
  ·simp;omega
  ·split
   ·rename_i p ps h
    rw [h] at ih
    simp at ih ⊢
    omega
   ·simp
set_option maxRecDepth 100000 in
set_option maxHeartbeats 1000000 in
theorem parts_any (s:ByteArray) (w:World) (hs:s.size≤4000000000) :
  Calls Tryz.prog 126 #[.string s,.int .u8 47] w fun e w'=>∃ v,e=.returned v∧w'.ownsRow w.heap.size 9 1 v (partsL s.data.toList).length (scells (partsL s.data.toList))∧Below w.heap.size w w':=by
 obtain ⟨i0,hi0,hz0,hz1,hz2⟩:=info_parts Tryz.infoS
 have HSZ:=Lib.hid (Lib.size_eq s)
 go_enter Tryz.func126,Tryz.ntmps126
 go_wp2_with fail
 go_loopw [5,6,7] (fun o f i wr=>∃ (k j m:Nat) (done:List BS) (A1:Option Addr) (c1:Nat),k≤s.size∧j≤k∧m≤j∧i=.int .i64 (k:Int)∧f=.int .i64 (j:Int)∧o=.slice A1 m c1∧Hid (m=done.length∧partsL s.data.toList=done++partsL (s.data.toList.drop j)∧47 ∉ (s.data.toList.drop j).take (k-j))∧wr.ownsRow w.heap.size 9 1 (.slice A1 m c1) m (scells done)∧Below w.heap.size w wr) (fun _ _ i _=>s.size-(intOf i).toNat)
 case atStart=>exact ⟨0,0,0,[],none,0,Nat.zero_le _,Nat.le_refl _,Nat.le_refl _,rfl,rfl,rfl,⟨rfl,by simp,by simp⟩,⟨rfl,.inl ⟨rfl,rfl⟩⟩,Below.refl _ _⟩
 case round =>
  obtain ⟨k,j,m,done,A1,c1,hk,hj,hm,rfl,rfl,rfl,hI,hown,hbw⟩:=hrel
  by_cases hlt:k<s.size
  ·have hki:(k:Int)<(s.size:Int):=tZ1
   have hkl:k<s.data.toList.length:=tZ6
   have hg:=bget s k hlt
   obtain ⟨y,hy⟩:∃ y,y=s[k]'hlt:=⟨_,rfl⟩
   have hyv:((s[k]'hlt).toNat:Int)=(y.toNat:Int):=by rw [hy]
   have hget:s.data.toList[k]?=some y:=by rw [List.getElem?_eq_getElem hkl,hg,← hy]
   have htk:(s.data.toList.drop j).take (k+1-j)=(s.data.toList.drop j).take (k-j)++[y]:=by
    rw [show k+1-j=k-j+1 by omega,List.take_add_one,List.getElem?_drop,show j+(k-j)=k by omega,hget]
    rfl
   have HTK:=Lib.hid htk
   have HGET:=Lib.hid hget
   clear hg hy hget htk
   by_cases h47:y=47
   ·have hyi:(y.toNat:Int)=47:=by rw [h47];rfl
    have hjk:(j:Int)≤(k:Int):=tZ1
    have hks:(k:Int)≤(s.size:Int):=tZ1
    have hex:=extract_mk s j k
    obtain ⟨q,hq⟩:∃ q,q=(s.data.toList.drop j).take (k-j):=⟨_,rfl⟩
    rw [← hq] at hex
    have HN:Hid (partsL s.data.toList=(done++[q])++partsL (s.data.toList.drop (k+1))):=by
     show _=_
     have hsp:s.data.toList.drop j=q++47 :: s.data.toList.drop (k+1):=by
      conv=>lhs;rw [← List.take_append_drop (k-j) (s.data.toList.drop j),← hq,List.drop_drop,show j+(k-j)=k by omega,List.drop_eq_getElem_cons hkl]
      have:=HGET.out
      rw [List.getElem?_eq_getElem hkl,h47] at this
      rw [Option.some.inj this]
     rw [hI.out.2.1,hsp,partsL_two _ _ (by rw [hq];exact hI.out.2.2),List.append_assoc]
     rfl
    have HM:Hid (m+1=(done++[q]).length):=by show _=_;rw [List.length_append,hI.out.1];rfl
    have hsz2:=hbw.size
    clear hq h47
    go_wp2_with (at_builtin;(refine wpList_push _ rfl (.tmp 19) (.tmp 24) 51 rfl w.heap.size 9 i0 (.string ByteArray.empty) 1 16 Tryz.underlying51 hi0 hz0 hz1 hz2 rfl tZ4 (.slice A1 m c1) m (scells done) rfl hown 1 #[.string ⟨q.toArray⟩] 9 tZ122 rfl tZ5 tZ11 tZ1 hsz2 ?_);intro v4 w4 hown4 hb4 _)
    obtain ⟨A4,c4,rfl,_,_,_⟩:=own_form hown4
    have hb5:=hbw.trans hb4
    have HO:Hid (w4.ownsRow w.heap.size 9 1 (.slice A4 (m+1) c4) (m+1) (scells (done++[q]))):=by show World.ownsRow _ _ _ _ _ _ _;rw [scells_append];exact hown4
    clear hown hown4 hbw hb4
    go_wp2_with fail
    go_roundw
    case rel=>exact ⟨k+1,k+1,m+1,done++[q],A4,c4,by omega,Nat.le_refl _,by omega,by go_num,by go_num,rfl,⟨HM.out,HN.out,by simp⟩,HO.out,hb5⟩
    case measure=>simp [intOf];omega
   ·have hyi:¬ (y.toNat:Int)=47:=by
     intro e
     exact h47 (UInt8.toNat_inj.1 (by have:(47:UInt8).toNat=47:=rfl;omega))
    have HN:Hid (47 ∉ (s.data.toList.drop j).take (k+1-j)):=by
     show _ ∉ _
     rw [HTK.out,List.mem_append,List.mem_singleton]
     rintro (h | h)
     ·exact hI.out.2.2 h
     ·exact h47 h.symm
    clear h47
    go_wp2_with fail
    go_roundw
    case rel=>exact ⟨k+1,j,m,done,A1,c1,by omega,by omega,hm,by go_num,rfl,rfl,⟨hI.out.1,hI.out.2.1,HN.out⟩,hown,hbw⟩
    case measure=>simp [intOf];omega
  ·obtain rfl:k=s.size:=tZ1
   have hex:=extract_mk s j s.size
   obtain ⟨q,hq⟩:∃ q,q=(s.data.toList.drop j).take (s.size-j):=⟨_,rfl⟩
   rw [← hq] at hex
   have HN:Hid (partsL s.data.toList=done++[q]):=by
    show _=_
    have:(s.data.toList.drop j).take (s.size-j)=s.data.toList.drop j:=List.take_of_length_le (by rw [List.length_drop];have:=HSZ.out;omega)
    have h47:=hI.out.2.2
    rw [this] at h47 hq
    rw [hI.out.2.1,partsL_one _ h47,hq]
   have HM:Hid (m+1=(partsL s.data.toList).length):=by show _=_;rw [HN.out,List.length_append,hI.out.1];rfl
   have hsz2:=hbw.size
   have hjk:(j:Int)≤(s.size:Int):=tZ1
   clear hq
   go_wp2_with (at_builtin;(refine wpList_push _ rfl (.tmp 28) (.tmp 32) 51 rfl w.heap.size 9 i0 (.string ByteArray.empty) 1 16 Tryz.underlying51 hi0 hz0 hz1 hz2 rfl tZ4 (.slice A1 m c1) m (scells done) rfl hown 1 #[.string ⟨q.toArray⟩] 9 tZ122 rfl tZ5 tZ11 tZ1 hsz2 ?_);intro v4 w4 hown4 hb4 _)
   have HO:Hid (w4.ownsRow w.heap.size 9 1 v4 (m+1) (scells (partsL s.data.toList))):=by show World.ownsRow _ _ _ _ _ _ _;rw [HN.out,scells_append];exact hown4
   have hb5:=hbw.trans hb4
   clear hown hown4 hbw hb4
   go_wp2_with fail
   go_ret
   exact ⟨v4,rfl,by rw [← HM.out];exact HO.out,hb5⟩
theorem parts_small (l:BS):∀ p∈partsL l,p.length≤l.length:=by
 induction l with
 | nil=>simp [partsL]
 | cons c l ih =>
  unfold partsL
  split
  ·intro p hp
   rcases List.mem_cons.1 hp with rfl | hp
   ·simp
   ·have:=ih p hp;simp;omega
  ·split
   ·rename_i q ps h
    rw [h] at ih
    intro p hp
    rcases List.mem_cons.1 hp with rfl | hp
    ·have:=ih q (List.mem_cons_self ..);simp;omega
    ·have:=ih p (List.mem_cons_of_mem _ hp);simp;omega
   ·intro p hp
    rw [List.mem_singleton] at hp
    subst hp
    simp
set_option maxRecDepth 100000 in
set_option maxHeartbeats 1000000 in
theorem refPath_any (s:ByteArray) (w:World) (hs:s.size≤4000000000) :
  Calls Tryz.prog 75 #[.string s] w fun e w'=>e=.returned (.bool (pathB s.data.toList))∧Below w.heap.size w w':=by
 have htl:=Lib.hid (toList_data s)
 have hpar:=parts_any s w hs
 have HSM:=Lib.hid (parts_small s.data.toList)
 have HPL:=Lib.hid (partsL_len s.data.toList)
 have HSZ:=Lib.hid (Lib.size_eq s)
 go_enter Tryz.func75,Tryz.ntmps75
 go_wp2_with fail
 ·exact mZ43
 ·have h0:s.toList.isEmpty=false:=by assumption
  have HP:Hid (pathB s.data.toList=(decide ((partsL s.data.toList).length≤4) && (partsL s.data.toList).all nameB)):=by
   show _=_
   rw [htl.out] at h0
   unfold pathB
   rw [h0,Bool.false_or]
  obtain ⟨L,hL⟩:∃ L,L=partsL s.data.toList:=⟨_,rfl⟩
  rw [← hL] at hpar HSM HPL HP
  obtain ⟨n,hn⟩:∃ n,n=L.length:=⟨_,rfl⟩
  rw [← hn] at hpar HPL HP
  have hnb:n≤4000000001:=by have:=HPL.out;have:=HSZ.out;omega
  have HN:=Lib.hid hn
  clear hL hn
  refine hpar.mono ?_
  clear hpar
  rintro e w1 ⟨v,rfl,hown,hb1⟩
  obtain ⟨A1,c1,rfl,_,_,hr⟩:=own_form hown
  clear hown
  go_wp2_with fail
  go_loopw [4] (fun i wr=>∃ k:Nat,k≤n∧i=.int .i64 (k:Int)∧Hid ((L.take k).all nameB=true)∧wr=w1) (fun i _=>n-(intOf i).toNat)
  case atStart=>exact ⟨0,Nat.zero_le _,rfl,rfl,rfl⟩
  case round =>
   obtain ⟨k,hk,rfl,hok,hww⟩:=hrel
   have hww:=hww.symm
   subst hww
   by_cases hlt:k<n
   ·have hki:(k:Int)<(n:Int):=tZ1
    have hkl:k<L.length:=tZ9
    obtain ⟨ad,rfl,hadB,d0⟩:=strs_at hr HN.out hlt
    have htk:=List.take_succ_eq_append_getElem hkl
    obtain ⟨x,hx⟩:∃ x,x=L[k]'hkl:=⟨_,rfl⟩
    have hm:x∈L:=tZ12
    rw [← hx] at d0 htk
    simp only [strV] at d0
    have hxs:=HSM.out x hm
    have hc:=refName_any x w1 tZ6
    obtain ⟨b,hb⟩:∃ b,b=nameB x:=⟨_,rfl⟩
    rw [← hb] at hc
    have HBB:=Lib.hid hb
    have HT:=Lib.hid htk
    have HM:=Lib.hid hm
    clear hx htk hb hxs hm
    go_wp2_with fail
    refine hc.mono ?_
    clear hc
    rintro e w2 ⟨rfl,rfl⟩
    cases b with
    | true =>
     exact mZ83
    | false =>
     have HV:Hid (pathB s.data.toList=false):=by
      show _=_
      have:L.all nameB=false:=by
       rw [← Bool.not_eq_true,List.all_eq_true]
       intro h
       have:=h x HM.out
       rw [← HBB.out] at this
       cases this
      rw [HP.out,this,Bool.and_false]
     go_wp2_with fail
     go_ret
     exact ⟨by rw [HV.out];rfl,hb1⟩
   ·have HA:Hid (pathB s.data.toList=decide ((n:Int)≤4)):=by
     show _=_
     have:=hok.out
     rw [List.take_of_length_le tZ9] at this
     rw [HP.out,this,Bool.and_true]
     exact decide_eq_decide.2 tZ1
    clear hok hr
    go_wp2_with fail
    go_ret
    exact ⟨by rw [HA.out];rfl,hb1⟩
end Go.Proofs.YtiojfffgiejibaaGreatDoor
namespace Go.Proofs.YtiojfffgiejibaaGreatDoor
open Go.RowKit
set_option maxRecDepth 100000 in
theorem refAmount_any (n k:Int) (w:World):Calls Tryz.prog 113 #[.int .i64 n,.int .i64 k] w fun e w'=>e=.returned (.bool (amt n k))∧w'=w:=by
 go_enter Tryz.func113,Tryz.ntmps113
 exact mZ35
theorem refAmountB_any (n k:Int) (w:World):Calls Tryz.prog 113 #[.int .i64 n,.int .i64 k] w fun e w'=>e=.returned (.bool (amt n k))∧Below w.heap.size w w':=by
 refine (refAmount_any n k w).mono ?_
 exact mZ46
theorem refNameB_any (x:BS) (w:World) (hs:x.length≤4000000000):Calls Tryz.prog 79 #[.string ⟨x.toArray⟩] w fun e w'=>e=.returned (.bool (nameB x))∧Below w.heap.size w w':=by
 refine (refName_s ⟨x.toArray⟩ w (by show x.length≤_;omega)).mono ?_
 exact mZ46
set_option maxRecDepth 100000 in
set_option maxHeartbeats 1000000 in
theorem refFind_any (v0 v1 v2 v4 v5 v6:Value) (l:List SetR) (n:Nat) (hnl:n=l.length) (A:Option Addr) (c:Nat) (p:BS) (w:World) (B:Nat) (hr:Reads w B 5 A n (cellsK encSet l)) (hB:B≤w.heap.size) (hn:n≤5000000000000) :
  Calls Tryz.prog 33 #[.agg #[v0,v1,v2,.slice A n c,v4,v5,v6],.string ⟨p.toArray⟩] w fun e w'=>e=.returned (.int .i64 (findS l p))∧Below w.heap.size w w':=by
 have HN:=Lib.hid hnl
 have hb1:=(Below.refl w.heap.size w).alloc (Nat.le_refl _) (.cells #[v0,v1,v2,.slice A n c,v4,v5,v6] 27)
 have kT:=Blk.new w 27 #[v0,v1,v2,.slice A n c,v4,v5,v6]
 obtain ⟨W1,hW1⟩:∃ W,W=w.alloc (.cells #[v0,v1,v2,.slice A n c,v4,v5,v6] 27):=⟨_,rfl⟩
 have hsz1:W1.heap.size=w.heap.size+1:=tZ32
 rw [← hW1] at hb1 kT
 have q3:W1.cell? ⟨w.heap.size,3,none⟩=some (.slice A n c):=kT.cell 3
 have hrw:=hr.below (hb1.mono hB)
 have HB1:=Lib.hid hb1
 clear hnl hr kT hsz1 hb1
 go_enter Tryz.func33,Tryz.ntmps33
 go_wp2_with fail
 rw [← hW1]
 clear hW1
 go_loopw [5] (fun j wr=>∃ k:Nat,k≤n∧j=.int .i64 (k:Int)∧Hid (∀ y∈l.take k,(y.path == p)=false)∧wr=W1) (fun j _=>n-(intOf j).toNat)
 case atStart=>exact ⟨0,Nat.zero_le _,rfl,(show ∀ y∈_,_ by simp),rfl⟩
 case round =>
  obtain ⟨k,hk,rfl,hno,hww⟩:=hrel
  have hww:=hww.symm
  subst hww
  by_cases hlt:k<n
  ·have hki:(k:Int)<(n:Int):=tZ1
   have hkl:k<l.length:=tZ9
   obtain ⟨ad,rfl,-,c0,-⟩:=set_at hrw HN.out hlt
   obtain ⟨x,hx⟩:∃ x,x=l[k]'hkl:=⟨_,rfl⟩
   rw [← hx] at c0
   have htk:=List.take_succ_eq_append_getElem hkl
   rw [← hx] at htk
   have HTK:=Lib.hid htk
   have HX:=Lib.hid (show l[k]?=some x by rw [hx];exact List.getElem?_eq_getElem _)
   obtain ⟨xp,hxp⟩:∃ y,y=x.path:=⟨_,rfl⟩
   rw [← hxp] at c0
   have HXP:=Lib.hid hxp
   clear hx htk hrw hxp
   by_cases hxy:xp=p
   ·subst hxy
    go_wp2_with fail
    go_ret
    have hf:=firstP_eq (fun y:SetR=>y.path == xp) l k x hno.out HX.out (by show (x.path == xp)=true;rw [← HXP.out];simp)
    exact ⟨by show _=Ending.returned (.int .i64 (firstI (fun y:SetR=>y.path == xp) l));unfold firstI;rw [hf,if_pos hkl];rfl,HB1.out⟩
   ·have hd:(xp == p)=false:=tZ97
    have HD:Hid ((x.path == p)=false):=tZ118
    clear hxy
    go_wp2_with fail
    go_roundw
    case rel =>
     refine ⟨k+1,by omega,by go_num,?_,trivial⟩
     show ∀ z∈l.take (k+1),(z.path == p)=false
     exact mZ32
    case measure=>simp [intOf];omega
  ·have hkn:k=n:=tZ1
   have HF:Hid (findS l p=-1):=by
    show firstI (fun y:SetR=>y.path == p) l=_
    exact mZ31
   clear hrw hkn
   go_wp2_with fail
   go_ret
   exact ⟨by rw [HF.out];rfl,HB1.out⟩
set_option maxRecDepth 100000 in
set_option maxHeartbeats 1000000 in
theorem refSnap_any (v0 v1 v2 v4:Value) (l:List SnapR) (n:Nat) (hnl:n=l.length) (A:Option Addr) (c:Nat) (p:BS) (w:World) (B:Nat) (hr:Reads w B 5 A n (cellsK encSnap l)) (hB:B≤w.heap.size) (hn:n≤5000000000000) :
  Calls Tryz.prog 34 #[.agg #[v0,v1,v2,.slice A n c,v4],.string ⟨p.toArray⟩] w fun e w'=>e=.returned (.int .i64 (findN l p))∧Below w.heap.size w w':=by
 have HN:=Lib.hid hnl
 have hb1:=(Below.refl w.heap.size w).alloc (Nat.le_refl _) (.cells #[v0,v1,v2,.slice A n c,v4] 56)
 have kT:=Blk.new w 56 #[v0,v1,v2,.slice A n c,v4]
 obtain ⟨W1,hW1⟩:∃ W,W=w.alloc (.cells #[v0,v1,v2,.slice A n c,v4] 56):=⟨_,rfl⟩
 have hsz1:W1.heap.size=w.heap.size+1:=tZ32
 rw [← hW1] at hb1 kT
 have q3:W1.cell? ⟨w.heap.size,3,none⟩=some (.slice A n c):=kT.cell 3
 have hrw:=hr.below (hb1.mono hB)
 have HB1:=Lib.hid hb1
 clear hnl hr kT hsz1 hb1
 go_enter Tryz.func34,Tryz.ntmps34
 go_wp2_with fail
 rw [← hW1]
 clear hW1
 go_loopw [5] (fun j wr=>∃ k:Nat,k≤n∧j=.int .i64 (k:Int)∧Hid (∀ y∈l.take k,(y.nm == p)=false)∧wr=W1) (fun j _=>n-(intOf j).toNat)
 case atStart=>exact ⟨0,Nat.zero_le _,rfl,(show ∀ y∈_,_ by simp),rfl⟩
 case round =>
  obtain ⟨k,hk,rfl,hno,hww⟩:=hrel
  have hww:=hww.symm
  subst hww
  by_cases hlt:k<n
  ·have hki:(k:Int)<(n:Int):=tZ1
   have hkl:k<l.length:=tZ9
   obtain ⟨ad,rfl,-,c0,-⟩:=snap_at hrw HN.out hlt
   obtain ⟨x,hx⟩:∃ x,x=l[k]'hkl:=⟨_,rfl⟩
   rw [← hx] at c0
   have htk:=List.take_succ_eq_append_getElem hkl
   rw [← hx] at htk
   have HTK:=Lib.hid htk
   have HX:=Lib.hid (show l[k]?=some x by rw [hx];exact List.getElem?_eq_getElem _)
   obtain ⟨xp,hxp⟩:∃ y,y=x.nm:=⟨_,rfl⟩
   rw [← hxp] at c0
   have HXP:=Lib.hid hxp
   clear hx htk hrw hxp
   by_cases hxy:xp=p
   ·subst hxy
    go_wp2_with fail
    go_ret
    have hf:=firstP_eq (fun y:SnapR=>y.nm == xp) l k x hno.out HX.out (by show (x.nm == xp)=true;rw [← HXP.out];simp)
    exact ⟨by show _=Ending.returned (.int .i64 (firstI (fun y:SnapR=>y.nm == xp) l));unfold firstI;rw [hf,if_pos hkl];rfl,HB1.out⟩
   ·have hd:(xp == p)=false:=tZ97
    have HD:Hid ((x.nm == p)=false):=tZ118
    clear hxy
    go_wp2_with fail
    go_roundw
    case rel =>
     refine ⟨k+1,by omega,by go_num,?_,trivial⟩
     show ∀ z∈l.take (k+1),(z.nm == p)=false
     exact mZ32
    case measure=>simp [intOf];omega
  ·have hkn:k=n:=tZ1
   have HF:Hid (findN l p=-1):=by
    show firstI (fun y:SnapR=>y.nm == p) l=_
    exact mZ31
   clear hrw hkn
   go_wp2_with fail
   go_ret
   exact ⟨by rw [HF.out];rfl,HB1.out⟩
def prevS (l:List BS) (k:Nat):Option BS:=match k with
 | 0=>none
 | j+1=>l[j]?
set_option maxRecDepth 100000 in
set_option maxHeartbeats 2000000 in
theorem refTags_any (l:List BS) (n:Nat) (hnl:n=l.length) (A:Option Addr) (c:Nat) (w:World) (B:Nat) (hr:Reads w B 1 A n (scells l)) (hn:n≤5000000000000) (hv:∀ x∈l,x.length≤4000000000) :
  Calls Tryz.prog 171 #[.slice A n c] w fun e w'=>e=.returned (.bool (tagsB l))∧∃ q,w'=w.drewN q:=by
 have HN:=Lib.hid hnl
 obtain ⟨V,hV⟩:∃ V,V=tagsB l:=⟨_,rfl⟩
 have HVB:Hid (V=(decide (n≤4) && ascF none l)):=by show _=_;rw [hV];unfold tagsB;rw [hnl]
 rw [← hV]
 clear hnl hV
 go_enter Tryz.func171,Tryz.ntmps171
 go_wp2_with fail
 go_loopw [3] (fun j wr=>∃ k:Nat,k≤n∧j=.int .i64 (k:Int)∧Hid (ascF none l=ascF (prevS l k) (l.drop k))∧∃ p,wr=w.drewN p) (fun j _=>n-(intOf j).toNat)
 case atStart=>exact ⟨0,Nat.zero_le _,rfl,rfl,0,rfl⟩
 case round =>
  obtain ⟨k,hk,rfl,hok,p,rfl⟩:=hrel
  by_cases hlt:k<n
  ·obtain ⟨ad,rfl,hadB,c0⟩:=strs_at hr HN.out hlt
   have hki:(k:Int)<(n:Int):=tZ1
   have hkl:k<l.length:=tZ9
   obtain ⟨x,hx⟩:∃ x,x=l[k]'hkl:=⟨_,rfl⟩
   have hxl:=hv x tZ12
   rw [← hx] at c0
   have hdr:=List.drop_eq_getElem_cons hkl
   rw [← hx] at hdr
   have HX:=Lib.hid hx
   have HDR:=Lib.hid hdr
   simp only [strV] at c0
   have hbad:Hid ((nameB x=false∨(∃ y,prevS l k=some y∧Op.bytesLess y x=false))→V=false):=by
    show _→_
    intro h
    rw [HVB.out,hok.out,HDR.out,ascF_cons]
    rcases h with h | ⟨y,hy,h⟩
    ·rw [h];simp
    ·rw [hy];simp [h]
   have hgood:Hid (nameB x=true→(∀ y,prevS l k=some y→Op.bytesLess y x=true)→ascF none l=ascF (prevS l (k+1)) (l.drop (k+1))):=by
    show _→_→_
    intro h1 h3
    rw [hok.out,HDR.out]
    have hp:prevS l (k+1)=some x:=by
     show l[k]?=_
     rw [List.getElem?_eq_getElem hkl,← HX.out]
    rw [hp,ascF_cons,h1]
    cases hq:prevS l k with
    | none=>rfl
    | some y=>simp [h3 y hq]
   have hN:∀ m,Calls Tryz.prog 79 #[.string ⟨x.toArray⟩] (w.drewN (p+m)) fun e W'=>e=.returned (.bool (nameB x))∧∃ n,W'=w.drewN (p+n):=fun m=>quietN (refName_any x _ tZ1)
   clear hx hdr hok hxl hv
   obtain ⟨bn,hbn0⟩:∃ b,b=nameB x:=⟨_,rfl⟩
   rw [← hbn0] at hbad hgood hN
   clear hbn0
   cases bn with
   | false =>
    have HB:=Lib.hid (hbad.out (.inl rfl))
    clear hr hbad hgood
    go_wp2_with fail
    go_big_quiet ((go_at_call 79;exact hN _))
    clear hN
    exact mZ87
   | true =>
    rcases Nat.eq_zero_or_pos k with h0 | h0
    ·have HG:=Lib.hid (hgood.out rfl (fun y hy=>by subst h0;cases hy))
     have d4:decide ((0:Int)<(k:Int))=false:=tZ7
     have d4':decide (0<k)=false:=tZ7
     clear h0 hr hbad hgood
     go_wp2_with fail
     go_big_quiet ((go_at_call 79;exact hN _))
     clear hN
     exact mZ88
    ·have d4:decide ((0:Int)<(k:Int))=true:=tZ7
     have d4':decide (0<k)=true:=tZ7
     have hk1l:k-1<l.length:=tZ1
     obtain ⟨y,hy⟩:∃ y,y=l[k-1]'hk1l:=⟨_,rfl⟩
     have hpv:prevS l k=some y:=by
      exact mZ99
     obtain ⟨ad2,e2,-,c2⟩:=(strs_at hr HN.out (k:=k-1) tZ1)
     injection e2 with e2
     subst e2
     rw [← hy] at c2
     simp only [strV] at c2
     have i1:(1:Int)≤(k:Int):=tZ1
     have i2:(k:Int)-1<(n:Int):=tZ1
     have i3:IntKind.i64.wrap ((k:Int)-1)=(k:Int)-1:=IntWalk.i64_in _ tZ1
     have i4:((k:Int)-1).toNat=k-1:=tZ1
     have hleq:=leqS 9 x y
     cases hcmp:Op.bytesLess y x with
     | true =>
      have HG:=Lib.hid (hgood.out rfl (fun y' hy'=>by rw [hpv] at hy';cases hy';exact hcmp))
      have f1:(Op.bytesLess x y || x == y)=false:=by
       exact mZ89
      rw [f1] at hleq
      clear hr hbad hgood h0 hpv hy hcmp f1
      go_wp2_with fail
      go_big_quiet ((go_at_call 79;exact hN _))
      clear hN hleq
      exact mZ88
     | false =>
      have HB:=Lib.hid (hbad.out (.inr ⟨y,hpv,hcmp⟩))
      have f1:(Op.bytesLess x y || x == y)=true:=by
       by_cases e:x=y
       ·simp [e]
       ·rw [bl_tri y x hcmp (fun h=>e h.symm)];rfl
      rw [f1] at hleq
      clear hr hbad hgood h0 hpv hy hcmp f1
      go_wp2_with fail
      go_big_quiet ((go_at_call 79;exact hN _))
      clear hN hleq
      exact mZ87
  ·have hkn:k=n:=tZ1
   have hF:Hid (V=decide (n≤4)):=by
    show _=_
    rw [HVB.out,hok.out,List.drop_of_length_le tZ14]
    simp [ascF]
   clear hok hr hkn HVB
   by_cases h8:n≤4
   ·have hi8:(n:Int)≤(4:Int):=tZ1
    have HV:Hid (V=true):=by show _=_;rw [hF.out,decide_eq_true h8]
    exact mZ85
   ·have hi8:¬ (n:Int)≤(4:Int):=tZ1
    have HV:Hid (V=false):=by show _=_;rw [hF.out,decide_eq_false h8]
    exact mZ85
def ParPost (l:BS) (w:World) (e:Ending) (w':World):Prop:=Below w.heap.size w w' ∧
   ((l=[]∨pathB l=false)∧e=.returned (.tuple #[.string ⟨#[]⟩,.bool false]) ∨
    l≠[]∧pathB l=true∧e=.returned (.tuple #[.string ⟨(upL l).toArray⟩,.bool true]))
set_option maxRecDepth 100000 in
set_option maxHeartbeats 1000000 in
theorem refParent_any (s:ByteArray) (w:World) (hs:s.size≤4000000000) :
  Calls Tryz.prog 92 #[.string s] w (ParPost s.data.toList w):=by
 have hts:=Lib.hid (toList_data s)
 have hpa:=refPath_any s w hs
 by_cases hs0:s.data.toList=[]
 ·have h0:s=⟨#[]⟩:=by apply eq_mk;exact hs0
  subst h0
  clear hpa hts
  go_enter Tryz.func92,Tryz.ntmps92
  go_wp2_with fail
  refine bodyPost_ret (v:=.tuple #[.string ⟨#[]⟩,.bool false]) tZ69 rfl ⟨Below.refl _ _,.inl ⟨.inl rfl,rfl⟩⟩
 have HNE:=Lib.hid hs0
 have hie:s.toList.isEmpty=false:=by rw [hts.out];simpa using hs0
 have hie2:s.toList≠[]:=by rw [hts.out];exact hs0
 obtain ⟨bs,hbs0⟩:∃ b,b=pathB s.data.toList:=⟨_,rfl⟩
 rw [← hbs0] at hpa
 have HBS:=Lib.hid hbs0
 have hsp:=Lib.hid (lastS_spec s.data.toList)
 have hsz:=Lib.hid (Lib.size_eq s)
 clear hs0 hbs0
 cases bs with
 | false =>
  go_enter Tryz.func92,Tryz.ntmps92
  go_wp2_with fail
  refine hpa.mono ?_
  rintro e w1 ⟨rfl,hb1⟩
  go_wp2_with fail
  refine bodyPost_ret (v:=.tuple #[.string ⟨#[]⟩,.bool false]) tZ69 rfl ⟨hb1,.inl ⟨.inr HBS.out.symm,rfl⟩⟩
 | true =>
  have i3:IntKind.i64.wrap ((s.size:Int)-1)=(s.size:Int)-1:=IntWalk.i64_in _ tZ1
  go_enter Tryz.func92,Tryz.ntmps92
  go_wp2_with fail
  refine hpa.mono ?_
  rintro e w1 ⟨rfl,hb1⟩
  go_wp2_with fail
  clear i3 hpa
  go_loopw [4] (fun j wr=>∃ z:Int,-1≤z∧z≤(s.size:Int)-1∧j=.int .i64 z∧Hid (∀ k:Nat,z<(k:Int)→s.data.toList[k]?≠some 47)∧wr=w1) (fun j _=>(intOf j+1).toNat)
  case atStart =>
   refine ⟨(s.size:Int)-1,by omega,by omega,rfl,?_,rfl⟩
   show ∀ k:Nat,_→_
   intro k hk e
   have:=(List.getElem?_eq_some_iff.1 e).1
   have:=hsz.out
   omega
  case round =>
   obtain ⟨z,hz1,hz2,rfl,hok,hww⟩:=hrel
   have hww:=hww.symm
   subst hww
   by_cases hz:0≤z
   ·obtain ⟨k,rfl⟩:∃ k:Nat,z=(k:Int):=⟨z.toNat,by omega⟩
    have hks:k<s.size:=tZ1
    have hki:(k:Int)<(s.size:Int):=tZ1
    have hkl:k<s.data.toList.length:=tZ135
    obtain ⟨y,hy⟩:∃ y,y=s[k]'hks:=⟨_,rfl⟩
    have HY:=Lib.hid (show s.data.toList[k]?=some y by rw [List.getElem?_eq_getElem hkl,bget s k hks,hy])
    have hyv:((s[k]'hks).toNat:Int)=(y.toNat:Int):=by rw [hy]
    have hlt:=y.toNat_lt
    clear hy hz1 hz2
    by_cases h47:(y.toNat:Int)=47
    ·have hy47:y=47:=by
      apply UInt8.toNat_inj.1
      have e:(47:UInt8).toNat=47:=rfl
      omega
     have HU:Hid (upL s.data.toList=s.data.toList.take k):=by
      show _=_
      rcases hsp.out with ⟨_,h2⟩ | ⟨j,h1,h2,h3⟩
      ·exact absurd (by rw [← hy47];exact List.mem_of_getElem? HY.out) h2
      ·have hjk:j=k:=by
        rcases Nat.lt_trichotomy j k with h | h | h
        ·exact absurd (by rw [HY.out,hy47]) (h3 k h)
        ·exact h
        ·exact absurd h2 (hok.out j tZ1)
       unfold upL
       rw [h1,hjk]
       rfl
     have hks2:(k:Int)≤(s.size:Int):=tZ1
     clear hy47
     go_wp2_with fail
     have hv:s.extract 0 k=⟨(upL s.data.toList).toArray⟩:=by
      apply eq_mk
      rw [Lib.extract_from_zero,HU.out]
     refine bodyPost_ret (v:=.tuple #[.string ⟨(upL s.data.toList).toArray⟩,.bool true]) (by simp [results,Tryz.results92,go_sem,hv]) rfl ⟨hb1,.inr ⟨HNE.out,HBS.out.symm,rfl⟩⟩
    ·have hyb:((y.toNat:Int) == 47)=false:=by simpa using h47
     have HG:Hid (y≠47):=by
      show _≠_
      rintro rfl
      exact h47 rfl
     go_wp2_with fail
     go_roundw
     case rel =>
      refine ⟨(k:Int)-1,by omega,by omega,by go_num,?_,trivial⟩
      show ∀ k':Nat,_→_
      intro k' hk' e
      by_cases h:k'=k
      ·subst h
       rw [HY.out] at e
       exact HG.out (Option.some.inj e)
      ·exact hok.out k' tZ1 e
     case measure=>simp [intOf];try omega
   ·have HU:Hid (upL s.data.toList=[]):=by
     show _=_
     rcases hsp.out with ⟨h1,_⟩ | ⟨j,h1,h2,h3⟩
     ·unfold upL;rw [h1];rfl
     ·exact absurd h2 (hok.out j tZ1)
    go_wp2_with fail
    have HU2:=HU.out
    refine bodyPost_ret (v:=.tuple #[.string ⟨#[]⟩,.bool true]) tZ69 rfl ⟨hb1,.inr ⟨HNE.out,HBS.out.symm,by rw [HU2]⟩⟩
end Go.Proofs.YtiojfffgiejibaaGreatDoor
