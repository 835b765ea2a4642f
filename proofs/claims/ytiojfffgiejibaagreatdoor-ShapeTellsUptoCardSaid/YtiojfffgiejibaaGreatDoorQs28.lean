/-
  The page's Split, Begin, Entry, Stage, snaps: by their contracts.
-/
import Derived.Test.YtiojfffgiejibaaGreatDoorQsM1
import Derived.WalkKit
import Derived.WalkSpells
import Derived.Below
import Derived.Laws.OwnMore
import Derived.Deep.AppendLies
import Derived.Deep.Draws
import Derived.Laws.Rows
import Derived.Maps.AppendAt
import Derived.RegionTactic
import Derived.OwnWalk
import Derived.Deep.QuietTactic
import Derived.BigQuiet
import Derived.Lib.Hide
import Derived.Laws.CopyOwn
import Derived.IntWalk
import Derived.Test.YtiojfffgiejibaaGreatDoorRows
import Derived.Handy
import Derived.Deep.Quiet
import Derived.Orders
import Derived.Lib.SplitLaws
import Derived.Lib.LastIndexByte
import Derived.Lib.Strings
import Derived.ShutString
import Derived.Sort.Walk0
import Derived.Sort.KeysCollected
import Derived.Shelf.Strings.Search1
import Derived.Shelf.Strings.Search2
import Derived.Shelf.Strings.Search3
import Derived.Shelf.Strings.Cut
import Derived.Shelf.Strings.Count
import Derived.Shelf.LaysM
import Derived.Shelf.Strings.Shaped
import Derived.Shelf.Strings.LastIndex
import Derived.Shelf.Strings.Split
import Derived.Shelf.Strings.SplitShaped
import Derived.Shelf.Unicode.Decode
import Derived.Shelf.Strings.RuneCount
import Derived.Shelf.Strings.Explode
import Derived.Shelf.Unicode.DecodeSlow
import Derived.Shelf.Slices.Turned
import Derived.Test.YtiojfffgiejibaaGreatDoorProg
import Derived.Laws.BytesString
import Derived.Laws.IdiomStrings
import Derived.Lib.ConvBytes
import Derived.Deep.MidRow
import Derived.Test.YtiojfffgiejibaaGreatDoorQ0
import Derived.Test.YtiojfffgiejibaaGreatDoorQs1
import Derived.Test.YtiojfffgiejibaaGreatDoorQs2
import Derived.Test.YtiojfffgiejibaaGreatDoorQs4
import Derived.Test.YtiojfffgiejibaaGreatDoorQs5
import Derived.Test.YtiojfffgiejibaaGreatDoorQs6
import Derived.Test.YtiojfffgiejibaaGreatDoorQs7
import Derived.Test.YtiojfffgiejibaaGreatDoorQs8
import Derived.Test.YtiojfffgiejibaaGreatDoorQs9
import Derived.Test.YtiojfffgiejibaaGreatDoorQs10
import Derived.Test.YtiojfffgiejibaaGreatDoorQs11
import Derived.Test.YtiojfffgiejibaaGreatDoorQs12
import Derived.Test.YtiojfffgiejibaaGreatDoorQs13
import Derived.Test.YtiojfffgiejibaaGreatDoorQs16
import Derived.Test.YtiojfffgiejibaaGreatDoorQs25
import Derived.Test.YtiojfffgiejibaaGreatDoorQs27
namespace Go.Proofs.YtiojfffgiejibaaGreatDoor
open Go.RowKit
theorem atL_at (l:BS) (k:Nat) (h:∀ j,j<k→l[j]?≠some 64) (hk:l[k]?=some 64):atL l=some (l.take k,l.drop (k+1)):=by
 obtain ⟨hlt,hg⟩:=List.getElem?_eq_some_iff.1 hk
 have e:l=l.take k++64 :: l.drop (k+1):=by
  conv=>lhs;rw [← List.take_append_drop k l,List.drop_eq_getElem_cons hlt,hg]
 conv=>lhs;rw [e]
 refine atL_join _ _ ?_
 rintro c hc rfl
 obtain ⟨j,hj,e2⟩:=List.mem_iff_getElem.1 hc
 rw [List.getElem_take] at e2
 rw [List.length_take] at hj
 exact h j tZ1 (by rw [List.getElem?_eq_getElem tZ1,e2])
set_option maxRecDepth 100000 in
set_option maxHeartbeats 1000000 in
theorem refSplit_any (s:ByteArray) (w:World) (hs:s.size≤4000000000) :
  Calls Tryz.prog 104 #[.string s] w fun e w'=>e=.returned (splitV s.data.toList)∧Below w.heap.size w w':=by
 have hsz:=Lib.hid (Lib.size_eq s)
 obtain ⟨V,hV⟩:∃ V,V=splitV s.data.toList:=⟨_,rfl⟩
 rw [← hV]
 have HV:=Lib.hid hV
 clear hV
 go_enter Tryz.func104,Tryz.ntmps104
 go_wp2_with fail
 go_loopw [5] (fun j wr=>∃ k:Nat,k≤s.size∧j=.int .i64 (k:Int)∧Hid (∀ j,j<k→s.data.toList[j]?≠some 64)∧wr=w) (fun j _=>s.size-(intOf j).toNat)
 case atStart=>exact ⟨0,Nat.zero_le _,rfl,(fun j hj=>absurd hj tZ1),rfl⟩
 case round =>
  obtain ⟨k,hk,rfl,hok,hww⟩:=hrel
  have hww:=hww.symm
  subst hww
  by_cases hlt:k<s.size
  ·have hki:(k:Int)<(s.size:Int):=tZ1
   have hkl:k<s.data.toList.length:=tZ135
   obtain ⟨y,hy⟩:∃ y,y=s[k]'hlt:=⟨_,rfl⟩
   have HY:=Lib.hid (show s.data.toList[k]?=some y by rw [List.getElem?_eq_getElem hkl,bget s k hlt,hy])
   have hyv:((s[k]'hlt).toNat:Int)=(y.toNat:Int):=by rw [hy]
   have hylt:=y.toNat_lt
   clear hy
   by_cases h64:(y.toNat:Int)=64
   ·have hy64:y=64:=by
     apply UInt8.toNat_inj.1
     have e:(64:UInt8).toNat=64:=rfl
     omega
    have HA:=Lib.hid (atL_at s.data.toList k hok.out (by rw [HY.out,hy64]))
    obtain ⟨P,hP⟩:∃ P,P=s.extract 0 k:=⟨_,rfl⟩
    obtain ⟨N,hN⟩:∃ N,N=s.extract (k+1) s.size:=⟨_,rfl⟩
    have hPd:P.data.toList=s.data.toList.take k:=by rw [hP,Lib.extract_from_zero]
    have hNd:N.data.toList=s.data.toList.drop (k+1):=by
     rw [hN,extract_mk]
     show ((s.data.toList.drop (k+1)).take (s.size-(k+1)))=_
     rw [List.take_of_length_le (by rw [List.length_drop];have:=hsz.out;omega)]
    have hp1:=refPath_any P w (by have:=Lib.size_eq P;rw [hPd,List.length_take] at this;omega)
    have hp2:=fun W=>refName_s N W (by have:=Lib.size_eq N;rw [hNd,List.length_drop] at this;have:=hsz.out;omega)
    have HVV:Hid (V=if (pathB P.data.toList && nameB N.data.toList)=true then .tuple #[.string P,.string N,.int .i64 0] else .tuple #[.string ⟨#[]⟩,.string ⟨#[]⟩,.int .i64 31]):=by
     show _=_
     rw [HV.out]
     unfold splitV
     rw [HA.out]
     simp only [← hPd,← hNd]
     try congr 1
    obtain ⟨b1,hb1⟩:∃ b,b=pathB P.data.toList:=⟨_,rfl⟩
    obtain ⟨b2,hb2⟩:∃ b,b=nameB N.data.toList:=⟨_,rfl⟩
    rw [← hb1] at hp1 HVV
    rw [← hb2] at hp2 HVV
    have hk1:(k:Int)≤(s.size:Int):=tZ1
    have hk2:(k:Int)+1≤(s.size:Int):=tZ1
    have hw1:IntKind.i64.wrap ((k:Int)+1)=(k:Int)+1:=IntWalk.i64_in _ tZ1
    have hn1:((k:Int)+1).toNat=k+1:=tZ1
    have HPP:=Lib.hid hP
    have HNN:=Lib.hid hN
    clear hb1 hb2 hPd hNd hy64
    cases b1 with
    | false =>
     have HVF:Hid (V=.tuple #[.string ⟨#[]⟩,.string ⟨#[]⟩,.int .i64 31]):=tZ106
     go_wp2_with fail
     rw [← hP]
     refine hp1.mono ?_
     rintro e w1 ⟨rfl,hb3⟩
     exact mZ146
    | true =>
     go_wp2_with fail
     rw [← hP]
     refine hp1.mono ?_
     rintro e w1 ⟨rfl,hb3⟩
     go_wp2_with fail
     rw [← hN]
     refine (hp2 _).mono ?_
     rintro e w2 ⟨rfl,rfl⟩
     cases b2 with
     | false =>
      have HVF:Hid (V=.tuple #[.string ⟨#[]⟩,.string ⟨#[]⟩,.int .i64 31]):=tZ106
      exact mZ146
     | true =>
      have HVF:Hid (V=.tuple #[.string P,.string N,.int .i64 0]):=tZ106
      clear hP hN
      go_wp2_with fail
      go_big_quiet (fail)
      go_wp2_with fail
      refine bodyPost_ret (v:=.tuple #[.string P,.string N,.int .i64 0]) (by simp [results,Tryz.results104,go_sem,HPP.out,HNN.out]) rfl ⟨by rw [HVF.out],below_drewN hb3 _⟩
   ·have hyb:((y.toNat:Int) == 64)=false:=by simpa using h64
    have HG:Hid (y≠64):=by
     show _≠_
     rintro rfl
     exact h64 rfl
    go_wp2_with fail
    go_roundw
    case rel =>
     refine ⟨k+1,by omega,by go_num,?_,trivial⟩
     show ∀ j,_→_
     intro j hj e
     by_cases h:j=k
     ·subst h
      rw [HY.out] at e
      exact HG.out (Option.some.inj e)
     ·exact hok.out j tZ1 e
    case measure=>simp [intOf];try omega
  ·have HVF:Hid (V=.tuple #[.string ⟨#[]⟩,.string ⟨#[]⟩,.int .i64 31]):=by
    show _=_
    rw [HV.out]
    unfold splitV
    rw [atL_none]
    intro h
    obtain ⟨j,hj,e⟩:=List.mem_iff_getElem.1 h
    exact hok.out j tZ135 (by rw [List.getElem?_eq_getElem hj,e])
   go_wp2_with fail
   refine bodyPost_ret (v:=.tuple #[.string ⟨#[]⟩,.string ⟨#[]⟩,.int .i64 31]) tZ112 rfl ⟨by rw [HVF.out],Below.refl _ _⟩
theorem refPropsB_any (l:List (BS×BS)) (n:Nat) (hnl:n=l.length) (A:Option Addr) (c:Nat) (w:World) (B:Nat) (hr:Reads w B 2 A n (pcells l)) (hn:n≤1000000000000) (hv:∀ x∈l,x.1.length≤4000000000∧x.2.length≤4000000000) :
  Calls Tryz.prog 154 #[.slice A n c] w fun e w'=>e=.returned (.int .i64 (if propsB l=true then 0 else 9))∧Below w.heap.size w w':=by
 refine (refProps_any l n hnl A c w B hr tZ1 (fun x hx=>by have:=hv x hx;omega)).mono ?_
 exact mZ147
theorem refCheckB_any (l:List BlkT) (n:Nat) (hnl:n=l.length) (A:Option Addr) (c:Nat) (w:World) (B:Nat) (hr:Reads w B 2 A n (bcells l)) (hn:n≤1000000000000) :
  Calls Tryz.prog 153 #[.slice A n c] w fun e w'=>e=.returned (.int .i64 (if okL l=true then 0 else 9))∧Below w.heap.size w w':=by
 refine (rcheckq_any l n hnl A c w B hr tZ1).mono ?_
 exact mZ147
theorem refTagsB_any (l:List BS) (n:Nat) (hnl:n=l.length) (A:Option Addr) (c:Nat) (w:World) (B:Nat) (hr:Reads w B 1 A n (scells l)) (hn:n≤1000000000000) (hv:∀ x∈l,x.length≤4000000000) :
  Calls Tryz.prog 171 #[.slice A n c] w fun e w'=>e=.returned (.bool (tagsB l))∧Below w.heap.size w w':=by
 refine (refTags_any l n hnl A c w B hr tZ1 hv).mono ?_
 exact mZ147
set_option maxRecDepth 100000 in
set_option maxHeartbeats 4000000 in
theorem refBegin_any (kind:Int) (nm:BS) (frm gd:Int) (ol:List (BS×BS)) (n:Nat) (hnl:n=ol.length) (A:Option Addr) (c:Nat) (ix ct:Int) (dt:BS) (sa sb sc sd:Int) (w:World) (B:Nat) (hr:Reads w B 2 A n (pcells ol)) (hB:B≤w.heap.size) (hn:n≤1000000000000) (hnm:nm.length≤4000000000) (hp:∀ p∈ol,p.1.length≤4000000000∧p.2.length≤4000000000) :
  Calls Tryz.prog 156 #[.agg #[.int .i64 kind,.string ⟨nm.toArray⟩,.int .i64 frm,.int .i64 gd,.slice A n c,.int .i64 ix,.int .i64 ct,.string ⟨dt.toArray⟩,.int .u64 sa,.int .u64 sb,.int .u64 sc,.int .u64 sd]] w fun e w'=>e=.returned (.bool (beginP kind nm frm gd ol ix ct dt ⟨sa,sb,sc,sd⟩))∧Below w.heap.size w w':=by
 have hb1:=(Below.refl w.heap.size w).alloc (Nat.le_refl _) (.cells #[.int .i64 kind,.string ⟨nm.toArray⟩,.int .i64 frm,.int .i64 gd,.slice A n c,.int .i64 ix,.int .i64 ct,.string ⟨dt.toArray⟩,.int .u64 sa,.int .u64 sb,.int .u64 sc,.int .u64 sd] 75)
 have kT:=Blk.new w 75 #[.int .i64 kind,.string ⟨nm.toArray⟩,.int .i64 frm,.int .i64 gd,.slice A n c,.int .i64 ix,.int .i64 ct,.string ⟨dt.toArray⟩,.int .u64 sa,.int .u64 sb,.int .u64 sc,.int .u64 sd]
 obtain ⟨W1,hW1⟩:∃ W,W=w.alloc (.cells #[.int .i64 kind,.string ⟨nm.toArray⟩,.int .i64 frm,.int .i64 gd,.slice A n c,.int .i64 ix,.int .i64 ct,.string ⟨dt.toArray⟩,.int .u64 sa,.int .u64 sb,.int .u64 sc,.int .u64 sd] 75):=⟨_,rfl⟩
 have hsz1:W1.heap.size=w.heap.size+1:=tZ32
 rw [← hW1] at hb1 kT
 have hT:=Lib.hid (fun (W':World) (hB':Below W1.heap.size W1 W')=>(⟨(kT.below hB' tZ1).cell 0,(kT.below hB' tZ1).cell 1,(kT.below hB' tZ1).cell 2,(kT.below hB' tZ1).cell 3,(kT.below hB' tZ1).cell 4,(kT.below hB' tZ1).cell 5,(kT.below hB' tZ1).cell 6,(kT.below hB' tZ1).cell 7,(kT.below hB' tZ1).cell 8,(kT.below hB' tZ1).cell 9,(kT.below hB' tZ1).cell 10,(kT.below hB' tZ1).cell 11⟩:W'.cell? ⟨w.heap.size,0,none⟩=some (.int .i64 kind)∧W'.cell? ⟨w.heap.size,1,none⟩=some (.string ⟨nm.toArray⟩)∧W'.cell? ⟨w.heap.size,2,none⟩=some (.int .i64 frm)∧W'.cell? ⟨w.heap.size,3,none⟩=some (.int .i64 gd)∧W'.cell? ⟨w.heap.size,4,none⟩=some (.slice A n c)∧W'.cell? ⟨w.heap.size,5,none⟩=some (.int .i64 ix)∧W'.cell? ⟨w.heap.size,6,none⟩=some (.int .i64 ct)∧W'.cell? ⟨w.heap.size,7,none⟩=some (.string ⟨dt.toArray⟩)∧W'.cell? ⟨w.heap.size,8,none⟩=some (.int .u64 sa)∧W'.cell? ⟨w.heap.size,9,none⟩=some (.int .u64 sb)∧W'.cell? ⟨w.heap.size,10,none⟩=some (.int .u64 sc)∧W'.cell? ⟨w.heap.size,11,none⟩=some (.int .u64 sd)))
 have hrw:∀ W',Below W1.heap.size W1 W'→Reads W' B 2 A n (pcells ol):=fun W' hb=>hr.below ((hb1.trans (hb.mono tZ1)).mono hB)
 have hN:Hid (∀ W,Below W1.heap.size W1 W→Calls Tryz.prog 79 #[.string ⟨nm.toArray⟩] W fun e W'=>e=.returned (.bool (nameB nm))∧Below W.heap.size W W'):=fun W _=>refNameB_any nm W hnm
 have hA0:Hid (∀ W,Below W1.heap.size W1 W→Calls Tryz.prog 113 #[.int .i64 frm,.int .i64 0] W fun e W'=>e=.returned (.bool (amt frm 0))∧Below W.heap.size W W'):=fun W _=>refAmountB_any frm 0 W
 have hA1:Hid (∀ W,Below W1.heap.size W1 W→Calls Tryz.prog 113 #[.int .i64 gd,.int .i64 1] W fun e W'=>e=.returned (.bool (amt gd 1))∧Below W.heap.size W W'):=fun W _=>refAmountB_any gd 1 W
 have hPr:Hid (∀ W,Below W1.heap.size W1 W→Calls Tryz.prog 154 #[.slice A n c] W fun e W'=>e=.returned (.int .i64 (if propsB ol=true then 0 else 9))∧Below W.heap.size W W'):=fun W hb=>refPropsB_any ol n hnl A c W B (hrw W hb) hn hp
 have HV:Hid (beginP kind nm frm gd ol ix ct dt ⟨sa,sb,sc,sd⟩=(decide (kind=1) && (nameB nm && (amt frm 0 && (amt gd 1 && (propsB ol && (decide (ix=0) && (decide (ct=0) && (decide (dt=[]) && decide (sa=0∧sb=0∧sc=0∧sd=0)))))))))):=by
  show _=_
  unfold beginP smZ
  simp only [Bool.and_assoc]
 obtain ⟨V,hV⟩:∃ V,V=beginP kind nm frm gd ol ix ct dt ⟨sa,sb,sc,sd⟩:=⟨_,rfl⟩
 obtain ⟨bN,hbN⟩:∃ V,V=nameB nm:=⟨_,rfl⟩
 obtain ⟨bA,hbA⟩:∃ V,V=amt frm 0:=⟨_,rfl⟩
 obtain ⟨bG,hbG⟩:∃ V,V=amt gd 1:=⟨_,rfl⟩
 obtain ⟨bP,hbP⟩:∃ V,V=propsB ol:=⟨_,rfl⟩
 rw [← hV] at HV ⊢
 rw [← hbN] at HV hN
 rw [← hbA] at HV hA0
 rw [← hbG] at HV hA1
 rw [← hbP] at HV hPr
 have HB1:=Lib.hid hb1
 have HSZ1:=Lib.hid hsz1
 clear hV hbN hbA hbG hbP hr hrw hnl hb1 hsz1 kT hp
 have hW0:=Below.refl W1.heap.size W1
 by_cases hk:kind=1
 ·subst hk
  go_enter Tryz.func156,Tryz.ntmps156
  exact mZ58
 ·have hkb:(kind == 1)=false:=by simpa using hk
  have HB:Hid (V=false):=tZ96
  go_enter Tryz.func156,Tryz.ntmps156
  exact mZ47
set_option maxRecDepth 100000 in
set_option maxHeartbeats 2000000 in
theorem refEntry_any (us:BS) (kd:Int) (pa:BS) (er:Int) (w:World) (hus:us.length≤4000000000) (hpa:pa.length≤4000000000) :
  Calls Tryz.prog 117 #[.agg #[.string ⟨us.toArray⟩,.int .i64 kd,.string ⟨pa.toArray⟩,.int .i64 er]] w fun e w'=>e=.returned (.bool (entryP us kd pa er))∧Below w.heap.size w w':=by
 have hb1:=(Below.refl w.heap.size w).alloc (Nat.le_refl _) (.cells #[.string ⟨us.toArray⟩,.int .i64 kd,.string ⟨pa.toArray⟩,.int .i64 er] 106)
 have kT:=Blk.new w 106 #[.string ⟨us.toArray⟩,.int .i64 kd,.string ⟨pa.toArray⟩,.int .i64 er]
 obtain ⟨W1,hW1⟩:∃ W,W=w.alloc (.cells #[.string ⟨us.toArray⟩,.int .i64 kd,.string ⟨pa.toArray⟩,.int .i64 er] 106):=⟨_,rfl⟩
 have hsz1:W1.heap.size=w.heap.size+1:=tZ32
 rw [← hW1] at hb1 kT
 have hT:=Lib.hid (fun (W':World) (hB':Below W1.heap.size W1 W')=>(⟨(kT.below hB' tZ1).cell 0,(kT.below hB' tZ1).cell 1,(kT.below hB' tZ1).cell 2,(kT.below hB' tZ1).cell 3⟩:W'.cell? ⟨w.heap.size,0,none⟩=some (.string ⟨us.toArray⟩)∧W'.cell? ⟨w.heap.size,1,none⟩=some (.int .i64 kd)∧W'.cell? ⟨w.heap.size,2,none⟩=some (.string ⟨pa.toArray⟩)∧W'.cell? ⟨w.heap.size,3,none⟩=some (.int .i64 er)))
 have hN:Hid (∀ W,Below W1.heap.size W1 W→Calls Tryz.prog 79 #[.string ⟨us.toArray⟩] W fun e W'=>e=.returned (.bool (nameB us))∧Below W.heap.size W W'):=fun W _=>refNameB_any us W hus
 have hP:Hid (∀ W,Below W1.heap.size W1 W→Calls Tryz.prog 75 #[.string ⟨pa.toArray⟩] W fun e W'=>e=.returned (.bool (pathB pa))∧Below W.heap.size W W'):=fun W hb=>refPath_any ⟨pa.toArray⟩ W tZ144
 have hA0:Hid (∀ W,Below W1.heap.size W1 W→Calls Tryz.prog 113 #[.int .i64 kd,.int .i64 0] W fun e W'=>e=.returned (.bool (amt kd 0))∧Below W.heap.size W W'):=fun W _=>refAmountB_any kd 0 W
 have hA1:Hid (∀ W,Below W1.heap.size W1 W→Calls Tryz.prog 113 #[.int .i64 er,.int .i64 0] W fun e W'=>e=.returned (.bool (amt er 0))∧Below W.heap.size W W'):=fun W _=>refAmountB_any er 0 W
 have HV:Hid ((entryP us kd pa er)=((us == [] || nameB us) && (pathB pa && (amt kd 0 && amt er 0)))):=by
  show _=_
  unfold entryP
  simp only [Bool.and_assoc]
 obtain ⟨V,hV⟩:∃ V,V=(entryP us kd pa er):=⟨_,rfl⟩
 obtain ⟨bN,hbN⟩:∃ V,V=nameB us:=⟨_,rfl⟩
 obtain ⟨bP,hbP⟩:∃ V,V=pathB pa:=⟨_,rfl⟩
 obtain ⟨bA,hbA⟩:∃ V,V=amt kd 0:=⟨_,rfl⟩
 obtain ⟨bX,hbX⟩:∃ V,V=amt er 0:=⟨_,rfl⟩
 rw [← hV] at HV ⊢
 rw [← hbN] at HV hN
 rw [← hbP] at HV hP
 rw [← hbA] at HV hA0
 rw [← hbX] at HV hA1
 have HB1:=Lib.hid hb1
 have HSZ1:=Lib.hid hsz1
 clear hV hbN hbA hbP hbX hb1 hsz1 kT
 have hW0:=Below.refl W1.heap.size W1
 by_cases hu:us=[]
 ·subst hu
  have HV:Hid (V=(true && (bP && (bA && bX)))):=tZ10
  go_enter Tryz.func117,Tryz.ntmps117
  have hc:=hP.out _ hW0
  cases bP with
  | false =>
   exact mZ148
  | true =>
   go_wp2_with fail
   rw [← hW1]
   refine hc.mono ?_
   clear hc
   rintro e w11 ⟨rfl,hbw11⟩
   have hWw11:=hW0.trans (hbw11.mono hW0.size)
   clear hbw11
   obtain ⟨t0,t1,t2,t3⟩:=hT.out _ hWw11
   have hc:=hA0.out _ hWw11
   cases bA with
   | false =>
    exact mZ149
   | true =>
    go_wp2_with fail
    refine hc.mono ?_
    clear hc
    rintro e w12 ⟨rfl,hbw12⟩
    have hWw12:=hWw11.trans (hbw12.mono hWw11.size)
    clear hbw12
    obtain ⟨t0,t1,t2,t3⟩:=hT.out _ hWw12
    have hc:=hA1.out _ hWw12
    cases bX with
    | false =>
     exact mZ110
    | true =>
     exact mZ107
 ·have hu1:(us == [])=false:=by simpa using hu
  have hu2:us.isEmpty=false:=by cases us <;> simp_all
  have HV:Hid (V=(bN && (bP && (bA && bX)))):=tZ145
  clear hu
  go_enter Tryz.func117,Tryz.ntmps117
  have hc:=hN.out _ hW0
  cases bN with
  | false =>
   exact mZ148
  | true =>
   go_wp2_with fail
   rw [← hW1]
   refine hc.mono ?_
   clear hc
   rintro e w11 ⟨rfl,hbw11⟩
   have hWw11:=hW0.trans (hbw11.mono hW0.size)
   clear hbw11
   obtain ⟨t0,t1,t2,t3⟩:=hT.out _ hWw11
   have hc:=hP.out _ hWw11
   cases bP with
   | false =>
    exact mZ149
   | true =>
    go_wp2_with fail
    refine hc.mono ?_
    clear hc
    rintro e w12 ⟨rfl,hbw12⟩
    have hWw12:=hWw11.trans (hbw12.mono hWw11.size)
    clear hbw12
    obtain ⟨t0,t1,t2,t3⟩:=hT.out _ hWw12
    have hc:=hA0.out _ hWw12
    cases bA with
    | false =>
     exact mZ110
    | true =>
     go_wp2_with fail
     refine hc.mono ?_
     clear hc
     rintro e w13 ⟨rfl,hbw13⟩
     have hWw13:=hWw12.trans (hbw13.mono hWw12.size)
     clear hbw13
     obtain ⟨t0,t1,t2,t3⟩:=hT.out _ hWw13
     have hc:=hA1.out _ hWw13
     cases bX with
     | false =>
      exact mZ109
     | true =>
      exact mZ108
set_option maxRecDepth 100000 in
set_option maxHeartbeats 4000000 in
theorem refStage_any (into:BS) (kind:Int) (nm:BS) (frm gd:Int) (o1:Option Addr) (o2 o3:Nat) (ol:List (BS×BS)) (ix ct:Int) (dt:BS) (sa sb sc sd:Int) (b1:Option Addr) (b2 b3:Nat) (bl:List BlkT) (at_ nx ua ub uc ud:Int) (done:Bool) (w:World) (B:Nat) (hro:Reads w B 2 o1 o2 (pcells ol)) (hol:o2=ol.length) (hrb:Reads w B 2 b1 b2 (bcells bl)) (hbl:b2=bl.length) (hB:B≤w.heap.size)
  (hin:into.length≤4000000000) (hnm:nm.length≤4000000000) (ho2:o2≤1000000000000) (hb2:b2≤1000000000000) (hp:∀ p∈ol,p.1.length≤4000000000∧p.2.length≤4000000000) :
  Calls Tryz.prog 116 #[.agg #[.string ⟨into.toArray⟩,.int .i64 kind,.string ⟨nm.toArray⟩,.int .i64 frm,.int .i64 gd,.slice o1 o2 o3,.int .i64 ix,.int .i64 ct,.string ⟨dt.toArray⟩,.int .u64 sa,.int .u64 sb,.int .u64 sc,.int .u64 sd,.slice b1 b2 b3,.int .i64 at_,.int .i64 nx,.int .u64 ua,.int .u64 ub,.int .u64 uc,.int .u64 ud,.bool done]] w fun e w'=>e=.returned (.bool (!(into == []) && pathB into && beginP kind nm frm gd ol ix ct dt ⟨sa,sb,sc,sd⟩ && okL bl && amt at_ 0 && amt nx 0))∧Below w.heap.size w w':=by
 have hb1:=(Below.refl w.heap.size w).alloc (Nat.le_refl _) (.cells #[.string ⟨into.toArray⟩,.int .i64 kind,.string ⟨nm.toArray⟩,.int .i64 frm,.int .i64 gd,.slice o1 o2 o3,.int .i64 ix,.int .i64 ct,.string ⟨dt.toArray⟩,.int .u64 sa,.int .u64 sb,.int .u64 sc,.int .u64 sd,.slice b1 b2 b3,.int .i64 at_,.int .i64 nx,.int .u64 ua,.int .u64 ub,.int .u64 uc,.int .u64 ud,.bool done] 77)
 have kT:=Blk.new w 77 #[.string ⟨into.toArray⟩,.int .i64 kind,.string ⟨nm.toArray⟩,.int .i64 frm,.int .i64 gd,.slice o1 o2 o3,.int .i64 ix,.int .i64 ct,.string ⟨dt.toArray⟩,.int .u64 sa,.int .u64 sb,.int .u64 sc,.int .u64 sd,.slice b1 b2 b3,.int .i64 at_,.int .i64 nx,.int .u64 ua,.int .u64 ub,.int .u64 uc,.int .u64 ud,.bool done]
 obtain ⟨W1,hW1⟩:∃ W,W=w.alloc (.cells #[.string ⟨into.toArray⟩,.int .i64 kind,.string ⟨nm.toArray⟩,.int .i64 frm,.int .i64 gd,.slice o1 o2 o3,.int .i64 ix,.int .i64 ct,.string ⟨dt.toArray⟩,.int .u64 sa,.int .u64 sb,.int .u64 sc,.int .u64 sd,.slice b1 b2 b3,.int .i64 at_,.int .i64 nx,.int .u64 ua,.int .u64 ub,.int .u64 uc,.int .u64 ud,.bool done] 77):=⟨_,rfl⟩
 have hsz1:W1.heap.size=w.heap.size+1:=tZ32
 rw [← hW1] at hb1 kT
 have hT:=Lib.hid (fun (W':World) (hB':Below W1.heap.size W1 W')=>(⟨(kT.below hB' tZ1).cell 0,(kT.below hB' tZ1).cell 1,(kT.below hB' tZ1).cell 2,(kT.below hB' tZ1).cell 3,(kT.below hB' tZ1).cell 4,(kT.below hB' tZ1).cell 5,(kT.below hB' tZ1).cell 6,(kT.below hB' tZ1).cell 7,(kT.below hB' tZ1).cell 8,(kT.below hB' tZ1).cell 9,(kT.below hB' tZ1).cell 10,(kT.below hB' tZ1).cell 11,(kT.below hB' tZ1).cell 12,(kT.below hB' tZ1).cell 13,(kT.below hB' tZ1).cell 14,(kT.below hB' tZ1).cell 15⟩:W'.cell? ⟨w.heap.size,0,none⟩=some (.string ⟨into.toArray⟩)∧W'.cell? ⟨w.heap.size,1,none⟩=some (.int .i64 kind)∧W'.cell? ⟨w.heap.size,2,none⟩=some (.string ⟨nm.toArray⟩)∧W'.cell? ⟨w.heap.size,3,none⟩=some (.int .i64 frm)∧W'.cell? ⟨w.heap.size,4,none⟩=some (.int .i64 gd)∧W'.cell? ⟨w.heap.size,5,none⟩=some (.slice o1 o2 o3)∧W'.cell? ⟨w.heap.size,6,none⟩=some (.int .i64 ix)∧W'.cell? ⟨w.heap.size,7,none⟩=some (.int .i64 ct)∧W'.cell? ⟨w.heap.size,8,none⟩=some (.string ⟨dt.toArray⟩)∧W'.cell? ⟨w.heap.size,9,none⟩=some (.int .u64 sa)∧W'.cell? ⟨w.heap.size,10,none⟩=some (.int .u64 sb)∧W'.cell? ⟨w.heap.size,11,none⟩=some (.int .u64 sc)∧W'.cell? ⟨w.heap.size,12,none⟩=some (.int .u64 sd)∧W'.cell? ⟨w.heap.size,13,none⟩=some (.slice b1 b2 b3)∧W'.cell? ⟨w.heap.size,14,none⟩=some (.int .i64 at_)∧W'.cell? ⟨w.heap.size,15,none⟩=some (.int .i64 nx)))
 have hrw:∀ W',Below W1.heap.size W1 W'→Reads W' B 2 o1 o2 (pcells ol)∧Reads W' B 2 b1 b2 (bcells bl):=fun W' hb=>⟨hro.below ((hb1.trans (hb.mono tZ1)).mono hB),hrb.below ((hb1.trans (hb.mono tZ1)).mono hB)⟩
 have hPa:Hid (∀ W,Below W1.heap.size W1 W→Calls Tryz.prog 75 #[.string ⟨into.toArray⟩] W fun e W'=>e=.returned (.bool (pathB into))∧Below W.heap.size W W'):=fun W _=>refPath_any ⟨into.toArray⟩ W (by show into.length≤_;exact hin)
 have hBg:Hid (∀ W,Below W1.heap.size W1 W→Calls Tryz.prog 156 #[.agg #[.int .i64 kind,.string ⟨nm.toArray⟩,.int .i64 frm,.int .i64 gd,.slice o1 o2 o3,.int .i64 ix,.int .i64 ct,.string ⟨dt.toArray⟩,.int .u64 sa,.int .u64 sb,.int .u64 sc,.int .u64 sd]] W fun e W'=>e=.returned (.bool (beginP kind nm frm gd ol ix ct dt ⟨sa,sb,sc,sd⟩))∧Below W.heap.size W W'):=fun W hb =>
  refBegin_any kind nm frm gd ol o2 hol o1 o3 ix ct dt sa sb sc sd W B (hrw W hb).1 tZ20 ho2 hnm hp
 have hBk:Hid (∀ W,Below W1.heap.size W1 W→Calls Tryz.prog 153 #[.slice b1 b2 b3] W fun e W'=>e=.returned (.int .i64 (if okL bl=true then 0 else 9))∧Below W.heap.size W W'):=fun W hb =>
  refCheckB_any bl b2 hbl b1 b3 W B (hrw W hb).2 hb2
 have hA0:Hid (∀ W,Below W1.heap.size W1 W→Calls Tryz.prog 113 #[.int .i64 at_,.int .i64 0] W fun e W'=>e=.returned (.bool (amt at_ 0))∧Below W.heap.size W W'):=fun W _=>refAmountB_any at_ 0 W
 have hA1:Hid (∀ W,Below W1.heap.size W1 W→Calls Tryz.prog 113 #[.int .i64 nx,.int .i64 0] W fun e W'=>e=.returned (.bool (amt nx 0))∧Below W.heap.size W W'):=fun W _=>refAmountB_any nx 0 W
 have HV:Hid ((!(into == []) && pathB into && beginP kind nm frm gd ol ix ct dt ⟨sa,sb,sc,sd⟩ && okL bl && amt at_ 0 && amt nx 0)=(!(into == []) && (pathB into && (beginP kind nm frm gd ol ix ct dt ⟨sa,sb,sc,sd⟩ && (okL bl && (amt at_ 0 && amt nx 0)))))):=by
  show _=_
  simp only [Bool.and_assoc]
 obtain ⟨V,hV⟩:∃ V,V=(!(into == []) && pathB into && beginP kind nm frm gd ol ix ct dt ⟨sa,sb,sc,sd⟩ && okL bl && amt at_ 0 && amt nx 0):=⟨_,rfl⟩
 obtain ⟨bPa,hbPa⟩:∃ b,b=pathB into:=⟨_,rfl⟩
 obtain ⟨bBg,hbBg⟩:∃ b,b=beginP kind nm frm gd ol ix ct dt ⟨sa,sb,sc,sd⟩:=⟨_,rfl⟩
 obtain ⟨bB,hbB⟩:∃ b,b=okL bl:=⟨_,rfl⟩
 obtain ⟨bA,hbA⟩:∃ b,b=amt at_ 0:=⟨_,rfl⟩
 obtain ⟨bX,hbX⟩:∃ b,b=amt nx 0:=⟨_,rfl⟩
 rw [← hV] at HV ⊢
 rw [← hbPa] at HV hPa
 rw [← hbBg] at HV hBg
 rw [← hbB] at HV hBk
 rw [← hbA] at HV hA0
 rw [← hbX] at HV hA1
 have HB1:=Lib.hid hb1
 have HSZ1:=Lib.hid hsz1
 clear hV hbPa hbBg hbB hbA hbX hb1 hsz1 kT hro hrb hol hbl hrw hp
 have hW0:=Below.refl W1.heap.size W1
 by_cases hi:into=[]
 ·subst hi
  have HB:Hid (V=false):=tZ10
  go_enter Tryz.func116,Tryz.ntmps116
  exact mZ47
 ·have hi1:(into == [])=false:=by simpa using hi
  have hi2:into.isEmpty=false:=by cases into <;> simp_all
  have HV:Hid (V=(bPa && (bBg && (bB && (bA && bX))))):=by show _=_;rw [HV.out,hi1];rfl
  clear hi
  go_enter Tryz.func116,Tryz.ntmps116
  have hc:=hPa.out _ hW0
  cases bPa with
  | false =>
   go_wp2_with fail
   rw [← hW1]
   refine hc.mono ?_
   clear hc
   rintro e w11 ⟨rfl,hbw11⟩
   have hWw11:=hW0.trans (hbw11.mono hW0.size)
   clear hbw11
   obtain ⟨q0,q1,q2,q3,q4,q5,q6,q7,q8,q9,q10,q11,q12,q13,q14,q15⟩:=hT.out _ hWw11
   exact mZ49
  | true =>
   go_wp2_with fail
   rw [← hW1]
   refine hc.mono ?_
   clear hc
   rintro e w11 ⟨rfl,hbw11⟩
   have hWw11:=hW0.trans (hbw11.mono hW0.size)
   clear hbw11
   obtain ⟨q0,q1,q2,q3,q4,q5,q6,q7,q8,q9,q10,q11,q12,q13,q14,q15⟩:=hT.out _ hWw11
   have hc:=hBg.out _ hWw11
   cases bBg with
   | false =>
    go_wp2_with fail
    refine hc.mono ?_
    clear hc
    rintro e w12 ⟨rfl,hbw12⟩
    have hWw12:=hWw11.trans (hbw12.mono hWw11.size)
    clear hbw12
    obtain ⟨q0,q1,q2,q3,q4,q5,q6,q7,q8,q9,q10,q11,q12,q13,q14,q15⟩:=hT.out _ hWw12
    exact mZ51
   | true =>
    go_wp2_with fail
    refine hc.mono ?_
    clear hc
    rintro e w12 ⟨rfl,hbw12⟩
    have hWw12:=hWw11.trans (hbw12.mono hWw11.size)
    clear hbw12
    obtain ⟨q0,q1,q2,q3,q4,q5,q6,q7,q8,q9,q10,q11,q12,q13,q14,q15⟩:=hT.out _ hWw12
    have hc:=hBk.out _ hWw12
    cases bB with
    | false =>
     rw [if_neg tZ4] at hc
     go_wp2_with fail
     refine hc.mono ?_
     clear hc
     rintro e w13 ⟨rfl,hbw13⟩
     have hWw13:=hWw12.trans (hbw13.mono hWw12.size)
     clear hbw13
     obtain ⟨q0,q1,q2,q3,q4,q5,q6,q7,q8,q9,q10,q11,q12,q13,q14,q15⟩:=hT.out _ hWw13
     exact mZ53
    | true =>
     rw [if_pos rfl] at hc
     go_wp2_with fail
     refine hc.mono ?_
     clear hc
     rintro e w13 ⟨rfl,hbw13⟩
     have hWw13:=hWw12.trans (hbw13.mono hWw12.size)
     clear hbw13
     obtain ⟨q0,q1,q2,q3,q4,q5,q6,q7,q8,q9,q10,q11,q12,q13,q14,q15⟩:=hT.out _ hWw13
     have hc:=hA0.out _ hWw13
     cases bA with
     | false =>
      go_wp2_with fail
      refine hc.mono ?_
      clear hc
      rintro e w14 ⟨rfl,hbw14⟩
      have hWw14:=hWw13.trans (hbw14.mono hWw13.size)
      clear hbw14
      obtain ⟨q0,q1,q2,q3,q4,q5,q6,q7,q8,q9,q10,q11,q12,q13,q14,q15⟩:=hT.out _ hWw14
      exact mZ55
     | true =>
      go_wp2_with fail
      refine hc.mono ?_
      clear hc
      rintro e w14 ⟨rfl,hbw14⟩
      have hWw14:=hWw13.trans (hbw14.mono hWw13.size)
      clear hbw14
      obtain ⟨q0,q1,q2,q3,q4,q5,q6,q7,q8,q9,q10,q11,q12,q13,q14,q15⟩:=hT.out _ hWw14
      have hc:=hA1.out _ hWw14
      cases bX with
      | false =>
       go_wp2_with fail
       refine hc.mono ?_
       clear hc
       rintro e w15 ⟨rfl,hbw15⟩
       have hWw15:=hWw14.trans (hbw15.mono hWw14.size)
       clear hbw15
       obtain ⟨q0,q1,q2,q3,q4,q5,q6,q7,q8,q9,q10,q11,q12,q13,q14,q15⟩:=hT.out _ hWw15
       have HB:Hid (V=false):=tZ10
       exact mZ125
      | true =>
       go_wp2_with fail
       refine hc.mono ?_
       clear hc
       rintro e w15 ⟨rfl,hbw15⟩
       have hWw15:=hWw14.trans (hbw15.mono hWw14.size)
       clear hbw15
       obtain ⟨q0,q1,q2,q3,q4,q5,q6,q7,q8,q9,q10,q11,q12,q13,q14,q15⟩:=hT.out _ hWw15
       have HB:Hid (V=true):=tZ10
       exact mZ125
set_option maxRecDepth 100000 in
set_option maxHeartbeats 8000000 in
theorem refSnaps_any (l:List SnapR) (n:Nat) (hnl:n=l.length) (A:Option Addr) (c:Nat) (w:World) (B:Nat) (hr:Reads w B 5 A n (cellsK encSnap l)) (he:∀ y∈l,y.rd w B) (hB:B≤w.heap.size) (hn:n≤1000000000000) (hv:∀ y∈l,y.sz) :
  Calls Tryz.prog 155 #[.slice A n c] w fun e w'=>e=.returned (.bool (snapsB l))∧Below w.heap.size w w':=by
 have HN:=Lib.hid hnl
 have HVB:Hid (snapsB l=(decide (n≤16) && snapsRef [] none l)):=by show _=_;rw [snapsB_ref,hnl]
 obtain ⟨V,hV⟩:∃ V,V=snapsB l:=⟨_,rfl⟩
 rw [← hV] at HVB ⊢
 clear hnl hV
 go_enter Tryz.func155,Tryz.ntmps155
 go_wp2_with fail
 go_loopw [3] (fun j wr=>∃ k:Nat,k≤n∧j=.int .i64 (k:Int)∧Hid (snapsRef [] none l=snapsRef ((l.take k).map (·.nm)) (prevD l k) (l.drop k))∧Below w.heap.size w wr) (fun j _=>n-(intOf j).toNat)
 case atStart=>exact ⟨0,Nat.zero_le _,rfl,rfl,Below.refl _ _⟩
 case round =>
  obtain ⟨k,hk,rfl,hok,hbw⟩:=hrel
  by_cases hlt:k<n
  ·have hrw:=hr.below (hbw.mono hB)
   obtain ⟨ad,rfl,hadB,c0,c1',c2,c3,c4⟩:=snap_at hrw HN.out hlt
   have hki:(k:Int)<(n:Int):=tZ1
   have hkl:k<l.length:=tZ9
   obtain ⟨x,hx⟩:∃ x,x=l[k]'hkl:=⟨_,rfl⟩
   have hxm:x∈l:=tZ12
   have hxr:=he x hxm
   have hxs:=hv x hxm
   rw [← hx] at c0 c1' c2 c3 c4
   have htk:=List.take_succ_eq_append_getElem hkl
   have hdr:=List.drop_eq_getElem_cons hkl
   rw [← hx] at hdr htk
   have hbad:Hid ((nameB x.nm=false∨amt x.gd 1=false∨(∃ y,prevD l k=some y∧¬ y<x.gd)∨tagsB x.tags.l=false∨okL x.body.l=false∨propsB x.own.l=false)→V=false):=by
    show _→_
    intro h
    rw [HVB.out,hok.out,hdr,snapsRef_cons]
    unfold snapOk
    rcases h with h | h | ⟨y,hy,h⟩ | h | h | h
    ·rw [h];simp
    ·rw [h];simp
    ·rw [hy];simp only [decide_eq_false h];simp
    ·rw [h];simp
    ·rw [h];simp
    ·rw [h];simp
   have hdup:Hid (∀ z∈l.take k,z.nm=x.nm→V=false):=by
    show ∀ z∈_,_→_
    intro z hz e
    rw [HVB.out,hok.out,hdr,snapsRef_cons,show ((l.take k).map (·.nm)).contains x.nm=true from List.contains_iff_mem.2 (List.mem_map.2 ⟨z,hz,e⟩)]
    simp
   have hgood:Hid (nameB x.nm=true→amt x.gd 1=true→(∀ y,prevD l k=some y→y<x.gd)→tagsB x.tags.l=true→okL x.body.l=true→propsB x.own.l=true→(∀ z∈l.take k,(z.nm == x.nm)=false)→snapsRef [] none l=snapsRef ((l.take (k+1)).map (·.nm)) (prevD l (k+1)) (l.drop (k+1))):=by
    show _→_→_→_→_→_→_→_
    intro h0 h1 h2 h3 h4 h5 h6
    have hc:((l.take k).map (·.nm)).contains x.nm=false:=by
     rw [← Bool.not_eq_true,List.contains_iff_mem]
     intro hm
     obtain ⟨z,hz,e⟩:=List.mem_map.1 hm
     have:=h6 z hz
     rw [e] at this
     simp at this
    rw [hok.out,hdr,snapsRef_cons]
    have hp:prevD l (k+1)=some x.gd:=by
     exact mZ71
    unfold snapOk
    rw [hp,h0,h1,h3,h4,h5,hc,htk,List.map_append]
    exact mZ79
   have hprev:(decide ((0:Int)<(k:Int))=false∧decide (0<k)=false∧Hid (∀ y,prevD l k=some y→y<x.gd))∨(decide ((0:Int)<(k:Int))=true∧decide (0<k)=true∧(1:Int)≤(k:Int)∧(k:Int)-1<(n:Int)∧IntKind.i64.wrap ((k:Int)-1)=(k:Int)-1∧((k:Int)-1).toNat=k-1∧∃ yg,Hid ((¬ x.gd≤yg→∀ y,prevD l k=some y→y<x.gd)∧(x.gd≤yg→∃ y,prevD l k=some y∧¬ y<x.gd))∧Hid (∃ h:k-1<l.length,yg=(l[k-1]'h).gd)):=by
    exact mZ78
   obtain ⟨W0,hW0⟩:∃ W0,W0=wr.alloc (.cells #[.string ⟨x.nm.toArray⟩,.int .i64 x.gd,.slice x.body.A x.body.n x.body.c,.slice x.tags.A x.tags.n x.tags.c,.slice x.own.A x.own.n x.own.c] 58):=⟨_,rfl⟩
   have hblk:Blk W0 wr.heap.size 58 #[.string ⟨x.nm.toArray⟩,.int .i64 x.gd,.slice x.body.A x.body.n x.body.c,.slice x.tags.A x.tags.n x.tags.c,.slice x.own.A x.own.n x.own.c]:=tZ46
   have hszW:W0.heap.size=wr.heap.size+1:=tZ15
   have hlt0:wr.heap.size<W0.heap.size:=tZ1
   have HSZ:=Lib.hid hszW
   have hwr:=hbw.size
   have hbW:Below w.heap.size w W0:=tZ31
   have hrd:∀ W,Below W0.heap.size W0 W→x.rd W B:=fun W hb=>⟨hxr.body.below ((hbW.trans (hb.mono tZ1)).mono hB),hxr.tags.below ((hbW.trans (hb.mono tZ1)).mono hB),hxr.own.below ((hbW.trans (hb.mono tZ1)).mono hB)⟩
   have hRR:Hid (∀ W,Below W0.heap.size W0 W→Reads W B 5 (some ad) n (cellsK encSnap l)):=fun W hb=>hr.below ((hbW.trans (hb.mono tZ1)).mono hB)
   have hNm:Hid (∀ W,Below W0.heap.size W0 W→Calls Tryz.prog 79 #[.string ⟨x.nm.toArray⟩] W fun e W'=>e=.returned (.bool (nameB x.nm))∧Below W.heap.size W W'):=fun W _=>refNameB_any x.nm W hxs.nm
   have hA:Hid (∀ W,Below W0.heap.size W0 W→Calls Tryz.prog 113 #[.int .i64 x.gd,.int .i64 1] W fun e W'=>e=.returned (.bool (amt x.gd 1))∧Below W.heap.size W W'):=fun W _=>refAmountB_any x.gd 1 W
   have hBk:Hid (∀ W,Below W0.heap.size W0 W→Calls Tryz.prog 153 #[.slice x.body.A x.body.n x.body.c] W fun e W'=>e=.returned (.int .i64 (if okL x.body.l=true then 0 else 9))∧Below W.heap.size W W'):=fun W hb =>
    refCheckB_any x.body.l x.body.n (hrd W hb).body.1 x.body.A x.body.c W B (hrd W hb).body.2.2 hxs.body
   have hPr:Hid (∀ W,Below W0.heap.size W0 W→Calls Tryz.prog 154 #[.slice x.own.A x.own.n x.own.c] W fun e W'=>e=.returned (.int .i64 (if propsB x.own.l=true then 0 else 9))∧Below W.heap.size W W'):=fun W hb =>
    refPropsB_any x.own.l x.own.n (hrd W hb).own.1 x.own.A x.own.c W B (hrd W hb).own.2.2 hxs.own hxs.props
   have hTg:Hid (∀ W,Below W0.heap.size W0 W→Calls Tryz.prog 171 #[.slice x.tags.A x.tags.n x.tags.c] W fun e W'=>e=.returned (.bool (tagsB x.tags.l))∧Below W.heap.size W W'):=fun W hb =>
    refTagsB_any x.tags.l x.tags.n (hrd W hb).tags.1 x.tags.A x.tags.c W B tZ87 hxs.tags hxs.each
   have hS:Hid (∀ W,Below W0.heap.size W0 W→W.cell? ⟨wr.heap.size,0,none⟩=some (.string ⟨x.nm.toArray⟩)∧W.cell? ⟨wr.heap.size,1,none⟩=some (.int .i64 x.gd)∧W.cell? ⟨wr.heap.size,2,none⟩=some (.slice x.body.A x.body.n x.body.c)∧W.cell? ⟨wr.heap.size,3,none⟩=some (.slice x.tags.A x.tags.n x.tags.c)∧W.cell? ⟨wr.heap.size,4,none⟩=some (.slice x.own.A x.own.n x.own.c)):=by
    show ∀ W,_→_
    intro W hb
    have hb2:=hblk.below hb hlt0
    exact ⟨hb2.cell 0,hb2.cell 1,hb2.cell 2,hb2.cell 3,hb2.cell 4⟩
   have hSp:Hid (∀ W,Below W0.heap.size W0 W→∀ yg,(∃ h:k-1<l.length,yg=(l[k-1]'h).gd)→W.cell? ⟨(ad.add ((k-1)*5)).block,(ad.add ((k-1)*5)).off+1,none⟩=some (.int .i64 yg)):=by
    show ∀ W,_→_
    intro W hb
    rintro yg ⟨h,rfl⟩
    obtain ⟨ad2,e2,-,-,p1,-⟩:=snap_at (hRR.out W hb) HN.out (i:=k-1) tZ1
    injection e2 with e2
    subst e2
    exact p1
   have hS0:=(Below.refl W0.heap.size W0).drew
   obtain ⟨nm,gd,⟨b1,b2,b3,bl⟩,⟨t1,t2,t3,tl⟩,⟨o1,o2,o3,ol⟩⟩:=x
   simp only at c0 c1' c2 c3 c4 hbad hgood hdup hprev hA hNm hW0 hBk hPr hTg hS
   clear hx hdr htk hok hxm hxr hxs hrd hblk hr hrw he hv
   obtain ⟨bN,hbN⟩:∃ b,b=nameB nm:=⟨_,rfl⟩
   obtain ⟨bA,hbA⟩:∃ b,b=amt gd 1:=⟨_,rfl⟩
   obtain ⟨bB,hbB⟩:∃ b,b=okL bl:=⟨_,rfl⟩
   obtain ⟨bP,hbP⟩:∃ b,b=propsB ol:=⟨_,rfl⟩
   obtain ⟨bT,hbT⟩:∃ b,b=tagsB tl:=⟨_,rfl⟩
   rw [← hbN] at hbad hgood hNm
   rw [← hbA] at hbad hgood hA
   rw [← hbB] at hbad hgood hBk
   rw [← hbP] at hbad hgood hPr
   rw [← hbT] at hbad hgood hTg
   clear hbN hbA hbB hbP hbT
   go_wp2_with fail
   rw [← hW0]
   clear hW0 hszW c0 c1' c2 c3 c4
   refine wpC_regionH (fun W'=>Below W0.heap.size W0 W') (hS0) (fun OPS D QQ HO HD HD2 HQQ=>?_)
   have hgo4:=hgoL HO 4 20 rfl
   have hgo10:=hgoL HO 10 26 rfl
   have hgo13:=hgoL HO 13 29 rfl
   have hgo25:=hgoL HO 25 41 rfl
   have hgo31:=hgoL HO 31 47 rfl
   have hgo37:=hgoL HO 37 53 rfl
   clear HO
   refine zX ?_
   refine zY ?_
   cases bN with
   | false =>
    have HB:=Lib.hid (hbad.out (.inl tZ18))
    refine zN hNm.out ?_
    iterate 40 refine zX ?_
    refine wpQuiet_nil (HQQ.out _ (fun W hW=>?_))
    skip
    go_wp2_with fail
    go_ret
    exact ⟨by rw [HB.out];rfl,hbW.trans (hW.mono tZ6)⟩
   | true =>
    refine zN hNm.out ?_
    iterate 3 refine zX ?_
    refine zY ?_
    cases bA with
    | false =>
     have HB:=Lib.hid (hbad.out (.inr (.inl tZ18)))
     refine zN hA.out ?_
     iterate 35 refine zX ?_
     refine wpQuiet_nil (HQQ.out _ (fun W hW=>?_))
     skip
     go_wp2_with fail
     go_ret
     exact ⟨by rw [HB.out];rfl,hbW.trans (hW.mono tZ6)⟩
    | true =>
     refine zN hA.out ?_
     iterate 4 refine zX ?_
     rcases hprev with ⟨d4,d4',d5⟩ | ⟨d4,d4',i1,i2,i3,i4,yg,d5,d6⟩
     ·iterate 15 refine zX ?_
      refine zY ?_
      cases bT with
      | false =>
       exact mZ150
      | true =>
       refine zN hTg.out ?_
       iterate 4 refine zX ?_
       refine zY ?_
       cases bB with
       | false =>
        exact mZ151
       | true =>
        refine zN hBk.out ?_
        iterate 4 refine zX ?_
        refine zY ?_
        cases bP with
        | false =>
         exact mZ152
        | true =>
         refine zN hPr.out ?_
         iterate 2 refine zX ?_
         refine wpQuiet_nil (HQQ.out _ (fun W hW=>?_))
         skip
         have HGG:=Lib.hid (hgood.out tZ18 tZ18 d5.out tZ18 tZ18 tZ18)
         exact mZ153
     ·iterate 3 refine zX ?_
      refine zY ?_
      iterate 5 refine zX ?_
      refine wpC_greadS (v:=?_) rfl rfl hgo13.out rfl (fun W hW=>?_) ?_
      rotate_left
      ·exact mZ67
      dsimp only [zB,zC]
      by_cases hg:gd≤yg
      ·have HB:=Lib.hid (hbad.out (.inr (.inr (.inl (d5.out.2 hg)))))
       have hgd:decide (gd≤yg)=true:=by simpa using hg
       iterate 21 refine zX ?_
       refine wpQuiet_nil (HQQ.out _ (fun W hW=>?_))
       skip
       go_wp2_with fail
       go_ret
       exact ⟨by rw [HB.out];rfl,hbW.trans (hW.mono tZ6)⟩
      ·have HG:=d5.out.1 tZ1
       have hgd:decide (gd≤yg)=false:=by simpa using hg
       iterate 5 refine zX ?_
       refine zY ?_
       cases bT with
       | false =>
        exact mZ150
       | true =>
        refine zN hTg.out ?_
        iterate 4 refine zX ?_
        refine zY ?_
        cases bB with
        | false =>
         exact mZ151
        | true =>
         refine zN hBk.out ?_
         iterate 4 refine zX ?_
         refine zY ?_
         cases bP with
         | false =>
          exact mZ152
         | true =>
          refine zN hPr.out ?_
          iterate 2 refine zX ?_
          refine wpQuiet_nil (HQQ.out _ (fun W hW=>?_))
          skip
          have HGG:=Lib.hid (hgood.out tZ18 tZ18 HG tZ18 tZ18 tZ18)
          exact mZ153
  ·have hkn:k=n:=tZ1
   have HF:Hid (V=decide (n≤16)):=by
    show _=_
    rw [HVB.out,hok.out,List.drop_of_length_le tZ14]
    simp [snapsRef]
   clear hr hok he hv
   by_cases h8:n≤16
   ·have hi8:(n:Int)≤(16:Int):=tZ1
    exact mZ60
   ·have hi8:¬ (n:Int)≤(16:Int):=tZ1
    exact mZ59
end Go.Proofs.YtiojfffgiejibaaGreatDoor
