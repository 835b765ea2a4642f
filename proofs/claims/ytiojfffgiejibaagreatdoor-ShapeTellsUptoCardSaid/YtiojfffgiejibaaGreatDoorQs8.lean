/-
  A slice of strings in memory. slices.Index, Contains, IsSorted at texts; tree.unlike, tree.tagged: by their contracts. slices.IndexFunc and ContainsFunc at texts (names.Path's).
-/
import Derived.Test.YtiojfffgiejibaaGreatDoorQsM1
import Derived.Test.YtiojfffgiejibaaGreatDoorRows
import Derived.Handy
import Derived.WalkKit
import Derived.WalkSpells
import Derived.Below
import Derived.Laws.OwnMore
import Derived.Deep.AppendLies
import Derived.Deep.Draws
import Derived.Laws.Rows
import Derived.Maps.AppendAt
import Derived.RegionTactic
import Derived.OwnWalk
import Derived.Deep.QuietTactic
import Derived.BigQuiet
import Derived.Lib.Hide
import Derived.Laws.CopyOwn
import Derived.IntWalk
import Derived.Deep.Quiet
import Derived.Laws.BytesString
import Derived.Laws.IdiomStrings
import Derived.Lib.ConvBytes
import Derived.Lib.Strings
import Derived.Orders
import Derived.Sort.Walk0
import Derived.Sort.KeysCollected
import Derived.Lib.SplitLaws
import Derived.Lib.LastIndexByte
import Derived.Test.YtiojfffgiejibaaGreatDoorQ0
import Derived.Test.YtiojfffgiejibaaGreatDoorQs1
import Derived.Test.YtiojfffgiejibaaGreatDoorQs2
import Derived.Test.YtiojfffgiejibaaGreatDoorQs3
import Derived.Test.YtiojfffgiejibaaGreatDoorQs5
import Derived.Test.YtiojfffgiejibaaGreatDoorQs7
namespace Go.Proofs.YtiojfffgiejibaaGreatDoor
open Go.RowKit
def scells (l:List BS):List Value:=l.map strV
theorem scells_append (a b:List BS):scells (a++b)=scells a++scells b:=by simp [scells]
theorem strs_at {w:World} {B n:Nat} {A:Option Addr} {l:List BS} (h:Reads w B 1 A n (scells l)) (hn:n=l.length) {k:Nat} (hk:k<n) :
  ∃ ad,A=some ad∧ad.block<B∧w.cell? (ad.add k)=some (strV (l[k]'tZ1)):=by
 obtain ⟨ad,u,e,hB,hxu,hcell⟩:=h.at_ hk
 have hux:u=strV (l[k]'tZ1):=by
  unfold scells at hxu
  rw [List.getElem?_map,List.getElem?_eq_getElem tZ1] at hxu
  exact (Option.some.inj hxu).symm
 subst hux
 exact ⟨ad,e,hB,hcell⟩
theorem Tryz.infoS:(Tryz.prog.info? 9).map (fun i=>(i.zero,i.size,i.bytes))=some (some (.string ByteArray.empty),1,16):=tZ2
end Go.Proofs.YtiojfffgiejibaaGreatDoor
namespace Go.Proofs.YtiojfffgiejibaaGreatDoor
open Go.RowKit
theorem scells_enc (l:List BS):cellsK encS l=scells l:=by
 unfold cellsK encS scells
 induction l with
 | nil=>rfl
 | cons x l ih=>rw [List.flatMap_cons,ih];rfl
set_option maxRecDepth 100000 in
set_option maxHeartbeats 1000000 in
theorem indexS_any (l:List BS) (x:BS) (n:Nat) (hnl:n=l.length) (A:Option Addr) (c:Nat) (w:World) (B:Nat) (hr:Reads w B 1 A n (scells l)) (hn:n≤5000000000000) :
  Calls Tryz.prog 188 #[.slice A n c,.string ⟨x.toArray⟩] w fun e w'=>e=.returned (.int .i64 (firstI (fun y=>y == x) l))∧w'=w:=by
 have HN:=Lib.hid hnl
 clear hnl
 go_enter Tryz.func188,Tryz.ntmps188
 go_wp2_with fail
 go_loopw [8] (fun j wr=>∃ k:Nat,k≤n∧j=.int .i64 (k:Int)∧Hid (∀ y∈l.take k,(y == x)=false)∧wr=w) (fun j _=>n-(intOf j).toNat)
 case atStart=>exact ⟨0,Nat.zero_le _,rfl,(show ∀ y∈_,_ by simp),rfl⟩
 case round =>
  obtain ⟨k,hk,rfl,hno,hww⟩:=hrel
  have hww:=hww.symm
  subst hww
  by_cases hlt:k<n
  ·have hki:(k:Int)<(n:Int):=tZ1
   have hkl:k<l.length:=tZ9
   obtain ⟨ad,rfl,_,hcell⟩:=strs_at hr HN.out hlt
   obtain ⟨y,hy⟩:∃ y,y=l[k]'hkl:=⟨_,rfl⟩
   rw [← hy] at hcell
   have htk:=List.take_succ_eq_append_getElem hkl
   rw [← hy] at htk
   have HTK:=Lib.hid htk
   have HX:=Lib.hid (show l[k]?=some y by rw [hy];exact List.getElem?_eq_getElem _)
   simp only [strV] at hcell
   clear hy htk hr
   by_cases hxy:x=y
   ·subst hxy
    go_wp2_with fail
    go_ret
    have hf:=firstP_eq (fun y=>y == x) l k x hno.out HX.out tZ3
    exact ⟨by unfold firstI;rw [hf,if_pos hkl];rfl,rfl⟩
   ·have hd:(x == y)=false:=tZ97
    have HD:Hid ((y == x)=false):=by show _=_;simpa using fun e=>hxy e.symm
    clear hxy
    go_wp2_with fail
    go_roundw
    case rel =>
     refine ⟨k+1,by omega,by go_num,?_,trivial⟩
     show ∀ z∈l.take (k+1),(z == x)=false
     exact mZ32
    case measure=>simp [intOf];omega
  ·have hkn:k=n:=tZ1
   have HF:Hid (firstI (fun y=>y == x) l=-1):=by
    show _=_
    exact mZ31
   clear hr hkn
   go_wp2_with fail
   go_ret
   exact ⟨by rw [HF.out];rfl,rfl⟩
theorem any_contains (l:List BS) (x:BS):l.any (fun y=>y == x)=l.contains x:=by
 rw [Bool.eq_iff_iff,List.any_eq_true,List.contains_iff_mem]
 exact ⟨fun ⟨y,hy,e⟩=>by rw [← (by simpa using e:y=x)];exact hy,fun h=>⟨x,h,by simp⟩⟩
set_option maxRecDepth 100000 in
theorem containsS_any (l:List BS) (x:BS) (n:Nat) (hnl:n=l.length) (A:Option Addr) (c:Nat) (w:World) (B:Nat) (hr:Reads w B 1 A n (scells l)) (hn:n≤5000000000000) :
  Calls Tryz.prog 180 #[.slice A n c,.string ⟨x.toArray⟩] w fun e w'=>e=.returned (.bool (l.contains x))∧w'=w:=by
 have hc:=Lib.hid (indexS_any l x n hnl A c w B hr hn)
 have HA:=Lib.hid ((firstI_any (fun y=>y == x) l).trans (any_contains l x))
 clear hnl hr
 go_enter Tryz.func180,Tryz.ntmps180
 go_wp2_with fail
 refine hc.out.mono ?_
 rintro e w1 ⟨rfl,rfl⟩
 go_wp2_with fail
 go_ret
 exact ⟨by rw [← HA.out];rfl,rfl⟩
set_option maxRecDepth 100000 in
theorem lessS_any (x y:BS) (w:World):Calls Tryz.prog 132 #[.string ⟨x.toArray⟩,.string ⟨y.toArray⟩] w fun e w'=>e=.returned (.bool (Op.bytesLess x y))∧∃ q,w'=w.drewN q:=by
 have hlss:=lssS 9 x y
 go_enter Tryz.func132,Tryz.ntmps132
 go_wp2_with fail
 refine (isNaNS_any x _).mono ?_
 rintro e w1 ⟨rfl,q1,rfl⟩
 go_wp2_with fail
 go_ret
 exact ⟨rfl,q1,rfl⟩
theorem sortF_iff (l:List BS) (p:Option BS):sortF p l=true↔(∀ q x,p=some q→l[0]?=some x→Op.bytesLess x q=false)∧∀ k x y,l[k]?=some x→l[k+1]?=some y→Op.bytesLess y x=false:=by
 induction l generalizing p with
 | nil=>simp [sortF]
 | cons z l ih =>
  rw [sortF_cons,Bool.and_eq_true,ih]
  constructor
  ·rintro ⟨h1,h2,h3⟩
   refine ⟨fun q x hq hx=>?_,fun k x y hx hy=>?_⟩
   ·subst hq
    simp only [zE,Option.some.injEq] at hx
    subst hx
    simpa using h1
   ·cases k with
    | zero =>
     simp only [zE,Option.some.injEq,Nat.zero_add,zD] at hx hy
     subst hx
     exact h2 _ y rfl hy
    | succ k=>exact h3 k x y tZ100 (by simpa using hy)
  ·rintro ⟨h1,h2⟩
   refine ⟨?_,fun q x hq hx=>?_,fun k x y hx hy=>h2 (k+1) x y tZ100 (by simpa using hy)⟩
   ·cases p with
    | none=>rfl
    | some q=>simpa using h1 q z rfl tZ3
   ·cases hq
    exact h2 0 _ x tZ3 tZ100
set_option maxRecDepth 100000 in
set_option maxHeartbeats 1000000 in
theorem isSorted_any (l:List BS) (n:Nat) (hnl:n=l.length) (A:Option Addr) (c:Nat) (w:World) (B:Nat) (hr:Reads w B 1 A n (scells l)) (hn:n≤5000000000000) :
  Calls Tryz.prog 179 #[.slice A n c] w fun e w'=>e=.returned (.bool (sortF none l))∧∃ q,w'=w.drewN q:=by
 have HN:=Lib.hid hnl
 have HS:=Lib.hid (sortF_iff l none)
 obtain ⟨V,hV⟩:∃ V,V=sortF none l:=⟨_,rfl⟩
 rw [← hV] at HS ⊢
 clear hnl hV
 have i3:IntKind.i64.wrap ((n:Int)-1)=(n:Int)-1:=IntWalk.i64_in _ tZ1
 go_enter Tryz.func179,Tryz.ntmps179
 go_wp2_with fail
 clear i3
 go_loopw [3] (fun j wr=>∃ z:Int,-1≤z∧z≤(n:Int)-1∧j=.int .i64 z∧Hid (∀ (k:Nat) x y,z≤(k:Int)→l[k]?=some x→l[k+1]?=some y→Op.bytesLess y x=false)∧∃ q,wr=w.drewN q) (fun j _=>(intOf j).toNat)
 case atStart =>
  refine ⟨(n:Int)-1,by omega,by omega,rfl,?_,0,rfl⟩
  show ∀ (k:Nat) x y,_→_→_→_
  intro k x y hk hx hy
  have h1:=(List.getElem?_eq_some_iff.1 hy).1
  have:=HN.out
  omega
 case round =>
  obtain ⟨z,hz1,hz2,rfl,hok,q,rfl⟩:=hrel
  by_cases hz:0<z
  ·obtain ⟨k,rfl⟩:∃ k:Nat,z=((k+1:Nat):Int):=⟨(z-1).toNat,by omega⟩
   have hk1:k+1<n:=tZ1
   obtain ⟨ad,rfl,_,c1⟩:=strs_at hr HN.out hk1
   obtain ⟨ad2,e2,_,c0⟩:=strs_at hr HN.out (show k<n by omega)
   injection e2 with e2
   subst e2
   have hkl:k+1<l.length:=tZ9
   obtain ⟨x,hx⟩:∃ x,x=l[k]'tZ1:=⟨_,rfl⟩
   obtain ⟨y,hy⟩:∃ y,y=l[k+1]'hkl:=⟨_,rfl⟩
   rw [← hx] at c0
   rw [← hy] at c1
   have HX:=Lib.hid (show l[k]?=some x by rw [hx];exact List.getElem?_eq_getElem _)
   have HY:=Lib.hid (show l[k+1]?=some y by rw [hy];exact List.getElem?_eq_getElem _)
   simp only [strV] at c0 c1
   obtain ⟨K,hK⟩:∃ K,K=k+1:=⟨_,rfl⟩
   have hKk:k=K-1:=tZ1
   rw [← hK] at c1 hk1 ⊢
   rw [hKk] at c0
   have i0:(0:Int)<(K:Int):=tZ1
   have i1:(1:Int)≤(K:Int):=tZ1
   have i5:(K:Int)<(n:Int):=tZ1
   have i2:(K:Int)-1<(n:Int):=tZ1
   have i3:IntKind.i64.wrap ((K:Int)-1)=(K:Int)-1:=IntWalk.i64_in _ tZ1
   have i4:((K:Int)-1).toNat=K-1:=tZ1
   have hL:∀ m,Calls Tryz.prog 132 #[.string ⟨y.toArray⟩,.string ⟨x.toArray⟩] (w.drewN (q+m)) fun e W'=>e=.returned (.bool (Op.bytesLess y x))∧∃ n,W'=w.drewN (q+n):=fun m=>by
    refine (lessS_any y x _).mono ?_
    rintro e w1 ⟨rfl,p,rfl⟩
    exact ⟨rfl,m+p,by rw [World.drewN_drewN,Nat.add_assoc]⟩
   obtain ⟨b,hb⟩:∃ b,b=Op.bytesLess y x:=⟨_,rfl⟩
   rw [← hb] at hL
   have HB:=Lib.hid hb
   have HK:=Lib.hid hK
   clear hx hy hb hr hK hKk
   cases b with
   | true =>
    have HV:Hid (V=false):=by
     show _=_
     rw [← Bool.not_eq_true]
     intro e
     have:=(HS.out.1 e).2 k x y HX.out HY.out
     rw [← HB.out] at this
     cases this
    go_wp2_with fail
    go_big_quiet ((go_at_call 132;exact hL _))
    clear hL
    go_wp2_with fail
    go_ret
    exact ⟨by rw [HV.out];rfl,_,World.drewN_drewN _ _ _⟩
   | false =>
    go_wp2_with fail
    go_big_quiet ((go_at_call 132;exact hL _))
    clear hL
    go_wp2_with fail
    go_roundw
    case rel =>
     refine ⟨(K:Int)-1,by omega,by omega,by go_num,?_,_,rfl⟩
     show ∀ (k:Nat) x y,_→_→_→_
     intro k' x' y' hk' hx' hy'
     by_cases e:k'=k
     ·subst e
      rw [HX.out] at hx'
      rw [HY.out] at hy'
      cases hx'
      cases hy'
      exact HB.out.symm
     ·exact hok.out k' x' y' (by have:=HK.out;omega) hx' hy'
    case measure=>simp [intOf];omega
  ·have HV:Hid (V=true):=by
    show _=_
    exact HS.out.2 ⟨fun q x h=>(by cases h),fun k x y hx hy=>hok.out k x y tZ1 hx hy⟩
   clear hr
   go_wp2_with fail
   go_ret
   exact ⟨by rw [HV.out];rfl,q,rfl⟩
set_option maxRecDepth 100000 in
set_option maxHeartbeats 1000000 in
theorem unlike_any (l:List BS) (n:Nat) (hnl:n=l.length) (A:Option Addr) (c:Nat) (hnc:n≤c) (w:World) (B:Nat) (hr:Reads w B 1 A n (scells l)) (hB:B≤w.heap.size) (hn:n≤5000000000000) :
  Calls Tryz.prog 166 #[.slice A n c] w fun e w'=>e=.returned (.bool (unlikeB l))∧Below w.heap.size w w':=by
 have HN:=Lib.hid hnl
 have HV:Hid (unlikeB l=unlikeF [] l):=rfl
 obtain ⟨V,hV⟩:∃ V,V=unlikeB l:=⟨_,rfl⟩
 rw [← hV] at HV ⊢
 clear hnl hV
 go_enter Tryz.func166,Tryz.ntmps166
 go_wp2_with fail
 go_loopw [7] (fun j wr=>∃ k:Nat,k≤n∧j=.int .i64 (k:Int)∧Hid (V=unlikeF (l.take k) (l.drop k))∧Below w.heap.size w wr) (fun j _=>n-(intOf j).toNat)
 case atStart=>exact ⟨0,Nat.zero_le _,rfl,HV,Below.refl _ _⟩
 case round =>
  obtain ⟨k,hk,rfl,hok,hbw⟩:=hrel
  by_cases hlt:k<n
  ·have hki:(k:Int)<(n:Int):=tZ1
   have hkl:k<l.length:=tZ9
   have hrw:=hr.below (hbw.mono hB)
   obtain ⟨ad,rfl,_,hcell⟩:=strs_at hrw HN.out hlt
   obtain ⟨x,hx⟩:∃ x,x=l[k]'hkl:=⟨_,rfl⟩
   rw [← hx] at hcell
   have htk:=List.take_succ_eq_append_getElem hkl
   have hdr:=List.drop_eq_getElem_cons hkl
   rw [← hx] at htk hdr
   have HU:Hid (V=(nameB x && !((l.take k).contains x) && unlikeF (l.take (k+1)) (l.drop (k+1)))):=by
    show _=_
    rw [hok.out,hdr,unlikeF_cons,htk]
   have hN:=name_any ⟨x.toArray⟩ wr
   rw [show (ByteArray.mk x.toArray).data.toList=x from rfl] at hN
   have hcn:∀ W,Below wr.heap.size wr W→Calls Tryz.prog 180 #[.slice (some ad) k c,.string ⟨x.toArray⟩] W fun e w'=>e=.returned (.bool ((l.take k).contains x))∧w'=W:=by
    intro W hW
    have hr2:=((hrw.below (hW.mono (by have:=hbw.size;omega))).pre (k:=k) tZ1)
    rw [Nat.mul_one,show (scells l).take k=scells (l.take k) by unfold scells;rw [List.map_take]] at hr2
    exact containsS_any (l.take k) x k tZ66 (some ad) c W B hr2 tZ1
   have hkc:(k:Int)≤(c:Int):=tZ1
   simp only [strV] at hcell
   obtain ⟨bn,hbn⟩:∃ b,b=nameB x:=⟨_,rfl⟩
   obtain ⟨bc,hbc⟩:∃ b,b=(l.take k).contains x:=⟨_,rfl⟩
   rw [← hbn] at hN HU
   rw [← hbc] at hcn HU
   have HCN:=Lib.hid hcn
   clear hx htk hdr hbn hbc hr hrw hcn hok
   cases bn with
   | false =>
    have HV1:Hid (V=false):=tZ111
    go_wp2_with fail
    refine hN.mono ?_
    exact mZ34
   | true =>
    go_wp2_with fail
    refine hN.mono ?_
    clear hN
    rintro e w1 ⟨rfl,hb1⟩
    have hbf:=hbw.trans (hb1.mono hbw.size)
    have hcl:=HCN.out _ hb1
    clear hb1 hbw HCN
    go_wp2_with fail
    refine hcl.mono ?_
    clear hcl
    rintro e w2 ⟨rfl,rfl⟩
    cases bc with
    | true =>
     have HV1:Hid (V=false):=tZ111
     go_wp2_with fail
     go_ret
     exact ⟨by rw [HV1.out];rfl,hbf⟩
    | false =>
     have HG:Hid (V=unlikeF (l.take (k+1)) (l.drop (k+1))):=tZ111
     go_wp2_with fail
     go_roundw
     case rel=>exact ⟨k+1,by omega,by go_num,HG,hbf⟩
     case measure=>simp [intOf];omega
  ·have hkn:k=n:=tZ1
   have HF:Hid (V=true):=by
    exact mZ33
   clear hr hkn hok
   exact mZ2
set_option maxRecDepth 100000 in
set_option maxHeartbeats 1000000 in
theorem tagged_any (l:List BS) (n:Nat) (hnl:n=l.length) (A:Option Addr) (c:Nat) (hnc:n≤c) (w:World) (B:Nat) (hr:Reads w B 1 A n (scells l)) (hB:B≤w.heap.size) (hn:n≤5000000000000) :
  Calls Tryz.prog 165 #[.slice A n c] w fun e w'=>e=.returned (.bool (tagsB l))∧Below w.heap.size w w':=by
 have hU:=unlike_any l n hnl A c hnc w B hr hB hn
 have hS:=Lib.hid (fun W (hW:Below w.heap.size w W)=>isSorted_any l n hnl A c W B (hr.below (hW.mono hB)) hn)
 have HV:Hid (tagsB l=(decide (n≤4) && (unlikeB l && sortF none l))):=by show _=_;rw [tagged_eq,hnl];rfl
 obtain ⟨V,hV⟩:∃ V,V=tagsB l:=⟨_,rfl⟩
 obtain ⟨bu,hbu⟩:∃ V,V=unlikeB l:=⟨_,rfl⟩
 obtain ⟨bs,hbs⟩:∃ V,V=sortF none l:=⟨_,rfl⟩
 rw [← hV] at HV ⊢
 rw [← hbu] at HV hU
 rw [← hbs] at HV hS
 clear hnl hV hbu hbs hr
 by_cases h4:n≤4
 ·have hi:(n:Int)≤4:=tZ1
  have HV2:Hid (V=(bu && bs)):=by show _=_;rw [HV.out,decide_eq_true h4];rfl
  cases bu with
  | false =>
   have HV3:Hid (V=false):=tZ74
   go_enter Tryz.func165,Tryz.ntmps165
   go_wp2_with fail
   refine hU.mono ?_
   rintro e w1 ⟨rfl,hb1⟩
   go_wp2_with fail
   go_ret
   exact ⟨by rw [HV3.out];rfl,hb1⟩
  | true =>
   have HV3:Hid (V=bs):=tZ74
   go_enter Tryz.func165,Tryz.ntmps165
   go_wp2_with fail
   refine hU.mono ?_
   rintro e w1 ⟨rfl,hb1⟩
   go_wp2_with fail
   refine (hS.out _ hb1).mono ?_
   rintro e w2 ⟨rfl,q,rfl⟩
   go_wp2_with fail
   go_ret
   exact ⟨by rw [HV3.out];rfl,below_drewN hb1 q⟩
 ·have hi:¬ (n:Int)≤4:=tZ1
  have HV2:Hid (V=false):=by show _=_;rw [HV.out,decide_eq_false h4];rfl
  go_enter Tryz.func165,Tryz.ntmps165
  go_wp2_with fail
  go_ret
  exact ⟨by rw [HV2.out];rfl,Below.refl _ _⟩
end Go.Proofs.YtiojfffgiejibaaGreatDoor
namespace Go.Proofs.YtiojfffgiejibaaGreatDoor
open Go.RowKit
set_option maxRecDepth 100000 in
set_option maxHeartbeats 1000000 in
theorem fiS_index {α:Type} (f:α→Value) (p:α→Bool) (l:List α) (n:Nat) (hnl:n=l.length) (A:Option Addr) (c:Nat) (w:World) (B:Nat)
  (hr:Reads w B 1 A n (l.map f)) (hB:B≤w.heap.size) (hn:n≤5000000000000)
  (hp:∀ x∈l,∀ W,Calls Tryz.prog 125 #[f x] W fun e W'=>e=.returned (.bool (p x))∧Below W.heap.size W W') :
  Calls Tryz.prog 159 #[.slice A n c,.func (.func 125) #[] #[]] w fun e w'=>e=.returned (.int .i64 (firstI p l))∧Below w.heap.size w w':=by
 have HN:=Lib.hid hnl
 have HP:=Lib.hid hp
 clear hnl hp
 go_enter Tryz.func159,Tryz.ntmps159
 exact mZ5
theorem fiS_contains {α:Type} (f:α→Value) (p:α→Bool) (l:List α) (n:Nat) (hnl:n=l.length) (A:Option Addr) (c:Nat) (w:World) (B:Nat)
  (hr:Reads w B 1 A n (l.map f)) (hB:B≤w.heap.size) (hn:n≤5000000000000)
  (hp:∀ x∈l,∀ W,Calls Tryz.prog 125 #[f x] W fun e W'=>e=.returned (.bool (p x))∧Below W.heap.size W W') :
  Calls Tryz.prog 124 #[.slice A n c,.func (.func 125) #[] #[]] w fun e w'=>e=.returned (.bool (l.any p))∧Below w.heap.size w w':=by
 have hcall:=Lib.hid (fiS_index f p l n hnl A c w B hr hB hn hp)
 have HA:=Lib.hid (firstI_any p l)
 clear hnl hr hp
 go_enter Tryz.func124,Tryz.ntmps124
 go_wp2_with fail
 refine hcall.out.mono ?_
 exact mZ7
end Go.Proofs.YtiojfffgiejibaaGreatDoor
