/-
  A slice of strings in memory. slices.Index, Contains, IsSorted at texts; tree.unlike, tree.tagged: by their contracts. The shelf's words of a text's parts, in the words of the plain law. names.Name, names.Path.
-/
import Derived.Test.YtcgclpcocdappaaGreatDoorRows
import Derived.Handy
import Derived.WalkKit
import Derived.WalkSpells
import Derived.Below
import Derived.Laws.OwnMore
import Derived.Deep.AppendLies
import Derived.Deep.Draws
import Derived.Laws.Rows
import Derived.Maps.AppendAt
import Derived.RegionTactic
import Derived.OwnWalk
import Derived.Deep.QuietTactic
import Derived.BigQuiet
import Derived.Lib.Hide
import Derived.Laws.CopyOwn
import Derived.IntWalk
import Derived.Deep.Quiet
import Derived.Laws.BytesString
import Derived.Laws.IdiomStrings
import Derived.Lib.ConvBytes
import Derived.Lib.Strings
import Derived.Orders
import Derived.Sort.Walk0
import Derived.Sort.KeysCollected
import Derived.Lib.SplitLaws
import Derived.Lib.LastIndexByte
import Derived.Shelf.Strings.Search1
import Derived.Shelf.Strings.Search2
import Derived.Shelf.Strings.Search3
import Derived.Shelf.Strings.Cut
import Derived.Shelf.Strings.Count
import Derived.Shelf.LaysM
import Derived.Shelf.Strings.Shaped
import Derived.Shelf.Strings.LastIndex
import Derived.Shelf.Strings.Split
import Derived.Shelf.Strings.SplitShaped
import Derived.Shelf.Unicode.Decode
import Derived.Shelf.Strings.RuneCount
import Derived.Shelf.Strings.Explode
import Derived.Shelf.Unicode.DecodeSlow
import Derived.Test.YtcgclpcocdappaaGreatDoorProg
import Derived.Test.YtcgclpcocdappaaGreatDoorJ0
import Derived.Test.YtcgclpcocdappaaGreatDoorJbkv1
import Derived.Test.YtcgclpcocdappaaGreatDoorJbkv2
import Derived.Test.YtcgclpcocdappaaGreatDoorJbkv3
import Derived.Test.YtcgclpcocdappaaGreatDoorJbkv4
import Derived.Test.YtcgclpcocdappaaGreatDoorJbkv6
namespace Go.Proofs.YtcgclpcocdappaaGreatDoor
open Go.RowKit
def scells (l:List BS):List Value:=l.map strV
theorem scells_append (a b:List BS):scells (a++b)=scells a++scells b:=by simp [scells]
theorem strs_at {w:World} {B n:Nat} {A:Option Addr} {l:List BS} (h:Reads w B 1 A n (scells l)) (hn:n=l.length) {k:Nat} (hk:k<n) :
  ∃ ad,A=some ad∧ad.block<B∧w.cell? (ad.add k)=some (strV (l[k]'(by omega))):=by
 obtain ⟨ad,u,e,hB,hxu,hcell⟩:=h.at_ hk
 have hux:u=strV (l[k]'(by omega)):=by
  unfold scells at hxu
  rw [List.getElem?_map,List.getElem?_eq_getElem (by omega)] at hxu
  exact (Option.some.inj hxu).symm
 subst hux
 exact ⟨ad,e,hB,hcell⟩
theorem Tryz.infoS:(Tryz.prog.info? 9).map (fun i=>(i.zero,i.size,i.bytes))=some (some (.string ByteArray.empty),1,16):=by kernel_rfl
end Go.Proofs.YtcgclpcocdappaaGreatDoor
namespace Go.Proofs.YtcgclpcocdappaaGreatDoor
open Go.RowKit
theorem scells_enc (l:List BS):cellsK encS l=scells l:=by
 unfold cellsK encS scells
 induction l with
 | nil=>rfl
 | cons x l ih=>rw [List.flatMap_cons,ih];rfl
set_option maxRecDepth 100000 in
set_option maxHeartbeats 1000000 in
theorem indexS_any (l:List BS) (x:BS) (n:Nat) (hnl:n=l.length) (A:Option Addr) (c:Nat) (w:World) (B:Nat) (hr:Reads w B 1 A n (scells l)) (hn:n≤5000000000000) :
  Calls Tryz.prog 131 #[.slice A n c,.string ⟨x.toArray⟩] w fun e w'=>e=.returned (.int .i64 (firstI (fun y=>y == x) l))∧w'=w:=by
 have HN:=Lib.hid hnl
 clear hnl
 go_enter Tryz.func131,Tryz.ntmps131
 go_wp2_with fail
 go_loopw [8] (fun j wr=>∃ k:Nat,k≤n∧j=.int .i64 (k:Int)∧Hid (∀ y∈l.take k,(y == x)=false)∧wr=w) (fun j _=>n-(intOf j).toNat)
 case atStart=>exact ⟨0,Nat.zero_le _,rfl,(show ∀ y∈_,_ by simp),rfl⟩
 case round =>
  obtain ⟨k,hk,rfl,hno,hww⟩:=hrel
  have hww:=hww.symm
  subst hww
  by_cases hlt:k<n
  ·have hki:(k:Int)<(n:Int):=by omega
   have hkl:k<l.length:=by have:=HN.out;omega
   obtain ⟨ad,rfl,_,hcell⟩:=strs_at hr HN.out hlt
   obtain ⟨y,hy⟩:∃ y,y=l[k]'hkl:=⟨_,rfl⟩
   rw [← hy] at hcell
   have htk:=List.take_succ_eq_append_getElem hkl
   rw [← hy] at htk
   have HTK:=Lib.hid htk
   have HX:=Lib.hid (show l[k]?=some y by rw [hy];exact List.getElem?_eq_getElem _)
   simp only [strV] at hcell
   clear hy htk hr
   by_cases hxy:x=y
   ·subst hxy
    go_wp2_with fail
    go_ret
    have hf:=firstP_eq (fun y=>y == x) l k x hno.out HX.out (by simp)
    exact ⟨by unfold firstI;rw [hf,if_pos hkl];rfl,rfl⟩
   ·have hd:(x == y)=false:=by simpa using hxy
    have HD:Hid ((y == x)=false):=by show _=_;simpa using fun e=>hxy e.symm
    clear hxy
    go_wp2_with fail
    go_roundw
    case rel =>
     refine ⟨k+1,by omega,by go_num,?_,trivial⟩
     show ∀ z∈l.take (k+1),(z == x)=false
     intro z hz
     rw [HTK.out] at hz
     rcases List.mem_append.1 hz with hz | hz
     ·exact hno.out z hz
     ·simp at hz;subst hz;exact HD.out
    case measure=>simp [intOf];omega
  ·have hkn:k=n:=by omega
   have HF:Hid (firstI (fun y=>y == x) l=-1):=by
    show _=_
    unfold firstI
    rw [firstP_none _ l (fun y hy=>hno.out y (by rw [List.take_of_length_le (by rw [hkn,HN.out];exact Nat.le_refl _)];exact hy)),if_neg (Nat.lt_irrefl _)]
   clear hr hkn
   go_wp2_with fail
   go_ret
   exact ⟨by rw [HF.out];rfl,rfl⟩
theorem any_contains (l:List BS) (x:BS):l.any (fun y=>y == x)=l.contains x:=by
 rw [Bool.eq_iff_iff,List.any_eq_true,List.contains_iff_mem]
 exact ⟨fun ⟨y,hy,e⟩=>by rw [← (by simpa using e:y=x)];exact hy,fun h=>⟨x,h,by simp⟩⟩
set_option maxRecDepth 100000 in
theorem containsS_any (l:List BS) (x:BS) (n:Nat) (hnl:n=l.length) (A:Option Addr) (c:Nat) (w:World) (B:Nat) (hr:Reads w B 1 A n (scells l)) (hn:n≤5000000000000) :
  Calls Tryz.prog 62 #[.slice A n c,.string ⟨x.toArray⟩] w fun e w'=>e=.returned (.bool (l.contains x))∧w'=w:=by
 have hc:=Lib.hid (indexS_any l x n hnl A c w B hr hn)
 have HA:=Lib.hid ((firstI_any (fun y=>y == x) l).trans (any_contains l x))
 clear hnl hr
 go_enter Tryz.func62,Tryz.ntmps62
 go_wp2_with fail
 refine hc.out.mono ?_
 rintro e w1 ⟨rfl,rfl⟩
 go_wp2_with fail
 go_ret
 exact ⟨by rw [← HA.out];rfl,rfl⟩
set_option maxRecDepth 100000 in
theorem lessS_any (x y:BS) (w:World):Calls Tryz.prog 165 #[.string ⟨x.toArray⟩,.string ⟨y.toArray⟩] w fun e w'=>e=.returned (.bool (Op.bytesLess x y))∧∃ q,w'=w.drewN q:=by
 have hlss:=lssS 9 x y
 go_enter Tryz.func165,Tryz.ntmps165
 go_wp2_with fail
 refine (isNaNS_any x _).mono ?_
 rintro e w1 ⟨rfl,q1,rfl⟩
 go_wp2_with fail
 go_ret
 exact ⟨rfl,q1,rfl⟩
theorem sortF_iff (l:List BS) (p:Option BS):sortF p l=true↔(∀ q x,p=some q→l[0]?=some x→Op.bytesLess x q=false)∧∀ k x y,l[k]?=some x→l[k+1]?=some y→Op.bytesLess y x=false:=by
 induction l generalizing p with
 | nil=>simp [sortF]
 | cons z l ih =>
  rw [sortF_cons,Bool.and_eq_true,ih]
  constructor
  ·rintro ⟨h1,h2,h3⟩
   refine ⟨fun q x hq hx=>?_,fun k x y hx hy=>?_⟩
   ·subst hq
    simp only [zE,Option.some.injEq] at hx
    subst hx
    simpa using h1
   ·cases k with
    | zero =>
     simp only [zE,Option.some.injEq,Nat.zero_add,zD] at hx hy
     subst hx
     exact h2 _ y rfl hy
    | succ k=>exact h3 k x y (by simpa using hx) (by simpa using hy)
  ·rintro ⟨h1,h2⟩
   refine ⟨?_,fun q x hq hx=>?_,fun k x y hx hy=>h2 (k+1) x y (by simpa using hx) (by simpa using hy)⟩
   ·cases p with
    | none=>rfl
    | some q=>simpa using h1 q z rfl (by simp)
   ·cases hq
    exact h2 0 _ x (by simp) (by simpa using hx)
set_option maxRecDepth 100000 in
set_option maxHeartbeats 1000000 in
theorem isSorted_any (l:List BS) (n:Nat) (hnl:n=l.length) (A:Option Addr) (c:Nat) (w:World) (B:Nat) (hr:Reads w B 1 A n (scells l)) (hn:n≤5000000000000) :
  Calls Tryz.prog 215 #[.slice A n c] w fun e w'=>e=.returned (.bool (sortF none l))∧∃ q,w'=w.drewN q:=by
 have HN:=Lib.hid hnl
 have HS:=Lib.hid (sortF_iff l none)
 obtain ⟨V,hV⟩:∃ V,V=sortF none l:=⟨_,rfl⟩
 rw [← hV] at HS ⊢
 clear hnl hV
 have i3:IntKind.i64.wrap ((n:Int)-1)=(n:Int)-1:=IntWalk.i64_in _ (by omega)
 go_enter Tryz.func215,Tryz.ntmps215
 go_wp2_with fail
 clear i3
 go_loopw [3] (fun j wr=>∃ z:Int,-1≤z∧z≤(n:Int)-1∧j=.int .i64 z∧Hid (∀ (k:Nat) x y,z≤(k:Int)→l[k]?=some x→l[k+1]?=some y→Op.bytesLess y x=false)∧∃ q,wr=w.drewN q) (fun j _=>(intOf j).toNat)
 case atStart =>
  refine ⟨(n:Int)-1,by omega,by omega,rfl,?_,0,rfl⟩
  show ∀ (k:Nat) x y,_→_→_→_
  intro k x y hk hx hy
  have h1:=(List.getElem?_eq_some_iff.1 hy).1
  have:=HN.out
  omega
 case round =>
  obtain ⟨z,hz1,hz2,rfl,hok,q,rfl⟩:=hrel
  by_cases hz:0<z
  ·obtain ⟨k,rfl⟩:∃ k:Nat,z=((k+1:Nat):Int):=⟨(z-1).toNat,by omega⟩
   have hk1:k+1<n:=by omega
   obtain ⟨ad,rfl,_,c1⟩:=strs_at hr HN.out hk1
   obtain ⟨ad2,e2,_,c0⟩:=strs_at hr HN.out (show k<n by omega)
   injection e2 with e2
   subst e2
   have hkl:k+1<l.length:=by have:=HN.out;omega
   obtain ⟨x,hx⟩:∃ x,x=l[k]'(by omega):=⟨_,rfl⟩
   obtain ⟨y,hy⟩:∃ y,y=l[k+1]'hkl:=⟨_,rfl⟩
   rw [← hx] at c0
   rw [← hy] at c1
   have HX:=Lib.hid (show l[k]?=some x by rw [hx];exact List.getElem?_eq_getElem _)
   have HY:=Lib.hid (show l[k+1]?=some y by rw [hy];exact List.getElem?_eq_getElem _)
   simp only [strV] at c0 c1
   obtain ⟨K,hK⟩:∃ K,K=k+1:=⟨_,rfl⟩
   have hKk:k=K-1:=by omega
   rw [← hK] at c1 hk1 ⊢
   rw [hKk] at c0
   have i0:(0:Int)<(K:Int):=by omega
   have i1:(1:Int)≤(K:Int):=by omega
   have i5:(K:Int)<(n:Int):=by omega
   have i2:(K:Int)-1<(n:Int):=by omega
   have i3:IntKind.i64.wrap ((K:Int)-1)=(K:Int)-1:=IntWalk.i64_in _ (by omega)
   have i4:((K:Int)-1).toNat=K-1:=by omega
   have hL:∀ m,Calls Tryz.prog 165 #[.string ⟨y.toArray⟩,.string ⟨x.toArray⟩] (w.drewN (q+m)) fun e W'=>e=.returned (.bool (Op.bytesLess y x))∧∃ n,W'=w.drewN (q+n):=fun m=>by
    refine (lessS_any y x _).mono ?_
    rintro e w1 ⟨rfl,p,rfl⟩
    exact ⟨rfl,m+p,by rw [World.drewN_drewN,Nat.add_assoc]⟩
   obtain ⟨b,hb⟩:∃ b,b=Op.bytesLess y x:=⟨_,rfl⟩
   rw [← hb] at hL
   have HB:=Lib.hid hb
   have HK:=Lib.hid hK
   clear hx hy hb hr hK hKk
   cases b with
   | true =>
    have HV:Hid (V=false):=by
     show _=_
     rw [← Bool.not_eq_true]
     intro e
     have:=(HS.out.1 e).2 k x y HX.out HY.out
     rw [← HB.out] at this
     cases this
    go_wp2_with fail
    go_big_quiet ((go_at_call 165;exact hL _))
    clear hL
    go_wp2_with fail
    go_ret
    exact ⟨by rw [HV.out];rfl,_,World.drewN_drewN _ _ _⟩
   | false =>
    go_wp2_with fail
    go_big_quiet ((go_at_call 165;exact hL _))
    clear hL
    go_wp2_with fail
    go_roundw
    case rel =>
     refine ⟨(K:Int)-1,by omega,by omega,by go_num,?_,_,rfl⟩
     show ∀ (k:Nat) x y,_→_→_→_
     intro k' x' y' hk' hx' hy'
     by_cases e:k'=k
     ·subst e
      rw [HX.out] at hx'
      rw [HY.out] at hy'
      cases hx'
      cases hy'
      exact HB.out.symm
     ·exact hok.out k' x' y' (by have:=HK.out;omega) hx' hy'
    case measure=>simp [intOf];omega
  ·have HV:Hid (V=true):=by
    show _=_
    exact HS.out.2 ⟨fun q x h=>(by cases h),fun k x y hx hy=>hok.out k x y (by omega) hx hy⟩
   clear hr
   go_wp2_with fail
   go_ret
   exact ⟨by rw [HV.out];rfl,q,rfl⟩
set_option maxRecDepth 100000 in
set_option maxHeartbeats 1000000 in
theorem unlike_any (l:List BS) (n:Nat) (hnl:n=l.length) (A:Option Addr) (c:Nat) (hnc:n≤c) (w:World) (B:Nat) (hr:Reads w B 1 A n (scells l)) (hB:B≤w.heap.size) (hn:n≤5000000000000) :
  Calls Tryz.prog 203 #[.slice A n c] w fun e w'=>e=.returned (.bool (unlikeB l))∧Below w.heap.size w w':=by
 have HN:=Lib.hid hnl
 have HV:Hid (unlikeB l=unlikeF [] l):=rfl
 obtain ⟨V,hV⟩:∃ V,V=unlikeB l:=⟨_,rfl⟩
 rw [← hV] at HV ⊢
 clear hnl hV
 go_enter Tryz.func203,Tryz.ntmps203
 go_wp2_with fail
 go_loopw [7] (fun j wr=>∃ k:Nat,k≤n∧j=.int .i64 (k:Int)∧Hid (V=unlikeF (l.take k) (l.drop k))∧Below w.heap.size w wr) (fun j _=>n-(intOf j).toNat)
 case atStart=>exact ⟨0,Nat.zero_le _,rfl,HV,Below.refl _ _⟩
 case round =>
  obtain ⟨k,hk,rfl,hok,hbw⟩:=hrel
  by_cases hlt:k<n
  ·have hki:(k:Int)<(n:Int):=by omega
   have hkl:k<l.length:=by have:=HN.out;omega
   have hrw:=hr.below (hbw.mono hB)
   obtain ⟨ad,rfl,_,hcell⟩:=strs_at hrw HN.out hlt
   obtain ⟨x,hx⟩:∃ x,x=l[k]'hkl:=⟨_,rfl⟩
   rw [← hx] at hcell
   have htk:=List.take_succ_eq_append_getElem hkl
   have hdr:=List.drop_eq_getElem_cons hkl
   rw [← hx] at htk hdr
   have HU:Hid (V=(nameB x && !((l.take k).contains x) && unlikeF (l.take (k+1)) (l.drop (k+1)))):=by
    show _=_
    rw [hok.out,hdr,unlikeF_cons,htk]
   have hN:=name_any ⟨x.toArray⟩ wr
   rw [show (ByteArray.mk x.toArray).data.toList=x from rfl] at hN
   have hcn:∀ W,Below wr.heap.size wr W→Calls Tryz.prog 62 #[.slice (some ad) k c,.string ⟨x.toArray⟩] W fun e w'=>e=.returned (.bool ((l.take k).contains x))∧w'=W:=by
    intro W hW
    have hr2:=((hrw.below (hW.mono (by have:=hbw.size;omega))).pre (k:=k) (by omega))
    rw [Nat.mul_one,show (scells l).take k=scells (l.take k) by unfold scells;rw [List.map_take]] at hr2
    exact containsS_any (l.take k) x k (by rw [List.length_take];omega) (some ad) c W B hr2 (by omega)
   have hkc:(k:Int)≤(c:Int):=by omega
   simp only [strV] at hcell
   obtain ⟨bn,hbn⟩:∃ b,b=nameB x:=⟨_,rfl⟩
   obtain ⟨bc,hbc⟩:∃ b,b=(l.take k).contains x:=⟨_,rfl⟩
   rw [← hbn] at hN HU
   rw [← hbc] at hcn HU
   have HCN:=Lib.hid hcn
   clear hx htk hdr hbn hbc hr hrw hcn hok
   cases bn with
   | false =>
    have HV1:Hid (V=false):=by show _=_;rw [HU.out];rfl
    go_wp2_with fail
    refine hN.mono ?_
    rintro e w1 ⟨rfl,hb1⟩
    go_wp2_with fail
    go_ret
    exact ⟨by rw [HV1.out];rfl,hbw.trans (hb1.mono hbw.size)⟩
   | true =>
    go_wp2_with fail
    refine hN.mono ?_
    clear hN
    rintro e w1 ⟨rfl,hb1⟩
    have hbf:=hbw.trans (hb1.mono hbw.size)
    have hcl:=HCN.out _ hb1
    clear hb1 hbw HCN
    go_wp2_with fail
    refine hcl.mono ?_
    clear hcl
    rintro e w2 ⟨rfl,rfl⟩
    cases bc with
    | true =>
     have HV1:Hid (V=false):=by show _=_;rw [HU.out];rfl
     go_wp2_with fail
     go_ret
     exact ⟨by rw [HV1.out];rfl,hbf⟩
    | false =>
     have HG:Hid (V=unlikeF (l.take (k+1)) (l.drop (k+1))):=by show _=_;rw [HU.out];rfl
     go_wp2_with fail
     go_roundw
     case rel=>exact ⟨k+1,by omega,by go_num,HG,hbf⟩
     case measure=>simp [intOf];omega
  ·have hkn:k=n:=by omega
   have HF:Hid (V=true):=by
    show _=_
    rw [hok.out,List.drop_of_length_le (by rw [hkn,HN.out];exact Nat.le_refl _)]
    rfl
   clear hr hkn hok
   go_wp2_with fail
   go_ret
   exact ⟨by rw [HF.out];rfl,hbw⟩
set_option maxRecDepth 100000 in
set_option maxHeartbeats 1000000 in
theorem tagged_any (l:List BS) (n:Nat) (hnl:n=l.length) (A:Option Addr) (c:Nat) (hnc:n≤c) (w:World) (B:Nat) (hr:Reads w B 1 A n (scells l)) (hB:B≤w.heap.size) (hn:n≤5000000000000) :
  Calls Tryz.prog 202 #[.slice A n c] w fun e w'=>e=.returned (.bool (tagsB l))∧Below w.heap.size w w':=by
 have hU:=unlike_any l n hnl A c hnc w B hr hB hn
 have hS:=Lib.hid (fun W (hW:Below w.heap.size w W)=>isSorted_any l n hnl A c W B (hr.below (hW.mono hB)) hn)
 have HV:Hid (tagsB l=(decide (n≤4) && (unlikeB l && sortF none l))):=by show _=_;rw [tagged_eq,hnl];rfl
 obtain ⟨V,hV⟩:∃ V,V=tagsB l:=⟨_,rfl⟩
 obtain ⟨bu,hbu⟩:∃ V,V=unlikeB l:=⟨_,rfl⟩
 obtain ⟨bs,hbs⟩:∃ V,V=sortF none l:=⟨_,rfl⟩
 rw [← hV] at HV ⊢
 rw [← hbu] at HV hU
 rw [← hbs] at HV hS
 clear hnl hV hbu hbs hr
 by_cases h4:n≤4
 ·have hi:(n:Int)≤4:=by omega
  have HV2:Hid (V=(bu && bs)):=by show _=_;rw [HV.out,decide_eq_true h4];rfl
  cases bu with
  | false =>
   have HV3:Hid (V=false):=by show _=_;rw [HV2.out];rfl
   go_enter Tryz.func202,Tryz.ntmps202
   go_wp2_with fail
   refine hU.mono ?_
   rintro e w1 ⟨rfl,hb1⟩
   go_wp2_with fail
   go_ret
   exact ⟨by rw [HV3.out];rfl,hb1⟩
  | true =>
   have HV3:Hid (V=bs):=by show _=_;rw [HV2.out];rfl
   go_enter Tryz.func202,Tryz.ntmps202
   go_wp2_with fail
   refine hU.mono ?_
   rintro e w1 ⟨rfl,hb1⟩
   go_wp2_with fail
   refine (hS.out _ hb1).mono ?_
   rintro e w2 ⟨rfl,q,rfl⟩
   go_wp2_with fail
   go_ret
   exact ⟨by rw [HV3.out];rfl,below_drewN hb1 q⟩
 ·have hi:¬ (n:Int)≤4:=by omega
  have HV2:Hid (V=false):=by show _=_;rw [HV.out,decide_eq_false h4];rfl
  go_enter Tryz.func202,Tryz.ntmps202
  go_wp2_with fail
  go_ret
  exact ⟨by rw [HV2.out];rfl,Below.refl _ _⟩
end Go.Proofs.YtcgclpcocdappaaGreatDoor
namespace Go.Proofs.YtcgclpcocdappaaGreatDoor
open Go.Lib
theorem index_none (c:UInt8) (s:List UInt8) (h:c ∉ s):index s [c]=-1:=by
 induction s with
 | nil=>rfl
 | cons b r ih =>
  have hb:([c].isPrefixOf (b :: r))=false:=by
   have:c≠b:=fun e=>h (by rw [e];exact List.mem_cons_self ..)
   simp [List.isPrefixOf,this]
  unfold index
  rw [hb,ih (fun e=>h (List.mem_cons_of_mem _ e))]
  rfl
theorem index_some (c:UInt8) (a r:List UInt8) (h:c ∉ a):index (a++c :: r) [c]=(a.length:Int):=by
 induction a with
 | nil=>simp [index,List.isPrefixOf]
 | cons b a ih =>
  have hb:([c].isPrefixOf (b :: (a++c :: r)))=false:=by
   have:c≠b:=fun e=>h (by rw [e];exact List.mem_cons_self ..)
   simp [List.isPrefixOf,this]
  rw [List.cons_append]
  unfold index
  rw [hb,ih (fun e=>h (List.mem_cons_of_mem _ e))]
  have:(((a.length:Nat):Int) == -1)=false:=by rw [beq_eq_false_iff_ne];omega
  simp [this]
/-- a text holds no c, or one first -/
theorem first_split (c:UInt8) (s:List UInt8):c ∉ s∨∃ a r,s=a++c :: r∧c ∉ a:=by
 induction s with
 | nil=>exact .inl (by simp)
 | cons b s ih =>
  by_cases hb:c=b
  ·exact .inr ⟨[],s,by simp [hb],by simp⟩
  ·rcases ih with h | ⟨a,r,rfl,h⟩
   ·exact .inl (by simp [hb,h])
   ·exact .inr ⟨b :: a,r,rfl,by simp [hb,h]⟩
theorem partsL_one (a:List UInt8) (h:47 ∉ a):partsL a=[a]:=by
 induction a with
 | nil=>rfl
 | cons b a ih =>
  unfold partsL
  rw [if_neg (fun e=>h (by rw [e];exact List.mem_cons_self ..)),ih (fun e=>h (List.mem_cons_of_mem _ e))]
theorem partsL_two (a r:List UInt8) (h:47 ∉ a):partsL (a++47 :: r)=a :: partsL r:=by
 induction a with
 | nil=>simp [partsL]
 | cons b a ih =>
  rw [List.cons_append,partsL,if_neg (fun e=>h (by rw [e];exact List.mem_cons_self ..)),ih (fun e=>h (List.mem_cons_of_mem _ e))]
theorem splitK_parts (n:Nat):∀ s:List UInt8,s.length≤n→splitK [47] 0 (count s [47]) s=partsL s:=by
 induction n with
 | zero =>
  intro s hs
  obtain rfl:=List.eq_nil_of_length_eq_zero (Nat.le_zero.1 hs)
  rfl
 | succ n ih =>
  intro s hs
  rcases first_split 47 s with h | ⟨a,r,rfl,h⟩
  ·rw [partsL_one s h,count_miss (index_none 47 s h)]
   rfl
  ·have hi:=index_some 47 a r h
   have hd:(a++47 :: r).drop (a.length+1)=r:=by
    rw [← List.drop_drop,List.drop_append_of_le_length (Nat.le_refl _)]
    simp
   have hc:=count_hit (s:=a++47 :: r) (sub:=[47]) (i:=a.length) (by simp) hi
   rw [partsL_two a r h,hc]
   rw [show ([47]:List UInt8).length=1 from rfl,hd,Nat.add_comm 1]
   have hm:(index (a++47 :: r) [47] == -1)=false:=by rw [hi,beq_eq_false_iff_ne];omega
   unfold splitK
   rw [hm,hi,if_neg (by simp)]
   simp only [Int.toNat_natCast,Nat.add_zero,List.length_singleton,hd]
   rw [List.take_left' rfl,ih r (by simp at hs;omega)]
theorem splitB_parts (s:ByteArray):(splitB ⟨#[47]⟩ 0 (countB s ⟨#[47]⟩) s).map (·.data.toList)=partsL s.data.toList:=by
 rw [splitB_data]
 exact splitK_parts _ _ (Nat.le_refl _)
theorem splitB_len (s:ByteArray):(splitB ⟨#[47]⟩ 0 (countB s ⟨#[47]⟩) s).length=countB s ⟨#[47]⟩+1:=splitB_all ⟨#[47]⟩ (Nat.le_refl _) 0 _ s rfl
theorem atL_none (s:List UInt8) (h:64 ∉ s):atL s=none:=by
 induction s with
 | nil=>rfl
 | cons b s ih =>
  unfold atL
  rw [if_neg (fun e=>h (by rw [e];exact List.mem_cons_self ..)),ih (fun e=>h (List.mem_cons_of_mem _ e))]
theorem cut_at (s:List UInt8):cut s [64]=match atL s with
  | some (p,n)=>(p,n,true)
  | none=>(s,[],false):=by
 rcases first_split 64 s with h | ⟨a,r,rfl,h⟩
 ·rw [atL_none s h]
  unfold cut
  rw [index_none 64 s h]
  rfl
 ·rw [atL_join a r (fun c hc e=>h (by rw [← e];exact hc))]
  unfold cut
  rw [index_some 64 a r h,if_pos (by omega)]
  have hd:(a++64 :: r).drop (a.length+1)=r:=by
   rw [← List.drop_drop,List.drop_append_of_le_length (Nat.le_refl _)]
   simp
  simp only [Int.toNat_natCast,List.length_singleton,hd]
  rw [List.take_left' rfl]
theorem lastS_spec (l:List UInt8):(lastS l=none∧47 ∉ l)∨∃ k,lastS l=some k∧l[k]?=some 47∧∀ j,k<j→l[j]?≠some 47:=by
 induction l with
 | nil=>exact .inl ⟨rfl,by simp⟩
 | cons b l ih =>
  unfold lastS
  rcases ih with ⟨h,hn⟩ | ⟨k,h,hk,hj⟩
  ·rw [h]
   by_cases hb:b=47
   ·refine .inr ⟨0,by simp [hb],by simp [hb],?_⟩
    intro j hj e
    obtain ⟨j,rfl⟩:∃ i,j=i+1:=⟨j-1,by omega⟩
    rw [zD] at e
    exact hn (List.mem_of_getElem? e)
   ·exact .inl ⟨by simp [hb],by simp [hn];exact fun e=>hb e.symm⟩
  ·rw [h]
   refine .inr ⟨k+1,rfl,by simpa using hk,?_⟩
   intro j hlt e
   obtain ⟨j,rfl⟩:∃ i,j=i+1:=⟨j-1,by omega⟩
   rw [zD] at e
   exact hj j (by omega) e
theorem data_get (s:ByteArray) (j:Nat) (hj:j<s.size):s.data.toList[j]?=some s.data[j]!:=by
 have h:j<s.data.size:=hj
 rw [getElem!_pos s.data j h,Array.getElem?_toList,Array.getElem?_eq_getElem h]
theorem last_eq (s:ByteArray):(max (Lib.lastIndexByte s 47) 0)=(((lastS s.data.toList).getD 0:Nat):Int):=by
 rcases Lib.lastIndexByte_spec s 47 with ⟨h,hn⟩ | ⟨i,hi,h,hc,hn⟩
 ·rw [h]
  rcases lastS_spec s.data.toList with ⟨h2,_⟩ | ⟨k,_,hk,_⟩
  ·rw [h2];rfl
  ·exfalso
   have hks:k<s.size:=(List.getElem?_eq_some_iff.1 hk).1
   rw [data_get s k hks] at hk
   exact hn k hks (by rw [Option.some.inj hk];rfl)
 ·rw [h]
  have h47:s.data[i]! = 47:=UInt8.toNat_inj.1 (by have e:(47:UInt8).toNat=47:=rfl;rw [e];omega)
  have hi2:s.data.toList[i]?=some 47:=by rw [data_get s i hi,h47]
  rcases lastS_spec s.data.toList with ⟨_,h3⟩ | ⟨k,h2,hk,hj⟩
  ·exact absurd (List.mem_of_getElem? hi2) h3
  ·rw [h2]
   have hks:k<s.size:=(List.getElem?_eq_some_iff.1 hk).1
   have hki:k=i:=by
    rcases Nat.lt_trichotomy k i with hl | he | hg
    ·exact absurd hi2 (hj i hl)
    ·exact he
    ·rw [data_get s k hks] at hk
     exact absurd (by rw [Option.some.inj hk];rfl) (hn k hg hks)
   subst hki
   simp
theorem last_bound (l:List UInt8):(lastS l).getD 0≤l.length:=by
 rcases lastS_spec l with ⟨h,_⟩ | ⟨k,h,hk,_⟩
 ·rw [h];simp
 ·rw [h]
  have:=(List.getElem?_eq_some_iff.1 hk).1
  simp only [Option.getD_some]
  omega
end Go.Proofs.YtcgclpcocdappaaGreatDoor
namespace Go.Proofs.YtcgclpcocdappaaGreatDoor
open Go.RowKit
/-! ### Path -/
set_option maxRecDepth 100000 in
theorem path1_any (s:ByteArray) (w:World):Calls Tryz.prog 143 #[.string s] w fun e w'=>e=.returned (.bool (!nameB s.data.toList))∧Below w.heap.size w w':=by
 go_enter Tryz.func143,Tryz.ntmps143
 go_wp2_with fail
 refine (name_any s w).mono ?_
 rintro e w1 ⟨rfl,hb⟩
 go_wp2_with fail
 go_ret
 exact ⟨rfl,hb⟩
/-- the cell of internal/bytealg.MaxLen holds some number -/
def HasMax (w:World):Prop:=∃ m,w.cell? ⟨0,0,none⟩=some (.int .i64 m)
theorem HasMax.lt {w:World} (h:HasMax w):0<w.heap.size:=by
 obtain ⟨m,hm⟩:=h
 exact World.block_lt_of_cell? w _ hm
theorem HasMax.below {w w':World} (h:HasMax w) (hb:Below w.heap.size w w'):HasMax w':=by
 obtain ⟨m,hm⟩:=h
 exact ⟨m,(hb.cell (World.block_lt_of_cell? w _ hm)).trans hm⟩
theorem HasMax.of_shaped {w:World} (h:w.ShapedOpen Tryz.prog):HasMax w:=Go.Proofs.cell_of_shapedOpen_int (zero:=#[.int .i64 0]) (t:=3) h (of_decide_eq_true (by kernel_rfl)) (by kernel_rfl) rfl (by kernel_rfl) (by kernel_rfl) Tryz.underlying3
theorem path_parts (s:ByteArray) (hne:s.data.toList≠[]):(decide (Lib.countB s ⟨#[47]⟩+1≤4) && !((Lib.splitB ⟨#[47]⟩ 0 (Lib.countB s ⟨#[47]⟩) s).any fun x=>!nameB x.data.toList))=pathB s.data.toList:=by
 have he:s.data.toList.isEmpty=false:=by
  cases h:s.data.toList with
  | nil=>exact absurd h hne
  | cons a r=>rfl
 unfold pathB
 rw [he,← splitB_parts s,List.length_map,splitB_len,List.all_map,List.all_eq_not_any_not]
 rfl
set_option maxRecDepth 100000 in
set_option maxHeartbeats 1000000 in
theorem path_any (s:ByteArray) (w:World) (hs:s.size≤4000000000) (hm:HasMax w) :
  Calls Tryz.prog 80 #[.string s] w fun e w'=>e=.returned (.bool (pathB s.data.toList))∧Below w.heap.size w w':=by
 obtain ⟨m,hm⟩:=hm
 have hsp:=Lib.hid (Tryz.strings_Split s ⟨#[47]⟩ m w (by omega) hm (Nat.le_refl _))
 have hlen:=Lib.hid (splitB_len s)
 have hpp:=Lib.hid (path_parts s)
 have htl:=Lib.hid (toList_data s)
 have hcount:=Lib.hid (Lib.countB_le ⟨#[47]⟩ (Nat.le_refl _) _ s (Nat.le_refl _))
 go_enter Tryz.func80,Tryz.ntmps80
 go_wp2_with fail
 ·have h0:s.toList.isEmpty=true:=by assumption
  rw [htl.out,List.isEmpty_iff] at h0
  go_ret
  exact ⟨by rw [h0];rfl,Below.refl _ _⟩
 ·have h0:s.toList.isEmpty=false:=by assumption
  rw [htl.out] at h0
  have h1:=Lib.hid (hpp.out (fun e=>by rw [e] at h0;cases h0))
  clear h0
  obtain ⟨L,hL⟩:∃ L,L=Lib.splitB ⟨#[47]⟩ 0 (Lib.countB s ⟨#[47]⟩) s:=⟨_,rfl⟩
  obtain ⟨N,hN⟩:∃ N,N=Lib.countB s ⟨#[47]⟩+1:=⟨_,rfl⟩
  have hN2:N≤4000000001:=by have:=hcount.out;omega
  rw [← hN] at hsp hlen h1
  rw [← hL] at hsp hlen h1
  have hsp:=hsp.out
  clear hcount hpp hL hN
  obtain ⟨b,hbe⟩:∃ b,b=L.any fun x=>!nameB x.data.toList:=⟨_,rfl⟩
  rw [← hbe] at h1
  obtain ⟨W,hW⟩:∃ W,W=w.alloc (Obj.cells (List.map Value.string L).toArray 9):=⟨_,rfl⟩
  have hbW:Below w.heap.size w W:=by rw [hW];exact Below.alloc (Below.refl _ _) (Nat.le_refl _) _
  have hrW:Reads W (w.heap.size+1) 1 (some ⟨w.heap.size,0,none⟩) N (L.map Value.string):=by
   rw [hW]
   exact Reads.lit w (List.map Value.string L).toArray 9 (by simp [hlen.out])
  have hsW:W.heap.size=w.heap.size+1:=by rw [hW];show (w.heap.push _).size=_;rw [Array.size_push]
  have hc:=Lib.hid (fiS_contains Value.string (fun x=>!nameB x.data.toList) L N hlen.out.symm (some ⟨w.heap.size,0,none⟩) N W (w.heap.size+1) hrW (by omega) (by omega) (fun x _ W=>path1_any x W))
  rw [← hbe] at hc
  rw [← hW] at hsp
  clear hW hbe
  refine hsp.mono ?_
  clear hsp
  rintro e w1 ⟨rfl,rfl⟩
  go_wp2_with fail
  ·have h4:(N:Int)≤4:=by assumption
   refine hc.out.mono ?_
   rintro e w2 ⟨rfl,hb2⟩
   go_wp2_with fail
   go_ret
   refine ⟨congrArg Ending.returned (congrArg Value.bool ?_),hbW.trans (hb2.mono (by omega))⟩
   rw [← h1.out,decide_eq_true (show N≤4 by omega)]
   rfl
  ·have h4:4<(N:Int):=by assumption
   go_ret
   refine ⟨congrArg Ending.returned (congrArg Value.bool ?_),hbW⟩
   rw [← h1.out,decide_eq_false (show ¬ N≤4 by omega)]
   rfl
end Go.Proofs.YtcgclpcocdappaaGreatDoor
