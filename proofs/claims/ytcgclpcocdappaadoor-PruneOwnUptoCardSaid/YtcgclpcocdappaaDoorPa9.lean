/-
  A slice of strings in memory. slices.Index, Contains, IsSorted at texts; tree.unlike, tree.tagged: by their contracts. tree.snaps, by its contract.
-/
import Derived.Test.YtcgclpcocdappaaDoorRows
import Derived.Handy
import Derived.WalkKit
import Derived.WalkSpells
import Derived.Below
import Derived.Laws.OwnMore
import Derived.Deep.AppendLies
import Derived.Deep.Draws
import Derived.Laws.Rows
import Derived.Maps.AppendAt
import Derived.RegionTactic
import Derived.OwnWalk
import Derived.Deep.QuietTactic
import Derived.BigQuiet
import Derived.Lib.Hide
import Derived.Laws.CopyOwn
import Derived.IntWalk
import Derived.Deep.Quiet
import Derived.Laws.BytesString
import Derived.Laws.IdiomStrings
import Derived.Lib.ConvBytes
import Derived.Lib.Strings
import Derived.Orders
import Derived.Sort.Walk0
import Derived.Sort.KeysCollected
import Derived.Test.YtcgclpcocdappaaDoorP0
import Derived.Test.YtcgclpcocdappaaDoorPa1
import Derived.Test.YtcgclpcocdappaaDoorPa2
import Derived.Test.YtcgclpcocdappaaDoorPa3
import Derived.Test.YtcgclpcocdappaaDoorPa4
import Derived.Test.YtcgclpcocdappaaDoorPa5
import Derived.Test.YtcgclpcocdappaaDoorPa7
import Derived.Test.YtcgclpcocdappaaDoorPa8
import Derived.Test.YtcgclpcocdappaaDoorPa10
namespace Go.Proofs.YtcgclpcocdappaaDoor
open Go.RowKit
def scells (l:List BS):List Value:=l.map strV
theorem scells_length (l:List BS):(scells l).length=l.length:=by simp [scells]
theorem scells_append (a b:List BS):scells (a++b)=scells a++scells b:=by simp [scells]
theorem scells_one (l:List BS):∀ u∈scells l,u.oneCell'=true:=by
 intro u hu
 obtain ⟨z,_,rfl⟩:=List.mem_map.1 hu
 rfl
theorem strs_at {w:World} {B n:Nat} {A:Option Addr} {l:List BS} (h:Reads w B 1 A n (scells l)) (hn:n=l.length) {k:Nat} (hk:k<n) :
  ∃ ad,A=some ad∧ad.block<B∧w.cell? (ad.add k)=some (strV (l[k]'(by omega))):=by
 obtain ⟨ad,u,e,hB,hxu,hcell⟩:=h.at_ hk
 have hux:u=strV (l[k]'(by omega)):=by
  unfold scells at hxu
  rw [List.getElem?_map,List.getElem?_eq_getElem (by omega)] at hxu
  exact (Option.some.inj hxu).symm
 subst hux
 exact ⟨ad,e,hB,hcell⟩
theorem Tryd.infoS:(Tryd.prog.info? 9).map (fun i=>(i.zero,i.size,i.bytes))=some (some (.string ByteArray.empty),1,16):=by kernel_rfl
end Go.Proofs.YtcgclpcocdappaaDoor
namespace Go.Proofs.YtcgclpcocdappaaDoor
open Go.RowKit
theorem scells_enc (l:List BS):cellsK encS l=scells l:=by
 unfold cellsK encS scells
 induction l with
 | nil=>rfl
 | cons x l ih=>rw [List.flatMap_cons,ih];rfl
set_option maxRecDepth 100000 in
set_option maxHeartbeats 1000000 in
theorem indexS_any (l:List BS) (x:BS) (n:Nat) (hnl:n=l.length) (A:Option Addr) (c:Nat) (w:World) (B:Nat) (hr:Reads w B 1 A n (scells l)) (hn:n≤5000000000000) :
  Calls Tryd.prog 41 #[.slice A n c,.string ⟨x.toArray⟩] w fun e w'=>e=.returned (.int .i64 (firstI (fun y=>y == x) l))∧w'=w:=by
 have HN:=Lib.hid hnl
 clear hnl
 go_enter Tryd.func41,Tryd.ntmps41
 go_wp2_with fail
 go_loopw [8] (fun j wr=>∃ k:Nat,k≤n∧j=.int .i64 (k:Int)∧Hid (∀ y∈l.take k,(y == x)=false)∧wr=w) (fun j _=>n-(intOf j).toNat)
 case atStart=>exact ⟨0,Nat.zero_le _,rfl,(show ∀ y∈_,_ by simp),rfl⟩
 case round =>
  obtain ⟨k,hk,rfl,hno,hww⟩:=hrel
  have hww:=hww.symm
  subst hww
  by_cases hlt:k<n
  ·have hki:(k:Int)<(n:Int):=by omega
   have hkl:k<l.length:=by have:=HN.out;omega
   obtain ⟨ad,rfl,_,hcell⟩:=strs_at hr HN.out hlt
   obtain ⟨y,hy⟩:∃ y,y=l[k]'hkl:=⟨_,rfl⟩
   rw [← hy] at hcell
   have htk:=List.take_succ_eq_append_getElem hkl
   rw [← hy] at htk
   have HTK:=Lib.hid htk
   have HX:=Lib.hid (show l[k]?=some y by rw [hy];exact List.getElem?_eq_getElem _)
   simp only [strV] at hcell
   clear hy htk hr
   by_cases hxy:x=y
   ·subst hxy
    go_wp2_with fail
    go_ret
    have hf:=firstP_eq (fun y=>y == x) l k x hno.out HX.out (by simp)
    exact ⟨by unfold firstI;rw [hf,if_pos hkl];rfl,rfl⟩
   ·have hd:(x == y)=false:=by simpa using hxy
    have HD:Hid ((y == x)=false):=by show _=_;simpa using fun e=>hxy e.symm
    clear hxy
    go_wp2_with fail
    go_roundw
    case rel =>
     refine ⟨k+1,by omega,by go_num,?_,trivial⟩
     show ∀ z∈l.take (k+1),(z == x)=false
     intro z hz
     rw [HTK.out] at hz
     rcases List.mem_append.1 hz with hz | hz
     ·exact hno.out z hz
     ·simp at hz;subst hz;exact HD.out
    case measure=>simp [intOf];omega
  ·have hkn:k=n:=by omega
   have HF:Hid (firstI (fun y=>y == x) l=-1):=by
    show _=_
    unfold firstI
    rw [firstP_none _ l (fun y hy=>hno.out y (by rw [List.take_of_length_le (by rw [hkn,HN.out];exact Nat.le_refl _)];exact hy)),if_neg (Nat.lt_irrefl _)]
   clear hr hkn
   go_wp2_with fail
   go_ret
   exact ⟨by rw [HF.out];rfl,rfl⟩
theorem any_contains (l:List BS) (x:BS):l.any (fun y=>y == x)=l.contains x:=by
 rw [Bool.eq_iff_iff,List.any_eq_true,List.contains_iff_mem]
 exact ⟨fun ⟨y,hy,e⟩=>by rw [← (by simpa using e:y=x)];exact hy,fun h=>⟨x,h,by simp⟩⟩
set_option maxRecDepth 100000 in
theorem containsS_any (l:List BS) (x:BS) (n:Nat) (hnl:n=l.length) (A:Option Addr) (c:Nat) (w:World) (B:Nat) (hr:Reads w B 1 A n (scells l)) (hn:n≤5000000000000) :
  Calls Tryd.prog 17 #[.slice A n c,.string ⟨x.toArray⟩] w fun e w'=>e=.returned (.bool (l.contains x))∧w'=w:=by
 have hc:=Lib.hid (indexS_any l x n hnl A c w B hr hn)
 have HA:=Lib.hid ((firstI_any (fun y=>y == x) l).trans (any_contains l x))
 clear hnl hr
 go_enter Tryd.func17,Tryd.ntmps17
 go_wp2_with fail
 refine hc.out.mono ?_
 rintro e w1 ⟨rfl,rfl⟩
 go_wp2_with fail
 go_ret
 exact ⟨by rw [← HA.out];rfl,rfl⟩
set_option maxRecDepth 100000 in
theorem lessS_any (x y:BS) (w:World):Calls Tryd.prog 88 #[.string ⟨x.toArray⟩,.string ⟨y.toArray⟩] w fun e w'=>e=.returned (.bool (Op.bytesLess x y))∧∃ q,w'=w.drewN q:=by
 have hlss:=lssS 9 x y
 go_enter Tryd.func88,Tryd.ntmps88
 go_wp2_with fail
 refine (isNaNS_any x _).mono ?_
 rintro e w1 ⟨rfl,q1,rfl⟩
 go_wp2_with fail
 go_ret
 exact ⟨rfl,q1,rfl⟩
theorem sortF_iff (l:List BS) (p:Option BS):sortF p l=true↔(∀ q x,p=some q→l[0]?=some x→Op.bytesLess x q=false)∧∀ k x y,l[k]?=some x→l[k+1]?=some y→Op.bytesLess y x=false:=by
 induction l generalizing p with
 | nil=>simp [sortF]
 | cons z l ih =>
  rw [sortF_cons,Bool.and_eq_true,ih]
  constructor
  ·rintro ⟨h1,h2,h3⟩
   refine ⟨fun q x hq hx=>?_,fun k x y hx hy=>?_⟩
   ·subst hq
    simp only [zE,Option.some.injEq] at hx
    subst hx
    simpa using h1
   ·cases k with
    | zero =>
     simp only [zE,Option.some.injEq,Nat.zero_add,zD] at hx hy
     subst hx
     exact h2 _ y rfl hy
    | succ k=>exact h3 k x y (by simpa using hx) (by simpa using hy)
  ·rintro ⟨h1,h2⟩
   refine ⟨?_,fun q x hq hx=>?_,fun k x y hx hy=>h2 (k+1) x y (by simpa using hx) (by simpa using hy)⟩
   ·cases p with
    | none=>rfl
    | some q=>simpa using h1 q z rfl (by simp)
   ·cases hq
    exact h2 0 _ x (by simp) (by simpa using hx)
set_option maxRecDepth 100000 in
set_option maxHeartbeats 1000000 in
theorem isSorted_any (l:List BS) (n:Nat) (hnl:n=l.length) (A:Option Addr) (c:Nat) (w:World) (B:Nat) (hr:Reads w B 1 A n (scells l)) (hn:n≤5000000000000) :
  Calls Tryd.prog 81 #[.slice A n c] w fun e w'=>e=.returned (.bool (sortF none l))∧∃ q,w'=w.drewN q:=by
 have HN:=Lib.hid hnl
 have HS:=Lib.hid (sortF_iff l none)
 obtain ⟨V,hV⟩:∃ V,V=sortF none l:=⟨_,rfl⟩
 rw [← hV] at HS ⊢
 clear hnl hV
 have i3:IntKind.i64.wrap ((n:Int)-1)=(n:Int)-1:=IntWalk.i64_in _ (by omega)
 go_enter Tryd.func81,Tryd.ntmps81
 go_wp2_with fail
 clear i3
 go_loopw [3] (fun j wr=>∃ z:Int,-1≤z∧z≤(n:Int)-1∧j=.int .i64 z∧Hid (∀ (k:Nat) x y,z≤(k:Int)→l[k]?=some x→l[k+1]?=some y→Op.bytesLess y x=false)∧∃ q,wr=w.drewN q) (fun j _=>(intOf j).toNat)
 case atStart =>
  refine ⟨(n:Int)-1,by omega,by omega,rfl,?_,0,rfl⟩
  show ∀ (k:Nat) x y,_→_→_→_
  intro k x y hk hx hy
  have h1:=(List.getElem?_eq_some_iff.1 hy).1
  have:=HN.out
  omega
 case round =>
  obtain ⟨z,hz1,hz2,rfl,hok,q,rfl⟩:=hrel
  by_cases hz:0<z
  ·obtain ⟨k,rfl⟩:∃ k:Nat,z=((k+1:Nat):Int):=⟨(z-1).toNat,by omega⟩
   have hk1:k+1<n:=by omega
   obtain ⟨ad,rfl,_,c1⟩:=strs_at hr HN.out hk1
   obtain ⟨ad2,e2,_,c0⟩:=strs_at hr HN.out (show k<n by omega)
   injection e2 with e2
   subst e2
   have hkl:k+1<l.length:=by have:=HN.out;omega
   obtain ⟨x,hx⟩:∃ x,x=l[k]'(by omega):=⟨_,rfl⟩
   obtain ⟨y,hy⟩:∃ y,y=l[k+1]'hkl:=⟨_,rfl⟩
   rw [← hx] at c0
   rw [← hy] at c1
   have HX:=Lib.hid (show l[k]?=some x by rw [hx];exact List.getElem?_eq_getElem _)
   have HY:=Lib.hid (show l[k+1]?=some y by rw [hy];exact List.getElem?_eq_getElem _)
   simp only [strV] at c0 c1
   obtain ⟨K,hK⟩:∃ K,K=k+1:=⟨_,rfl⟩
   have hKk:k=K-1:=by omega
   rw [← hK] at c1 hk1 ⊢
   rw [hKk] at c0
   have i0:(0:Int)<(K:Int):=by omega
   have i1:(1:Int)≤(K:Int):=by omega
   have i5:(K:Int)<(n:Int):=by omega
   have i2:(K:Int)-1<(n:Int):=by omega
   have i3:IntKind.i64.wrap ((K:Int)-1)=(K:Int)-1:=IntWalk.i64_in _ (by omega)
   have i4:((K:Int)-1).toNat=K-1:=by omega
   have hL:∀ m,Calls Tryd.prog 88 #[.string ⟨y.toArray⟩,.string ⟨x.toArray⟩] (w.drewN (q+m)) fun e W'=>e=.returned (.bool (Op.bytesLess y x))∧∃ n,W'=w.drewN (q+n):=fun m=>by
    refine (lessS_any y x _).mono ?_
    rintro e w1 ⟨rfl,p,rfl⟩
    exact ⟨rfl,m+p,by rw [World.drewN_drewN,Nat.add_assoc]⟩
   obtain ⟨b,hb⟩:∃ b,b=Op.bytesLess y x:=⟨_,rfl⟩
   rw [← hb] at hL
   have HB:=Lib.hid hb
   have HK:=Lib.hid hK
   clear hx hy hb hr hK hKk
   cases b with
   | true =>
    have HV:Hid (V=false):=by
     show _=_
     rw [← Bool.not_eq_true]
     intro e
     have:=(HS.out.1 e).2 k x y HX.out HY.out
     rw [← HB.out] at this
     cases this
    go_wp2_with fail
    go_big_quiet ((go_at_call 88;exact hL _))
    clear hL
    go_wp2_with fail
    go_ret
    exact ⟨by rw [HV.out];rfl,_,World.drewN_drewN _ _ _⟩
   | false =>
    go_wp2_with fail
    go_big_quiet ((go_at_call 88;exact hL _))
    clear hL
    go_wp2_with fail
    go_roundw
    case rel =>
     refine ⟨(K:Int)-1,by omega,by omega,by go_num,?_,_,rfl⟩
     show ∀ (k:Nat) x y,_→_→_→_
     intro k' x' y' hk' hx' hy'
     by_cases e:k'=k
     ·subst e
      rw [HX.out] at hx'
      rw [HY.out] at hy'
      cases hx'
      cases hy'
      exact HB.out.symm
     ·exact hok.out k' x' y' (by have:=HK.out;omega) hx' hy'
    case measure=>simp [intOf];omega
  ·have HV:Hid (V=true):=by
    show _=_
    exact HS.out.2 ⟨fun q x h=>(by cases h),fun k x y hx hy=>hok.out k x y (by omega) hx hy⟩
   clear hr
   go_wp2_with fail
   go_ret
   exact ⟨by rw [HV.out];rfl,q,rfl⟩
set_option maxRecDepth 100000 in
set_option maxHeartbeats 1000000 in
theorem unlike_any (l:List BS) (n:Nat) (hnl:n=l.length) (A:Option Addr) (c:Nat) (hnc:n≤c) (w:World) (B:Nat) (hr:Reads w B 1 A n (scells l)) (hB:B≤w.heap.size) (hn:n≤5000000000000) :
  Calls Tryd.prog 71 #[.slice A n c] w fun e w'=>e=.returned (.bool (unlikeB l))∧Below w.heap.size w w':=by
 have HN:=Lib.hid hnl
 have HV:Hid (unlikeB l=unlikeF [] l):=rfl
 obtain ⟨V,hV⟩:∃ V,V=unlikeB l:=⟨_,rfl⟩
 rw [← hV] at HV ⊢
 clear hnl hV
 go_enter Tryd.func71,Tryd.ntmps71
 go_wp2_with fail
 go_loopw [7] (fun j wr=>∃ k:Nat,k≤n∧j=.int .i64 (k:Int)∧Hid (V=unlikeF (l.take k) (l.drop k))∧Below w.heap.size w wr) (fun j _=>n-(intOf j).toNat)
 case atStart=>exact ⟨0,Nat.zero_le _,rfl,HV,Below.refl _ _⟩
 case round =>
  obtain ⟨k,hk,rfl,hok,hbw⟩:=hrel
  by_cases hlt:k<n
  ·have hki:(k:Int)<(n:Int):=by omega
   have hkl:k<l.length:=by have:=HN.out;omega
   have hrw:=hr.below (hbw.mono hB)
   obtain ⟨ad,rfl,_,hcell⟩:=strs_at hrw HN.out hlt
   obtain ⟨x,hx⟩:∃ x,x=l[k]'hkl:=⟨_,rfl⟩
   rw [← hx] at hcell
   have htk:=List.take_succ_eq_append_getElem hkl
   have hdr:=List.drop_eq_getElem_cons hkl
   rw [← hx] at htk hdr
   have HU:Hid (V=(nameB x && !((l.take k).contains x) && unlikeF (l.take (k+1)) (l.drop (k+1)))):=by
    show _=_
    rw [hok.out,hdr,unlikeF_cons,htk]
   have hN:=name_any ⟨x.toArray⟩ wr
   rw [show (ByteArray.mk x.toArray).data.toList=x from rfl] at hN
   have hcn:∀ W,Below wr.heap.size wr W→Calls Tryd.prog 17 #[.slice (some ad) k c,.string ⟨x.toArray⟩] W fun e w'=>e=.returned (.bool ((l.take k).contains x))∧w'=W:=by
    intro W hW
    have hr2:=((hrw.below (hW.mono (by have:=hbw.size;omega))).pre (k:=k) (by omega))
    rw [Nat.mul_one,show (scells l).take k=scells (l.take k) by unfold scells;rw [List.map_take]] at hr2
    exact containsS_any (l.take k) x k (by rw [List.length_take];omega) (some ad) c W B hr2 (by omega)
   have hkc:(k:Int)≤(c:Int):=by omega
   simp only [strV] at hcell
   obtain ⟨bn,hbn⟩:∃ b,b=nameB x:=⟨_,rfl⟩
   obtain ⟨bc,hbc⟩:∃ b,b=(l.take k).contains x:=⟨_,rfl⟩
   rw [← hbn] at hN HU
   rw [← hbc] at hcn HU
   have HCN:=Lib.hid hcn
   clear hx htk hdr hbn hbc hr hrw hcn hok
   cases bn with
   | false =>
    have HV1:Hid (V=false):=by show _=_;rw [HU.out];rfl
    go_wp2_with fail
    refine hN.mono ?_
    rintro e w1 ⟨rfl,hb1⟩
    go_wp2_with fail
    go_ret
    exact ⟨by rw [HV1.out];rfl,hbw.trans (hb1.mono hbw.size)⟩
   | true =>
    go_wp2_with fail
    refine hN.mono ?_
    clear hN
    rintro e w1 ⟨rfl,hb1⟩
    have hbf:=hbw.trans (hb1.mono hbw.size)
    have hcl:=HCN.out _ hb1
    clear hb1 hbw HCN
    go_wp2_with fail
    refine hcl.mono ?_
    clear hcl
    rintro e w2 ⟨rfl,rfl⟩
    cases bc with
    | true =>
     have HV1:Hid (V=false):=by show _=_;rw [HU.out];rfl
     go_wp2_with fail
     go_ret
     exact ⟨by rw [HV1.out];rfl,hbf⟩
    | false =>
     have HG:Hid (V=unlikeF (l.take (k+1)) (l.drop (k+1))):=by show _=_;rw [HU.out];rfl
     go_wp2_with fail
     go_roundw
     case rel=>exact ⟨k+1,by omega,by go_num,HG,hbf⟩
     case measure=>simp [intOf];omega
  ·have hkn:k=n:=by omega
   have HF:Hid (V=true):=by
    show _=_
    rw [hok.out,List.drop_of_length_le (by rw [hkn,HN.out];exact Nat.le_refl _)]
    rfl
   clear hr hkn hok
   go_wp2_with fail
   go_ret
   exact ⟨by rw [HF.out];rfl,hbw⟩
set_option maxRecDepth 100000 in
set_option maxHeartbeats 1000000 in
theorem tagged_any (l:List BS) (n:Nat) (hnl:n=l.length) (A:Option Addr) (c:Nat) (hnc:n≤c) (w:World) (B:Nat) (hr:Reads w B 1 A n (scells l)) (hB:B≤w.heap.size) (hn:n≤5000000000000) :
  Calls Tryd.prog 70 #[.slice A n c] w fun e w'=>e=.returned (.bool (tagsB l))∧Below w.heap.size w w':=by
 have hU:=unlike_any l n hnl A c hnc w B hr hB hn
 have hS:=Lib.hid (fun W (hW:Below w.heap.size w W)=>isSorted_any l n hnl A c W B (hr.below (hW.mono hB)) hn)
 have HV:Hid (tagsB l=(decide (n≤4) && (unlikeB l && sortF none l))):=by show _=_;rw [tagged_eq,hnl];rfl
 obtain ⟨V,hV⟩:∃ V,V=tagsB l:=⟨_,rfl⟩
 obtain ⟨bu,hbu⟩:∃ V,V=unlikeB l:=⟨_,rfl⟩
 obtain ⟨bs,hbs⟩:∃ V,V=sortF none l:=⟨_,rfl⟩
 rw [← hV] at HV ⊢
 rw [← hbu] at HV hU
 rw [← hbs] at HV hS
 clear hnl hV hbu hbs hr
 by_cases h4:n≤4
 ·have hi:(n:Int)≤4:=by omega
  have HV2:Hid (V=(bu && bs)):=by show _=_;rw [HV.out,decide_eq_true h4];rfl
  cases bu with
  | false =>
   have HV3:Hid (V=false):=by show _=_;rw [HV2.out];rfl
   go_enter Tryd.func70,Tryd.ntmps70
   go_wp2_with fail
   refine hU.mono ?_
   rintro e w1 ⟨rfl,hb1⟩
   go_wp2_with fail
   go_ret
   exact ⟨by rw [HV3.out];rfl,hb1⟩
  | true =>
   have HV3:Hid (V=bs):=by show _=_;rw [HV2.out];rfl
   go_enter Tryd.func70,Tryd.ntmps70
   go_wp2_with fail
   refine hU.mono ?_
   rintro e w1 ⟨rfl,hb1⟩
   go_wp2_with fail
   refine (hS.out _ hb1).mono ?_
   rintro e w2 ⟨rfl,q,rfl⟩
   go_wp2_with fail
   go_ret
   exact ⟨by rw [HV3.out];rfl,below_drewN hb1 q⟩
 ·have hi:¬ (n:Int)≤4:=by omega
  have HV2:Hid (V=false):=by show _=_;rw [HV.out,decide_eq_false h4];rfl
  go_enter Tryd.func70,Tryd.ntmps70
  go_wp2_with fail
  go_ret
  exact ⟨by rw [HV2.out];rfl,Below.refl _ _⟩
end Go.Proofs.YtcgclpcocdappaaDoor
namespace Go.Proofs.YtcgclpcocdappaaDoor
open Go.RowKit
theorem bcells_enc (l:List BlkT):cellsK encB l=bcells l:=rfl
theorem pcells_enc (l:List (BS×BS)):cellsK encP l=pcells l:=rfl
def prevD (l:List SnapR) (k:Nat):Option Int:=match k with
 | 0=>none
 | j+1=>(l[j]?).map (·.gd)
theorem snap_at {w:World} {B n:Nat} {A:Option Addr} {l:List SnapR} (h:Reads w B 5 A n (cellsK encSnap l)) (hn:n=l.length) {i:Nat} (hi:i<n) :
  ∃ ad,A=some ad∧ad.block<B∧w.cell? (ad.add (i*5))=some (.string ⟨(l[i]'(by omega)).nm.toArray⟩)∧w.cell? ⟨(ad.add (i*5)).block,(ad.add (i*5)).off+1,none⟩=some (.int .i64 (l[i]'(by omega)).gd) ∧
   w.cell? ⟨(ad.add (i*5)).block,(ad.add (i*5)).off+2,none⟩=some (.slice (l[i]'(by omega)).body.A (l[i]'(by omega)).body.n (l[i]'(by omega)).body.c)∧w.cell? ⟨(ad.add (i*5)).block,(ad.add (i*5)).off+3,none⟩=some (.slice (l[i]'(by omega)).tags.A (l[i]'(by omega)).tags.n (l[i]'(by omega)).tags.c)∧w.cell? ⟨(ad.add (i*5)).block,(ad.add (i*5)).off+4,none⟩=some (.slice (l[i]'(by omega)).own.A (l[i]'(by omega)).own.n (l[i]'(by omega)).own.c) :=
 Reads.el5 (f0:=fun x:SnapR=>.string ⟨x.nm.toArray⟩) (f1:=fun x=>.int .i64 x.gd) (f2:=fun x=>.slice x.body.A x.body.n x.body.c) (f3:=fun x=>.slice x.tags.A x.tags.n x.tags.c) (f4:=fun x=>.slice x.own.A x.own.n x.own.c) h hn hi
theorem names_push (l:List SnapR) (k:Nat) (x:SnapR) (h:l.take (k+1)=l.take k++[x]):scells ((l.take (k+1)).map (·.nm))=scells ((l.take k).map (·.nm))++[strV x.nm]:=by
 rw [h,List.map_append,scells_append];rfl
set_option maxRecDepth 100000 in
set_option maxHeartbeats 4000000 in
theorem snaps_any (l:List SnapR) (n:Nat) (hnl:n=l.length) (A:Option Addr) (c:Nat) (w:World) (B:Nat) (hr:Reads w B 5 A n (cellsK encSnap l)) (he:∀ y∈l,y.rd w B) (hB:B≤w.heap.size) (hn:n≤1000000000000) (hv:∀ y∈l,y.sz) :
  Calls Tryd.prog 53 #[.slice A n c] w fun e w'=>e=.returned (.bool (snapsB l))∧Below w.heap.size w w':=by
 obtain ⟨i0,hi0,hz0,hz1,hz2⟩:=info_parts Tryd.infoS
 have HN:=Lib.hid hnl
 have HVB:Hid (snapsB l=(decide (n≤16) && snapsFrom none l && unlikeB (l.map (·.nm)))):=by show _=_;unfold snapsB;rw [hnl]
 obtain ⟨V,hV⟩:∃ V,V=snapsB l:=⟨_,rfl⟩
 rw [← hV] at HVB ⊢
 clear hnl hV
 go_enter Tryd.func53,Tryd.ntmps53
 go_wp2_with fail
 go_loopw [3,8] (fun a j wr=>∃ (k:Nat) (A1:Option Addr) (c1:Nat),k≤n∧a=.slice A1 k c1∧j=.int .i64 (k:Int)∧Hid (snapsFrom none l=snapsFrom (prevD l k) (l.drop k))∧wr.ownsRow w.heap.size 9 1 (.slice A1 k c1) k (scells ((l.take k).map (·.nm)))∧Below w.heap.size w wr) (fun _ j _=>n-(intOf j).toNat)
 case atStart=>exact ⟨0,none,0,Nat.zero_le _,rfl,rfl,rfl,⟨rfl,.inl ⟨rfl,rfl⟩⟩,Below.refl _ _⟩
 case round =>
  obtain ⟨k,A1,c1,hk,rfl,rfl,hok,hown,hbw⟩:=hrel
  by_cases hlt:k<n
  ·have hrw:=hr.below (hbw.mono hB)
   obtain ⟨ad,rfl,hadB,c0,c1',c2,c3,c4⟩:=snap_at hrw HN.out hlt
   have hki:(k:Int)<(n:Int):=by omega
   have hkl:k<l.length:=by have:=HN.out;omega
   obtain ⟨x,hx⟩:∃ x,x=l[k]'hkl:=⟨_,rfl⟩
   have hxm:x∈l:=by rw [hx];exact List.getElem_mem _
   have hxr:=he x hxm
   have hxs:=hv x hxm
   rw [← hx] at c0 c1' c2 c3 c4
   have htk:=List.take_succ_eq_append_getElem hkl
   have hdr:=List.drop_eq_getElem_cons hkl
   rw [← hx] at hdr htk
   have HNT:=Lib.hid (names_push l k x htk)
   have hbad:Hid ((amt x.gd 1=false∨(∃ y,prevD l k=some y∧¬ y<x.gd)∨okL x.body.l=false∨propsB x.own.l=false∨tagsB x.tags.l=false)→V=false):=by
    show _→_
    intro h
    rw [HVB.out,hok.out,hdr,snapsFrom_cons]
    unfold snapOk
    rcases h with h | ⟨y,hy,h⟩ | h | h | h
    ·rw [h];simp
    ·rw [hy];simp only [decide_eq_false h];simp
    ·rw [h];simp
    ·rw [h];simp
    ·rw [h];simp
   have hgood:Hid (amt x.gd 1=true→(∀ y,prevD l k=some y→y<x.gd)→okL x.body.l=true→propsB x.own.l=true→tagsB x.tags.l=true→Hid (snapsFrom none l=snapsFrom (prevD l (k+1)) (l.drop (k+1)))):=by
    show _→_→_→_→_→_
    intro h1 h2 h3 h4 h5
    show _=_
    rw [hok.out,hdr,snapsFrom_cons]
    have hp:prevD l (k+1)=some x.gd:=by
     show (l[k]?).map _=_
     rw [List.getElem?_eq_getElem hkl,← hx]
     rfl
    unfold snapOk
    rw [hp,h1,h3,h4,h5]
    cases hq:prevD l k with
    | none=>rfl
    | some y=>simp only [decide_eq_true (h2 y hq)];rfl
   have hprev:(decide ((0:Int)<(k:Int))=false∧decide (0<k)=false∧Hid (∀ y,prevD l k=some y→y<x.gd))∨(decide ((0:Int)<(k:Int))=true∧decide (0<k)=true∧(1:Int)≤(k:Int)∧(k:Int)-1<(n:Int)∧IntKind.i64.wrap ((k:Int)-1)=(k:Int)-1∧((k:Int)-1).toNat=k-1∧∃ yg,Hid ((¬ x.gd≤yg→∀ y,prevD l k=some y→y<x.gd)∧(x.gd≤yg→∃ y,prevD l k=some y∧¬ y<x.gd))∧Hid (∃ h:k-1<l.length,yg=(l[k-1]'h).gd)):=by
    rcases Nat.eq_zero_or_pos k with h0 | h0
    ·exact .inl ⟨by simp;omega,by simp;omega,(fun y hy=>by subst h0;cases hy)⟩
    ·have hk1l:k-1<l.length:=by omega
     have hpv:prevD l k=some (l[k-1]'hk1l).gd:=by
      obtain ⟨j,rfl⟩:∃ j,k=j+1:=⟨k-1,by omega⟩
      show (l[j]?).map _=_
      have hj:j<l.length:=by simpa using hk1l
      rw [List.getElem?_eq_getElem hj]
      rfl
     refine .inr ⟨by simp;omega,by simp;omega,by omega,by omega,IntWalk.i64_in _ (by omega),by omega,(l[k-1]'hk1l).gd,?_,⟨hk1l,rfl⟩⟩
     exact ⟨fun h y hy=>by rw [hpv] at hy;cases hy;omega,fun h=>⟨_,hpv,by omega⟩⟩
   have hA:∀ W,Calls Tryd.prog 27 #[.int .i64 x.gd,.int .i64 1] W fun e W'=>e=.returned (.bool (amt x.gd 1))∧W'=W:=fun W=>amount_any x.gd 1 W
   obtain ⟨W0,hW0⟩:∃ W0,W0=wr.alloc (.cells #[.string ⟨x.nm.toArray⟩,.int .i64 x.gd,.slice x.body.A x.body.n x.body.c,.slice x.tags.A x.tags.n x.tags.c,.slice x.own.A x.own.n x.own.c] 42):=⟨_,rfl⟩
   have hblk:Blk W0 wr.heap.size 42 #[.string ⟨x.nm.toArray⟩,.int .i64 x.gd,.slice x.body.A x.body.n x.body.c,.slice x.tags.A x.tags.n x.tags.c,.slice x.own.A x.own.n x.own.c]:=by rw [hW0];exact Blk.new wr _ _
   have hszW:W0.heap.size=wr.heap.size+1:=by rw [hW0];show (wr.heap.push _).size=_;rw [Array.size_push]
   have hlt0:wr.heap.size<W0.heap.size:=by omega
   have HSZ:=Lib.hid hszW
   have hwr:=hbw.size
   have hbW:Below w.heap.size w W0:=by rw [hW0];exact hbw.alloc hbw.size _
   have hown0:Hid (∀ W,Below W0.heap.size W0 W→W.ownsRow w.heap.size 9 1 (.slice A1 k c1) k (scells ((l.take k).map (·.nm)))):=by
    show ∀ W,_→_
    intro W hb
    refine own_below (w:=W0) ?_ hb
    rw [hW0]
    exact hown.alloc _
   have hrd:∀ W,Below W0.heap.size W0 W→x.rd W B:=fun W hb=>⟨hxr.body.below ((hbW.trans (hb.mono (by omega))).mono hB),hxr.tags.below ((hbW.trans (hb.mono (by omega))).mono hB),hxr.own.below ((hbW.trans (hb.mono (by omega))).mono hB)⟩
   have hBk:Hid (∀ W,Below W0.heap.size W0 W→Calls Tryd.prog 52 #[.slice x.body.A x.body.n x.body.c] W fun e W'=>e=.returned (.int .i64 (if okL x.body.l=true then 0 else 9))∧Below W.heap.size W W'):=fun W hb =>
    checkBk_any x.body.l x.body.n (hrd W hb).body.1 x.body.A x.body.c W B (hrd W hb).body.2.2 (by have:=hb.size;omega) (by have:=hxs.body;omega)
   have hPr:Hid (∀ W,Below W0.heap.size W0 W→Calls Tryd.prog 51 #[.slice x.own.A x.own.n x.own.c] W fun e W'=>e=.returned (.int .i64 (if propsB x.own.l=true then 0 else 9))∧Below W.heap.size W W'):=fun W hb =>
    checkP_any x.own.l x.own.n (hrd W hb).own.1 x.own.A x.own.c W B (hrd W hb).own.2.2 (by have:=hb.size;omega) (by have:=hxs.own;omega) (fun p hp=>by have:=hxs.props p hp;omega)
   have hTg:Hid (∀ W,Below W0.heap.size W0 W→Calls Tryd.prog 70 #[.slice x.tags.A x.tags.n x.tags.c] W fun e W'=>e=.returned (.bool (tagsB x.tags.l))∧Below W.heap.size W W'):=fun W hb =>
    tagged_any x.tags.l x.tags.n (hrd W hb).tags.1 x.tags.A x.tags.c (hrd W hb).tags.2.1 W B (by rw [← scells_enc];exact (hrd W hb).tags.2.2) (by have:=hb.size;omega) (by have:=hxs.tags;omega)
   have hS:Hid (∀ W,Below W0.heap.size W0 W→W.cell? ⟨wr.heap.size,0,none⟩=some (.string ⟨x.nm.toArray⟩)∧W.cell? ⟨wr.heap.size,1,none⟩=some (.int .i64 x.gd)∧W.cell? ⟨wr.heap.size,2,none⟩=some (.slice x.body.A x.body.n x.body.c)∧W.cell? ⟨wr.heap.size,3,none⟩=some (.slice x.tags.A x.tags.n x.tags.c)∧W.cell? ⟨wr.heap.size,4,none⟩=some (.slice x.own.A x.own.n x.own.c) ∧
     ∀ yg,(∃ h:k-1<l.length,yg=(l[k-1]'h).gd)→W.cell? ⟨(ad.add ((k-1)*5)).block,(ad.add ((k-1)*5)).off+1,none⟩=some (.int .i64 yg)):=by
    show ∀ W,_→_
    intro W hb
    have hb2:=hblk.below hb hlt0
    refine ⟨hb2.cell 0,hb2.cell 1,hb2.cell 2,hb2.cell 3,hb2.cell 4,?_⟩
    rintro yg ⟨h,rfl⟩
    have hr2:=hr.below ((hbW.trans (hb.mono (by omega))).mono hB)
    obtain ⟨ad2,e2,-,-,p1,-⟩:=snap_at hr2 HN.out (i:=k-1) (by omega)
    injection e2 with e2
    subst e2
    exact p1
   have hS0:=(Below.refl W0.heap.size W0).drew
   obtain ⟨nm,gd,⟨b1,b2,b3,bl⟩,⟨t1,t2,t3,tl⟩,⟨o1,o2,o3,ol⟩⟩:=x
   simp only at c0 c1' c2 c3 c4 hbad hgood hprev hA hW0 hBk hPr hTg hS HNT
   clear hx hdr htk hok hxm hxr hxs hrd hblk hr hrw hown he hv
   obtain ⟨bA,hbA⟩:∃ b,b=amt gd 1:=⟨_,rfl⟩
   obtain ⟨bB,hbB⟩:∃ b,b=okL bl:=⟨_,rfl⟩
   obtain ⟨bP,hbP⟩:∃ b,b=propsB ol:=⟨_,rfl⟩
   obtain ⟨bT,hbT⟩:∃ b,b=tagsB tl:=⟨_,rfl⟩
   rw [← hbA] at hbad hgood hA
   rw [← hbB] at hbad hgood hBk
   rw [← hbP] at hbad hgood hPr
   rw [← hbT] at hbad hgood hTg
   clear hbA hbB hbP hbT
   go_wp2_with fail
   rw [← hW0]
   clear hW0 hszW c0 c1' c2 c3 c4
   refine wpC_regionH (fun W'=>Below W0.heap.size W0 W') (hS0) (fun OPS D QQ HO HD HD2 HQQ=>?_)
   have hgo4:=hgoL HO 4 17 rfl
   have hgo7:=hgoL HO 7 20 rfl
   have hgo19:=hgoL HO 19 32 rfl
   have hgo25:=hgoL HO 25 38 rfl
   have hgo31:=hgoL HO 31 44 rfl
   clear HO
   refine zX ?_
   refine zY ?_
   cases bA with
   | false =>
    have HB:=Lib.hid (hbad.out (.inl rfl))
    refine wpC_readS (v:=.bool false) rfl rfl (fun W hW=>?_) ?_
    ·replace hW:=HD.out W hW
     obtain ⟨q0,q1,q2,q3,q4,qp⟩:=hS.out W hW
     go_simp
     refine (hA _).mono ?_
     rintro e w4 ⟨rfl,rfl⟩
     exact ⟨rfl,HD2.out _ hW⟩
    dsimp only [zB,zC]
    iterate 34 refine zX ?_
    refine wpQuiet_nil (HQQ.out _ (fun W hW=>?_))
    obtain ⟨q0,q1,q2,q3,q4,qp⟩:=hS.out W hW
    go_wp2_with fail
    go_ret
    exact ⟨by rw [HB.out];rfl,hbW.trans (hW.mono (by have:=HSZ.out;omega))⟩
   | true =>
    refine wpC_readS (v:=.bool true) rfl rfl (fun W hW=>?_) ?_
    ·replace hW:=HD.out W hW
     obtain ⟨q0,q1,q2,q3,q4,qp⟩:=hS.out W hW
     go_simp
     refine (hA _).mono ?_
     rintro e w4 ⟨rfl,rfl⟩
     exact ⟨rfl,HD2.out _ hW⟩
    dsimp only [zB,zC]
    iterate 3 refine zX ?_
    rcases hprev with ⟨d4,d4',d5⟩ | ⟨d4,d4',i1,i2,i3,i4,yg,d5,d6⟩
    ·iterate 15 refine zX ?_
     refine zY ?_
     cases bB with
     | false =>
      have HB:=Lib.hid (hbad.out (.inr (.inr (.inl rfl))))
      refine zN hBk.out ?_
      iterate 14 refine zX ?_
      refine wpQuiet_nil (HQQ.out _ (fun W hW=>?_))
      obtain ⟨q0,q1,q2,q3,q4,qp⟩:=hS.out W hW
      go_wp2_with fail
      go_ret
      exact ⟨by rw [HB.out];rfl,hbW.trans (hW.mono (by have:=HSZ.out;omega))⟩
     | true =>
      refine zN hBk.out ?_
      iterate 4 refine zX ?_
      refine zY ?_
      cases bP with
      | false =>
       have HB:=Lib.hid (hbad.out (.inr (.inr (.inr (.inl rfl)))))
       refine zN hPr.out ?_
       iterate 8 refine zX ?_
       refine wpQuiet_nil (HQQ.out _ (fun W hW=>?_))
       obtain ⟨q0,q1,q2,q3,q4,qp⟩:=hS.out W hW
       go_wp2_with fail
       go_ret
       exact ⟨by rw [HB.out];rfl,hbW.trans (hW.mono (by have:=HSZ.out;omega))⟩
      | true =>
       refine zN hPr.out ?_
       iterate 4 refine zX ?_
       refine zY ?_
       cases bT with
       | false =>
        have HB:=Lib.hid (hbad.out (.inr (.inr (.inr (.inr rfl)))))
        refine zN hTg.out ?_
        iterate 2 refine zX ?_
        refine wpQuiet_nil (HQQ.out _ (fun W hW=>?_))
        obtain ⟨q0,q1,q2,q3,q4,qp⟩:=hS.out W hW
        go_wp2_with fail
        go_ret
        exact ⟨by rw [HB.out];rfl,hbW.trans (hW.mono (by have:=HSZ.out;omega))⟩
       | true =>
        refine zN hTg.out ?_
        iterate 2 refine zX ?_
        refine wpQuiet_nil (HQQ.out _ (fun W hW=>?_))
        obtain ⟨q0,q1,q2,q3,q4,qp⟩:=hS.out W hW
        have HGG:=Lib.hid (hgood.out rfl d5.out rfl rfl rfl)
        have hown1:=hown0.out _ hW
        have hbf:=hbW.trans (hW.mono (by have:=HSZ.out;omega))
        have hbase:=hbf.size
        go_wp2_with (at_builtin;(refine wpList_push W rfl (.tmp 50) (.tmp 53) 39 rfl w.heap.size 9 i0 (.string ByteArray.empty) 1 16 Tryd.underlying39 hi0 hz0 hz1 hz2 rfl (by omega) (.slice A1 k c1) k _ rfl hown1 1 #[.string ⟨nm.toArray⟩] 9 rfl rfl (by simp [Value.oneCell']) (by unfold maxLen;omega) (by omega) hbase ?_);intro v' w' ho' hb' hg')
        obtain ⟨A2,c2,rfl,_,_,_⟩:=own_form ho'
        go_wp2_with fail
        go_roundw
        case rel=>exact ⟨k+1,A2,c2,by omega,rfl,by go_num,HGG.out,by rw [HNT.out];exact ho',hbf.trans hb'⟩
        case measure=>simp [intOf];omega
    ·iterate 7 refine zX ?_
     refine wpC_greadS (v:=?_) rfl rfl hgo7.out rfl (fun W hW=>?_) ?_
     rotate_left
     ·replace hW:=HD.out W hW
      obtain ⟨q0,q1,q2,q3,q4,qp⟩:=hS.out W hW
      replace qp:=qp _ d6.out
      go_simp;try (with_reducible rfl)
     dsimp only [zB,zC]
     refine zX ?_
     refine zY ?_
     by_cases hg:gd≤yg
     ·have HB:=Lib.hid (hbad.out (.inr (.inl (d5.out.2 hg))))
      have hgd:decide (gd≤yg)=true:=by simpa using hg
      iterate 21 refine zX ?_
      refine wpQuiet_nil (HQQ.out _ (fun W hW=>?_))
      obtain ⟨q0,q1,q2,q3,q4,qp⟩:=hS.out W hW
      go_wp2_with fail
      go_ret
      exact ⟨by rw [HB.out];rfl,hbW.trans (hW.mono (by have:=HSZ.out;omega))⟩
     ·have HG:=d5.out.1 (by omega)
      have hgd:decide (gd≤yg)=false:=by simpa using hg
      iterate 5 refine zX ?_
      refine zY ?_
      cases bB with
      | false =>
       have HB:=Lib.hid (hbad.out (.inr (.inr (.inl rfl))))
       refine zN hBk.out ?_
       iterate 14 refine zX ?_
       refine wpQuiet_nil (HQQ.out _ (fun W hW=>?_))
       obtain ⟨q0,q1,q2,q3,q4,qp⟩:=hS.out W hW
       go_wp2_with fail
       go_ret
       exact ⟨by rw [HB.out];rfl,hbW.trans (hW.mono (by have:=HSZ.out;omega))⟩
      | true =>
       refine zN hBk.out ?_
       iterate 4 refine zX ?_
       refine zY ?_
       cases bP with
       | false =>
        have HB:=Lib.hid (hbad.out (.inr (.inr (.inr (.inl rfl)))))
        refine zN hPr.out ?_
        iterate 8 refine zX ?_
        refine wpQuiet_nil (HQQ.out _ (fun W hW=>?_))
        obtain ⟨q0,q1,q2,q3,q4,qp⟩:=hS.out W hW
        go_wp2_with fail
        go_ret
        exact ⟨by rw [HB.out];rfl,hbW.trans (hW.mono (by have:=HSZ.out;omega))⟩
       | true =>
        refine zN hPr.out ?_
        iterate 4 refine zX ?_
        refine zY ?_
        cases bT with
        | false =>
         have HB:=Lib.hid (hbad.out (.inr (.inr (.inr (.inr rfl)))))
         refine zN hTg.out ?_
         iterate 2 refine zX ?_
         refine wpQuiet_nil (HQQ.out _ (fun W hW=>?_))
         obtain ⟨q0,q1,q2,q3,q4,qp⟩:=hS.out W hW
         go_wp2_with fail
         go_ret
         exact ⟨by rw [HB.out];rfl,hbW.trans (hW.mono (by have:=HSZ.out;omega))⟩
        | true =>
         refine zN hTg.out ?_
         iterate 2 refine zX ?_
         refine wpQuiet_nil (HQQ.out _ (fun W hW=>?_))
         obtain ⟨q0,q1,q2,q3,q4,qp⟩:=hS.out W hW
         have HGG:=Lib.hid (hgood.out rfl HG rfl rfl rfl)
         have hown1:=hown0.out _ hW
         have hbf:=hbW.trans (hW.mono (by have:=HSZ.out;omega))
         have hbase:=hbf.size
         go_wp2_with (at_builtin;(refine wpList_push W rfl (.tmp 50) (.tmp 53) 39 rfl w.heap.size 9 i0 (.string ByteArray.empty) 1 16 Tryd.underlying39 hi0 hz0 hz1 hz2 rfl (by omega) (.slice A1 k c1) k _ rfl hown1 1 #[.string ⟨nm.toArray⟩] 9 rfl rfl (by simp [Value.oneCell']) (by unfold maxLen;omega) (by omega) hbase ?_);intro v' w' ho' hb' hg')
         obtain ⟨A2,c2,rfl,_,_,_⟩:=own_form ho'
         go_wp2_with fail
         go_roundw
         case rel=>exact ⟨k+1,A2,c2,by omega,rfl,by go_num,HGG.out,by rw [HNT.out];exact ho',hbf.trans hb'⟩
         case measure=>simp [intOf];omega
  ·have hkn:k=n:=by omega
   have HF:Hid (V=(decide (n≤16) && unlikeB (l.map (·.nm)))):=by
    show _=_
    rw [HVB.out,hok.out,List.drop_of_length_le (by rw [hkn,HN.out];exact Nat.le_refl _)]
    simp [snapsFrom]
   obtain ⟨A',c',e',hk1,hk2,hro⟩:=own_form hown
   injection e' with e1 _ e3
   subst e1 e3
   rw [List.take_of_length_le (by rw [hkn,HN.out];exact Nat.le_refl _)] at hro
   have hU:=unlike_any (l.map (·.nm)) k (by rw [List.length_map,hkn,HN.out]) A1 c1 hk1 wr _ hro (Nat.le_refl _) (by omega)
   obtain ⟨bu,hbu⟩:∃ V,V=unlikeB (l.map (·.nm)):=⟨_,rfl⟩
   rw [← hbu] at hU HF
   clear hr hok hown hro hbu he hv
   by_cases h8:n≤16
   ·have hi8:(n:Int)≤(16:Int):=by omega
    have HV1:Hid (V=bu):=by show _=_;rw [HF.out,decide_eq_true h8];rfl
    clear hkn
    go_wp2_with fail
    refine hU.mono ?_
    rintro e w1 ⟨rfl,hb1⟩
    go_wp2_with fail
    go_ret
    exact ⟨by rw [HV1.out];rfl,hbw.trans (hb1.mono hbw.size)⟩
   ·have hi8:¬ (n:Int)≤(16:Int):=by omega
    have HV1:Hid (V=false):=by show _=_;rw [HF.out,decide_eq_false h8];rfl
    clear hkn hU
    go_wp2_with fail
    go_ret
    exact ⟨by rw [HV1.out];rfl,hbw⟩
end Go.Proofs.YtcgclpcocdappaaDoor
