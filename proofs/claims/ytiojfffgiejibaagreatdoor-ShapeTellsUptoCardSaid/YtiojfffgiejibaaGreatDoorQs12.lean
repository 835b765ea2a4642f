/-
  tree.snaps, by its contract. tree.origin, by its contract.
-/
import Derived.Test.YtiojfffgiejibaaGreatDoorQsM1
import Derived.WalkKit
import Derived.WalkSpells
import Derived.Below
import Derived.Laws.OwnMore
import Derived.Deep.AppendLies
import Derived.Deep.Draws
import Derived.Laws.Rows
import Derived.Maps.AppendAt
import Derived.RegionTactic
import Derived.OwnWalk
import Derived.Deep.QuietTactic
import Derived.BigQuiet
import Derived.Lib.Hide
import Derived.Laws.CopyOwn
import Derived.IntWalk
import Derived.Test.YtiojfffgiejibaaGreatDoorRows
import Derived.Handy
import Derived.Deep.Quiet
import Derived.Orders
import Derived.Sort.Walk0
import Derived.Sort.KeysCollected
import Derived.Laws.BytesString
import Derived.Laws.IdiomStrings
import Derived.Lib.ConvBytes
import Derived.Lib.Strings
import Derived.Lib.SplitLaws
import Derived.Lib.LastIndexByte
import Derived.ShutString
import Derived.Shelf.Strings.Search1
import Derived.Shelf.Strings.Search2
import Derived.Shelf.Strings.Search3
import Derived.Shelf.Strings.Cut
import Derived.Shelf.Strings.Count
import Derived.Shelf.LaysM
import Derived.Shelf.Strings.Shaped
import Derived.Shelf.Strings.LastIndex
import Derived.Shelf.Strings.Split
import Derived.Shelf.Strings.SplitShaped
import Derived.Shelf.Unicode.Decode
import Derived.Shelf.Strings.RuneCount
import Derived.Shelf.Strings.Explode
import Derived.Shelf.Unicode.DecodeSlow
import Derived.Shelf.Slices.Turned
import Derived.Test.YtiojfffgiejibaaGreatDoorProg
import Derived.Test.YtiojfffgiejibaaGreatDoorQ0
import Derived.Test.YtiojfffgiejibaaGreatDoorQs1
import Derived.Test.YtiojfffgiejibaaGreatDoorQs2
import Derived.Test.YtiojfffgiejibaaGreatDoorQs3
import Derived.Test.YtiojfffgiejibaaGreatDoorQs4
import Derived.Test.YtiojfffgiejibaaGreatDoorQs5
import Derived.Test.YtiojfffgiejibaaGreatDoorQs6
import Derived.Test.YtiojfffgiejibaaGreatDoorQs7
import Derived.Test.YtiojfffgiejibaaGreatDoorQs8
import Derived.Test.YtiojfffgiejibaaGreatDoorQs9
import Derived.Test.YtiojfffgiejibaaGreatDoorQs10
namespace Go.Proofs.YtiojfffgiejibaaGreatDoor
open Go.RowKit
def prevD (l:List SnapR) (k:Nat):Option Int:=match k with
 | 0=>none
 | j+1=>(l[j]?).map (·.gd)
theorem snap_at {w:World} {B n:Nat} {A:Option Addr} {l:List SnapR} (h:Reads w B 5 A n (cellsK encSnap l)) (hn:n=l.length) {i:Nat} (hi:i<n) :
  ∃ ad,A=some ad∧ad.block<B∧w.cell? (ad.add (i*5))=some (.string ⟨(l[i]'tZ1).nm.toArray⟩)∧w.cell? ⟨(ad.add (i*5)).block,(ad.add (i*5)).off+1,none⟩=some (.int .i64 (l[i]'tZ1).gd) ∧
   w.cell? ⟨(ad.add (i*5)).block,(ad.add (i*5)).off+2,none⟩=some (.slice (l[i]'tZ1).body.A (l[i]'tZ1).body.n (l[i]'tZ1).body.c)∧w.cell? ⟨(ad.add (i*5)).block,(ad.add (i*5)).off+3,none⟩=some (.slice (l[i]'tZ1).tags.A (l[i]'tZ1).tags.n (l[i]'tZ1).tags.c)∧w.cell? ⟨(ad.add (i*5)).block,(ad.add (i*5)).off+4,none⟩=some (.slice (l[i]'tZ1).own.A (l[i]'tZ1).own.n (l[i]'tZ1).own.c) :=
 Reads.el5 (f0:=fun x:SnapR=>.string ⟨x.nm.toArray⟩) (f1:=fun x=>.int .i64 x.gd) (f2:=fun x=>.slice x.body.A x.body.n x.body.c) (f3:=fun x=>.slice x.tags.A x.tags.n x.tags.c) (f4:=fun x=>.slice x.own.A x.own.n x.own.c) h hn hi
theorem names_push (l:List SnapR) (k:Nat) (x:SnapR) (h:l.take (k+1)=l.take k++[x]):scells ((l.take (k+1)).map (·.nm))=scells ((l.take k).map (·.nm))++[strV x.nm]:=by
 rw [h,List.map_append,scells_append];rfl
set_option maxRecDepth 100000 in
set_option maxHeartbeats 4000000 in
theorem snaps_any (l:List SnapR) (n:Nat) (hnl:n=l.length) (A:Option Addr) (c:Nat) (w:World) (B:Nat) (hr:Reads w B 5 A n (cellsK encSnap l)) (he:∀ y∈l,y.rd w B) (hB:B≤w.heap.size) (hn:n≤1000000000000) (hv:∀ y∈l,y.sz) :
  Calls Tryz.prog 146 #[.slice A n c] w fun e w'=>e=.returned (.bool (snapsB l))∧Below w.heap.size w w':=by
 obtain ⟨i0,hi0,hz0,hz1,hz2⟩:=info_parts Tryz.infoS
 have HN:=Lib.hid hnl
 have HVB:Hid (snapsB l=(decide (n≤16) && snapsFrom none l && unlikeB (l.map (·.nm)))):=by show _=_;unfold snapsB;rw [hnl]
 obtain ⟨V,hV⟩:∃ V,V=snapsB l:=⟨_,rfl⟩
 rw [← hV] at HVB ⊢
 clear hnl hV
 go_enter Tryz.func146,Tryz.ntmps146
 go_wp2_with fail
 go_loopw [3,8] (fun a j wr=>∃ (k:Nat) (A1:Option Addr) (c1:Nat),k≤n∧a=.slice A1 k c1∧j=.int .i64 (k:Int)∧Hid (snapsFrom none l=snapsFrom (prevD l k) (l.drop k))∧wr.ownsRow w.heap.size 9 1 (.slice A1 k c1) k (scells ((l.take k).map (·.nm)))∧Below w.heap.size w wr) (fun _ j _=>n-(intOf j).toNat)
 case atStart=>exact ⟨0,none,0,Nat.zero_le _,rfl,rfl,rfl,⟨rfl,.inl ⟨rfl,rfl⟩⟩,Below.refl _ _⟩
 case round =>
  obtain ⟨k,A1,c1,hk,rfl,rfl,hok,hown,hbw⟩:=hrel
  by_cases hlt:k<n
  ·have hrw:=hr.below (hbw.mono hB)
   obtain ⟨ad,rfl,hadB,c0,c1',c2,c3,c4⟩:=snap_at hrw HN.out hlt
   have hki:(k:Int)<(n:Int):=tZ1
   have hkl:k<l.length:=tZ9
   obtain ⟨x,hx⟩:∃ x,x=l[k]'hkl:=⟨_,rfl⟩
   have hxm:x∈l:=tZ12
   have hxr:=he x hxm
   have hxs:=hv x hxm
   rw [← hx] at c0 c1' c2 c3 c4
   have htk:=List.take_succ_eq_append_getElem hkl
   have hdr:=List.drop_eq_getElem_cons hkl
   rw [← hx] at hdr htk
   have HNT:=Lib.hid (names_push l k x htk)
   have hbad:Hid ((amt x.gd 1=false∨(∃ y,prevD l k=some y∧¬ y<x.gd)∨okL x.body.l=false∨propsB x.own.l=false∨tagsB x.tags.l=false)→V=false):=by
    show _→_
    intro h
    rw [HVB.out,hok.out,hdr,snapsFrom_cons]
    unfold snapOk
    rcases h with h | ⟨y,hy,h⟩ | h | h | h
    ·rw [h];simp
    ·rw [hy];simp only [decide_eq_false h];simp
    ·rw [h];simp
    ·rw [h];simp
    ·rw [h];simp
   have hgood:Hid (amt x.gd 1=true→(∀ y,prevD l k=some y→y<x.gd)→okL x.body.l=true→propsB x.own.l=true→tagsB x.tags.l=true→Hid (snapsFrom none l=snapsFrom (prevD l (k+1)) (l.drop (k+1)))):=by
    show _→_→_→_→_→_
    intro h1 h2 h3 h4 h5
    show _=_
    rw [hok.out,hdr,snapsFrom_cons]
    have hp:prevD l (k+1)=some x.gd:=by
     exact mZ71
    unfold snapOk
    rw [hp,h1,h3,h4,h5]
    exact mZ79
   have hprev:(decide ((0:Int)<(k:Int))=false∧decide (0<k)=false∧Hid (∀ y,prevD l k=some y→y<x.gd))∨(decide ((0:Int)<(k:Int))=true∧decide (0<k)=true∧(1:Int)≤(k:Int)∧(k:Int)-1<(n:Int)∧IntKind.i64.wrap ((k:Int)-1)=(k:Int)-1∧((k:Int)-1).toNat=k-1∧∃ yg,Hid ((¬ x.gd≤yg→∀ y,prevD l k=some y→y<x.gd)∧(x.gd≤yg→∃ y,prevD l k=some y∧¬ y<x.gd))∧Hid (∃ h:k-1<l.length,yg=(l[k-1]'h).gd)):=by
    exact mZ78
   have hA:∀ W,Calls Tryz.prog 105 #[.int .i64 x.gd,.int .i64 1] W fun e W'=>e=.returned (.bool (amt x.gd 1))∧W'=W:=fun W=>amount_any x.gd 1 W
   obtain ⟨W0,hW0⟩:∃ W0,W0=wr.alloc (.cells #[.string ⟨x.nm.toArray⟩,.int .i64 x.gd,.slice x.body.A x.body.n x.body.c,.slice x.tags.A x.tags.n x.tags.c,.slice x.own.A x.own.n x.own.c] 58):=⟨_,rfl⟩
   have hblk:Blk W0 wr.heap.size 58 #[.string ⟨x.nm.toArray⟩,.int .i64 x.gd,.slice x.body.A x.body.n x.body.c,.slice x.tags.A x.tags.n x.tags.c,.slice x.own.A x.own.n x.own.c]:=tZ46
   have hszW:W0.heap.size=wr.heap.size+1:=tZ15
   have hlt0:wr.heap.size<W0.heap.size:=tZ1
   have HSZ:=Lib.hid hszW
   have hwr:=hbw.size
   have hbW:Below w.heap.size w W0:=tZ31
   have hown0:Hid (∀ W,Below W0.heap.size W0 W→W.ownsRow w.heap.size 9 1 (.slice A1 k c1) k (scells ((l.take k).map (·.nm)))):=by
    show ∀ W,_→_
    intro W hb
    refine own_below (w:=W0) ?_ hb
    rw [hW0]
    exact hown.alloc _
   have hrd:∀ W,Below W0.heap.size W0 W→x.rd W B:=fun W hb=>⟨hxr.body.below ((hbW.trans (hb.mono tZ1)).mono hB),hxr.tags.below ((hbW.trans (hb.mono tZ1)).mono hB),hxr.own.below ((hbW.trans (hb.mono tZ1)).mono hB)⟩
   have hBk:Hid (∀ W,Below W0.heap.size W0 W→Calls Tryz.prog 145 #[.slice x.body.A x.body.n x.body.c] W fun e W'=>e=.returned (.int .i64 (if okL x.body.l=true then 0 else 9))∧Below W.heap.size W W'):=fun W hb =>
    checkBk_any x.body.l x.body.n (hrd W hb).body.1 x.body.A x.body.c W B (hrd W hb).body.2.2 tZ20 tZ127
   have hPr:Hid (∀ W,Below W0.heap.size W0 W→Calls Tryz.prog 144 #[.slice x.own.A x.own.n x.own.c] W fun e W'=>e=.returned (.int .i64 (if propsB x.own.l=true then 0 else 9))∧Below W.heap.size W W'):=fun W hb =>
    checkP_any x.own.l x.own.n (hrd W hb).own.1 x.own.A x.own.c W B (hrd W hb).own.2.2 tZ20 (by have:=hxs.own;omega) (fun p hp=>by have:=hxs.props p hp;omega)
   have hTg:Hid (∀ W,Below W0.heap.size W0 W→Calls Tryz.prog 165 #[.slice x.tags.A x.tags.n x.tags.c] W fun e W'=>e=.returned (.bool (tagsB x.tags.l))∧Below W.heap.size W W'):=fun W hb =>
    tagged_any x.tags.l x.tags.n (hrd W hb).tags.1 x.tags.A x.tags.c (hrd W hb).tags.2.1 W B tZ87 tZ20 (by have:=hxs.tags;omega)
   have hS:Hid (∀ W,Below W0.heap.size W0 W→W.cell? ⟨wr.heap.size,0,none⟩=some (.string ⟨x.nm.toArray⟩)∧W.cell? ⟨wr.heap.size,1,none⟩=some (.int .i64 x.gd)∧W.cell? ⟨wr.heap.size,2,none⟩=some (.slice x.body.A x.body.n x.body.c)∧W.cell? ⟨wr.heap.size,3,none⟩=some (.slice x.tags.A x.tags.n x.tags.c)∧W.cell? ⟨wr.heap.size,4,none⟩=some (.slice x.own.A x.own.n x.own.c) ∧
     ∀ yg,(∃ h:k-1<l.length,yg=(l[k-1]'h).gd)→W.cell? ⟨(ad.add ((k-1)*5)).block,(ad.add ((k-1)*5)).off+1,none⟩=some (.int .i64 yg)):=by
    show ∀ W,_→_
    intro W hb
    have hb2:=hblk.below hb hlt0
    refine ⟨hb2.cell 0,hb2.cell 1,hb2.cell 2,hb2.cell 3,hb2.cell 4,?_⟩
    rintro yg ⟨h,rfl⟩
    have hr2:=hr.below ((hbW.trans (hb.mono tZ1)).mono hB)
    obtain ⟨ad2,e2,-,-,p1,-⟩:=snap_at hr2 HN.out (i:=k-1) tZ1
    injection e2 with e2
    subst e2
    exact p1
   have hS0:=(Below.refl W0.heap.size W0).drew
   obtain ⟨nm,gd,⟨b1,b2,b3,bl⟩,⟨t1,t2,t3,tl⟩,⟨o1,o2,o3,ol⟩⟩:=x
   simp only at c0 c1' c2 c3 c4 hbad hgood hprev hA hW0 hBk hPr hTg hS HNT
   clear hx hdr htk hok hxm hxr hxs hrd hblk hr hrw hown he hv
   obtain ⟨bA,hbA⟩:∃ b,b=amt gd 1:=⟨_,rfl⟩
   obtain ⟨bB,hbB⟩:∃ b,b=okL bl:=⟨_,rfl⟩
   obtain ⟨bP,hbP⟩:∃ b,b=propsB ol:=⟨_,rfl⟩
   obtain ⟨bT,hbT⟩:∃ b,b=tagsB tl:=⟨_,rfl⟩
   rw [← hbA] at hbad hgood hA
   rw [← hbB] at hbad hgood hBk
   rw [← hbP] at hbad hgood hPr
   rw [← hbT] at hbad hgood hTg
   clear hbA hbB hbP hbT
   go_wp2_with fail
   rw [← hW0]
   clear hW0 hszW c0 c1' c2 c3 c4
   refine wpC_regionH (fun W'=>Below W0.heap.size W0 W') (hS0) (fun OPS D QQ HO HD HD2 HQQ=>?_)
   have hgo4:=hgoL HO 4 17 rfl
   have hgo7:=hgoL HO 7 20 rfl
   have hgo19:=hgoL HO 19 32 rfl
   have hgo25:=hgoL HO 25 38 rfl
   have hgo31:=hgoL HO 31 44 rfl
   clear HO
   refine zX ?_
   refine zY ?_
   cases bA with
   | false =>
    have HB:=Lib.hid (hbad.out (.inl rfl))
    refine wpC_readS (v:=.bool false) rfl rfl (fun W hW=>?_) ?_
    ·exact mZ73
    dsimp only [zB,zC]
    iterate 34 refine zX ?_
    refine wpQuiet_nil (HQQ.out _ (fun W hW=>?_))
    obtain ⟨q0,q1,q2,q3,q4,qp⟩:=hS.out W hW
    go_wp2_with fail
    go_ret
    exact ⟨by rw [HB.out];rfl,hbW.trans (hW.mono tZ6)⟩
   | true =>
    refine wpC_readS (v:=.bool true) rfl rfl (fun W hW=>?_) ?_
    ·exact mZ73
    dsimp only [zB,zC]
    iterate 3 refine zX ?_
    rcases hprev with ⟨d4,d4',d5⟩ | ⟨d4,d4',i1,i2,i3,i4,yg,d5,d6⟩
    ·iterate 15 refine zX ?_
     refine zY ?_
     cases bB with
     | false =>
      exact mZ74
     | true =>
      refine zN hBk.out ?_
      iterate 4 refine zX ?_
      refine zY ?_
      cases bP with
      | false =>
       exact mZ75
      | true =>
       refine zN hPr.out ?_
       iterate 4 refine zX ?_
       refine zY ?_
       cases bT with
       | false =>
        exact mZ76
       | true =>
        refine zN hTg.out ?_
        iterate 2 refine zX ?_
        refine wpQuiet_nil (HQQ.out _ (fun W hW=>?_))
        obtain ⟨q0,q1,q2,q3,q4,qp⟩:=hS.out W hW
        have HGG:=Lib.hid (hgood.out rfl d5.out rfl rfl rfl)
        exact mZ77
    ·iterate 7 refine zX ?_
     refine wpC_greadS (v:=?_) rfl rfl hgo7.out rfl (fun W hW=>?_) ?_
     rotate_left
     ·replace hW:=HD.out W hW
      obtain ⟨q0,q1,q2,q3,q4,qp⟩:=hS.out W hW
      replace qp:=qp _ d6.out
      exact mZ66
     dsimp only [zB,zC]
     refine zX ?_
     refine zY ?_
     by_cases hg:gd≤yg
     ·have HB:=Lib.hid (hbad.out (.inr (.inl (d5.out.2 hg))))
      have hgd:decide (gd≤yg)=true:=by simpa using hg
      iterate 21 refine zX ?_
      refine wpQuiet_nil (HQQ.out _ (fun W hW=>?_))
      obtain ⟨q0,q1,q2,q3,q4,qp⟩:=hS.out W hW
      go_wp2_with fail
      go_ret
      exact ⟨by rw [HB.out];rfl,hbW.trans (hW.mono tZ6)⟩
     ·have HG:=d5.out.1 tZ1
      have hgd:decide (gd≤yg)=false:=by simpa using hg
      iterate 5 refine zX ?_
      refine zY ?_
      cases bB with
      | false =>
       exact mZ74
      | true =>
       refine zN hBk.out ?_
       iterate 4 refine zX ?_
       refine zY ?_
       cases bP with
       | false =>
        exact mZ75
       | true =>
        refine zN hPr.out ?_
        iterate 4 refine zX ?_
        refine zY ?_
        cases bT with
        | false =>
         exact mZ76
        | true =>
         refine zN hTg.out ?_
         iterate 2 refine zX ?_
         refine wpQuiet_nil (HQQ.out _ (fun W hW=>?_))
         obtain ⟨q0,q1,q2,q3,q4,qp⟩:=hS.out W hW
         have HGG:=Lib.hid (hgood.out rfl HG rfl rfl rfl)
         exact mZ77
  ·have hkn:k=n:=tZ1
   have HF:Hid (V=(decide (n≤16) && unlikeB (l.map (·.nm)))):=by
    show _=_
    rw [HVB.out,hok.out,List.drop_of_length_le tZ14]
    simp [snapsFrom]
   obtain ⟨A',c',e',hk1,hk2,hro⟩:=own_form hown
   injection e' with e1 _ e3
   subst e1 e3
   rw [List.take_of_length_le tZ14] at hro
   have hU:=unlike_any (l.map (·.nm)) k (by rw [List.length_map,hkn,HN.out]) A1 c1 hk1 wr _ hro (Nat.le_refl _) tZ1
   obtain ⟨bu,hbu⟩:∃ V,V=unlikeB (l.map (·.nm)):=⟨_,rfl⟩
   rw [← hbu] at hU HF
   clear hr hok hown hro hbu he hv
   by_cases h8:n≤16
   ·have hi8:(n:Int)≤(16:Int):=tZ1
    have HV1:Hid (V=bu):=by show _=_;rw [HF.out,decide_eq_true h8];rfl
    clear hkn
    go_wp2_with fail
    refine hU.mono ?_
    exact mZ34
   ·have hi8:¬ (n:Int)≤(16:Int):=tZ1
    have HV1:Hid (V=false):=by show _=_;rw [HF.out,decide_eq_false h8];rfl
    clear hkn hU
    go_wp2_with fail
    go_ret
    exact ⟨by rw [HV1.out];rfl,hbw⟩
end Go.Proofs.YtiojfffgiejibaaGreatDoor
namespace Go.Proofs.YtiojfffgiejibaaGreatDoor
open Go.RowKit
theorem set_at {w:World} {B n:Nat} {A:Option Addr} {l:List SetR} (h:Reads w B 5 A n (cellsK encSet l)) (hn:n=l.length) {i:Nat} (hi:i<n) :
  ∃ ad,A=some ad∧ad.block<B∧w.cell? (ad.add (i*5))=some (.string ⟨(l[i]'tZ1).path.toArray⟩)∧w.cell? ⟨(ad.add (i*5)).block,(ad.add (i*5)).off+1,none⟩=some (.string ⟨(l[i]'tZ1).org.toArray⟩) ∧
   w.cell? ⟨(ad.add (i*5)).block,(ad.add (i*5)).off+2,none⟩=some (.slice (l[i]'tZ1).body.A (l[i]'tZ1).body.n (l[i]'tZ1).body.c)∧w.cell? ⟨(ad.add (i*5)).block,(ad.add (i*5)).off+3,none⟩=some (.slice (l[i]'tZ1).snaps.A (l[i]'tZ1).snaps.n (l[i]'tZ1).snaps.c)∧w.cell? ⟨(ad.add (i*5)).block,(ad.add (i*5)).off+4,none⟩=some (.slice (l[i]'tZ1).own.A (l[i]'tZ1).own.n (l[i]'tZ1).own.c) :=
 Reads.el5 (f0:=fun x:SetR=>.string ⟨x.path.toArray⟩) (f1:=fun x=>.string ⟨x.org.toArray⟩) (f2:=fun x=>.slice x.body.A x.body.n x.body.c) (f3:=fun x=>.slice x.snaps.A x.snaps.n x.snaps.c) (f4:=fun x=>.slice x.own.A x.own.n x.own.c) h hn hi
theorem firstI_cases {α:Type} (p:α→Bool) (l:List α):(firstI p l=-1∧l.find? p=none)∨∃ (k:Nat) (h:k<l.length),firstI p l=(k:Int)∧l.find? p=some (l[k]'h):=by
 cases hf:l.find? p with
 | none =>
  have h:=List.find?_eq_none.1 hf
  refine .inl ⟨?_,rfl⟩
  unfold firstI
  rw [firstP_none p l (fun y hy=>by simpa using h y hy),if_neg (Nat.lt_irrefl _)]
 | some x =>
  obtain ⟨hp,i,hi,e,hb⟩:=List.find?_eq_some_iff_getElem.1 hf
  refine .inr ⟨i,hi,?_,by rw [e]⟩
  have:firstP p l=i:=firstP_eq p l i x (fun y hy=>by
   obtain ⟨j,hj,e2⟩:=List.mem_iff_getElem.1 hy
   rw [List.getElem_take] at e2
   have:=hb j (by rw [List.length_take] at hj;omega)
   rw [e2] at this
   simpa using this) (by rw [List.getElem?_eq_getElem hi,e]) hp
  unfold firstI
  rw [this,if_pos hi]
theorem splitV_cases (l:BS):(splitL l=none∧splitV l=.tuple #[.string ⟨#[]⟩,.string ⟨#[]⟩,.int .i64 31])∨∃ p n:BS,splitL l=some (p,n)∧splitV l=.tuple #[.string ⟨p.toArray⟩,.string ⟨n.toArray⟩,.int .i64 0]∧p.length≤l.length∧n.length≤l.length:=by
 unfold splitL splitV
 cases h:atL l with
 | none=>exact .inl ⟨rfl,rfl⟩
 | some pn =>
  obtain ⟨p,n⟩:=pn
  have:=atL_len _ _ _ h
  by_cases hc:(pathB p && nameB n)=true
  ·exact .inr ⟨p,n,by simp only [if_pos hc],by simp only [if_pos hc],by omega,by omega⟩
  ·exact .inl ⟨by simp only [if_neg hc],by simp only [if_neg hc]⟩
def originP (all:List SetR) (sp so:BS):Bool:=so == [] || match splitL so with
 | none=>false
 | some (p,n)=>!(p == sp) && match all.find? (fun x=>x.path == p) with
  | none=>false
  | some x=>x.snaps.l.any fun y=>y.nm == n
set_option maxRecDepth 100000 in
set_option maxHeartbeats 2000000 in
theorem origin_any (v0 v1 v2 v4 v5 v6 v7 v8 v9:Value) (all:List SetR) (n:Nat) (hnl:n=all.length) (A:Option Addr) (c:Nat) (sp so:BS) (w:World) (B:Nat) (hr:Reads w B 5 A n (cellsK encSet all)) (he:∀ y∈all,y.rd w B) (hB:B≤w.heap.size) (hn:n≤1000000000000) (hv:∀ y∈all,y.sz) (hs:so.length≤4000000000) (hmx:HasMax w) :
  Calls Tryz.prog 147 #[.agg #[v0,v1,v2,.slice A n c,v4,v5,v6],.agg #[.string ⟨sp.toArray⟩,.string ⟨so.toArray⟩,v7,v8,v9]] w fun e w'=>e=.returned (.bool (originP all sp so))∧Below w.heap.size w w':=by
 have hb1:=(Below.refl w.heap.size w).alloc (Nat.le_refl _) (.cells #[v0,v1,v2,.slice A n c,v4,v5,v6] 27)
 have hb2:=hb1.alloc hb1.size (.cells #[.string ⟨sp.toArray⟩,.string ⟨so.toArray⟩,v7,v8,v9] 56)
 have k1:=(Blk.new w 27 #[v0,v1,v2,.slice A n c,v4,v5,v6]).alloc (.cells #[.string ⟨sp.toArray⟩,.string ⟨so.toArray⟩,v7,v8,v9] 56)
 have k2:=Blk.new (w.alloc (.cells #[v0,v1,v2,.slice A n c,v4,v5,v6] 27)) 56 #[.string ⟨sp.toArray⟩,.string ⟨so.toArray⟩,v7,v8,v9]
 rw [show (w.alloc (.cells #[v0,v1,v2,.slice A n c,v4,v5,v6] 27)).heap.size=w.heap.size+1 by simp] at k2
 obtain ⟨W2,hW2⟩:∃ W,W=(w.alloc (.cells #[v0,v1,v2,.slice A n c,v4,v5,v6] 27)).alloc (.cells #[.string ⟨sp.toArray⟩,.string ⟨so.toArray⟩,v7,v8,v9] 56):=⟨_,rfl⟩
 have hsz:W2.heap.size=w.heap.size+2:=tZ40
 rw [← hW2] at hb2 k1 k2
 have hS:=Lib.hid (fun (W':World) (hB':Below W2.heap.size W2 W') =>
  (⟨(k1.below hB' tZ1).cell 0,(k1.below hB' tZ1).cell 1,(k1.below hB' tZ1).cell 2,(k1.below hB' tZ1).cell 3,(k1.below hB' tZ1).cell 4,(k1.below hB' tZ1).cell 5,(k1.below hB' tZ1).cell 6,(k2.below hB' tZ1).cell 0⟩ :
   W'.cell? ⟨w.heap.size,0,none⟩=some v0∧W'.cell? ⟨w.heap.size,1,none⟩=some v1∧W'.cell? ⟨w.heap.size,2,none⟩=some v2∧W'.cell? ⟨w.heap.size,3,none⟩=some (.slice A n c)∧W'.cell? ⟨w.heap.size,4,none⟩=some v4∧W'.cell? ⟨w.heap.size,5,none⟩=some v5∧W'.cell? ⟨w.heap.size,6,none⟩=some v6∧W'.cell? ⟨w.heap.size+1,0,none⟩=some (.string ⟨sp.toArray⟩)))
 have HSZ:=Lib.hid hsz
 have HB:=Lib.hid hb2
 have HNL:=Lib.hid hnl
 have hR:=Lib.hid (fun (W':World) (hB':Below W2.heap.size W2 W')=>(⟨hr.below ((hb2.trans (hB'.mono tZ1)).mono hB),hB'.size,hmx.below (hb2.trans (hB'.mono tZ1)),fun y hy=>⟨(he y hy).body.below ((hb2.trans (hB'.mono tZ1)).mono hB),(he y hy).snaps.below ((hb2.trans (hB'.mono tZ1)).mono hB)⟩⟩:Reads W' B 5 A n (cellsK encSet all)∧W2.heap.size≤W'.heap.size∧HasMax W'∧∀ y∈all,y.body.rd W' B 2 encB∧y.snaps.rd W' B 5 encSnap))
 have HV:=Lib.hid hv
 clear k1 k2 hsz hb1 hb2 hnl hr he hv
 by_cases ho:so=[]
 ·subst ho
  have HE:Hid (originP all sp []=true):=rfl
  go_enter Tryz.func147,Tryz.ntmps147
  go_wp2_with fail
  rw [← hW2]
  go_ret
  exact ⟨by rw [HE.out];rfl,HB.out⟩
 ·have ho1:(so == [])=false:=by simpa using ho
  have ho2:so.isEmpty=false:=by cases so <;> simp_all
  have HE:Hid (originP all sp so=match splitL so with
   | none=>false
   | some (p,n)=>!(p == sp) && match all.find? (fun x=>x.path == p) with
    | none=>false
    | some x=>x.snaps.l.any fun y=>y.nm == n):=by show _=_;unfold originP;rw [ho1];rfl
  obtain ⟨V,hV⟩:∃ V,V=originP all sp so:=⟨_,rfl⟩
  rw [← hV] at HE ⊢
  have hspl:=fun (hm:HasMax W2)=>split_any ⟨so.toArray⟩ W2 (by show so.length≤_;exact hs) hm
  rw [show (ByteArray.mk so.toArray).data.toList=so from rfl] at hspl
  have hspl:=hspl (hmx.below HB.out)
  have HO:=Lib.hid ho
  clear hV ho
  rcases splitV_cases so with ⟨h1,h2⟩ | ⟨p,m,h1,h2,h3,h4⟩
  ·rw [h2] at hspl
   rw [h1] at HE
   clear h1 h2
   go_enter Tryz.func147,Tryz.ntmps147
   go_wp2_with fail
   rw [← hW2]
   refine hspl.mono ?_
   clear hspl
   rintro e w1 ⟨rfl,hb1⟩
   obtain ⟨q0,q1,q2,q3,q4,q5,q6,q7⟩:=hS.out _ hb1
   obtain ⟨r1,r2,r3,r4⟩:=hR.out _ hb1
   have hfi:=find_any v0 v1 v2 v4 v5 v6 all n HNL.out A c [] w1 B r1 tZ6 tZ1
   have HB1:=Lib.hid hb1
   clear r1 r2 r3 r4 hb1
   go_wp2_with fail
   refine hfi.mono ?_
   clear hfi
   rintro e w2 ⟨rfl,hb2⟩
   go_wp2_with fail
   go_ret
   exact ⟨by rw [HE.out];rfl,HB.out.trans ((HB1.out.trans (hb2.mono HB1.out.size)).mono tZ6)⟩
  ·rw [h2] at hspl
   rw [h1] at HE
   clear h1 h2
   have HE:Hid (V=(!(p == sp) && match all.find? (fun x=>x.path == p) with
    | none=>false
    | some x=>x.snaps.l.any fun y=>y.nm == m)):=HE
   go_enter Tryz.func147,Tryz.ntmps147
   go_wp2_with fail
   rw [← hW2]
   refine hspl.mono ?_
   clear hspl
   rintro e w1 ⟨rfl,hb1⟩
   obtain ⟨q0,q1,q2,q3,q4,q5,q6,q7⟩:=hS.out _ hb1
   obtain ⟨r1,r2,r3,r4⟩:=hR.out _ hb1
   have hfi:=find_any v0 v1 v2 v4 v5 v6 all n HNL.out A c p w1 B r1 tZ6 tZ1
   obtain ⟨z,hz⟩:∃ z,z=findS all p:=⟨_,rfl⟩
   rw [← hz] at hfi
   have HB1:=Lib.hid hb1
   have HZ:=Lib.hid hz
   clear r1 r2 r3 r4 hb1 hz
   go_wp2_with fail
   refine hfi.mono ?_
   clear hfi q0 q1 q2 q3 q4 q5 q6 q7
   rintro e w2 ⟨rfl,hb2⟩
   have HB2:=Lib.hid (HB1.out.trans (hb2.mono HB1.out.size))
   clear hb2 HB1
   obtain ⟨q0,q1,q2,q3,q4,q5,q6,q7⟩:=hS.out _ HB2.out
   by_cases hps:p=sp
   ·have hpb:(p == sp)=true:=tZ123
    have HE2:Hid (V=false):=tZ65
    subst hps
    exact mZ80
   ·have hpb:(p == sp)=false:=tZ123
    have HE2:Hid (V=match all.find? (fun x=>x.path == p) with
     | none=>false
     | some x=>x.snaps.l.any fun y=>y.nm == m):=tZ65
    clear hps HE
    rcases firstI_cases (fun x:SetR=>x.path == p) all with ⟨f1,f2⟩ | ⟨k,hk,f1,f2⟩
    ·have hz:z=-1:=HZ.out.trans f1
     rw [f2] at HE2
     subst hz
     clear f1 f2
     exact mZ80
    ·have hz:z=(k:Int):=HZ.out.trans f1
     rw [f2] at HE2
     subst hz
     obtain ⟨r1,r2,r3,r4⟩:=hR.out _ HB2.out
     have hkn:k<n:=by have:=HNL.out;omega
     have hki:(k:Int)<(n:Int):=tZ1
     obtain ⟨ad,rfl,-,c0,c1,c2,c3,c4⟩:=set_at r1 HNL.out hkn
     obtain ⟨x,hx⟩:∃ x,x=all[k]'hk:=⟨_,rfl⟩
     rw [← hx] at c0 c1 c2 c3 c4 HE2
     have hxm:x∈all:=tZ12
     obtain ⟨_,r5⟩:=r4 x hxm
     have hsn:=HV.out x hxm
     have HC:=Lib.hid (snapAt_any (.string ⟨x.path.toArray⟩) (.string ⟨x.org.toArray⟩) (.slice x.body.A x.body.n x.body.c) (.slice x.own.A x.own.n x.own.c) x.snaps.l x.snaps.n r5.1 x.snaps.A x.snaps.c m w2 B r5.2.2 tZ6 (by have:=hsn.snaps;omega))
     have HA:=Lib.hid (firstI_any (fun y:SnapR=>y.nm == m) x.snaps.l)
     have HE3:Hid (V=x.snaps.l.any fun y=>y.nm == m):=HE2
     obtain ⟨xp,xo,⟨b1,b2,b3,bl⟩,⟨s1,s2,s3,sl⟩,⟨o1,o2,o3,ol⟩⟩:=x
     simp only at c0 c1 c2 c3 c4 HC HA HE3
     clear hx f1 f2 HE2 r1 r2 r3 r4 r5 hsn hxm hR HZ HV HNL
     go_wp2_with fail
     refine HC.out.mono ?_
     rintro e w3 ⟨rfl,hb3⟩
     have HBF:=Lib.hid (HB.out.trans ((HB2.out.trans (hb3.mono HB2.out.size)).mono tZ6))
     have HA2:Hid (V=decide ((0:Int)≤findN sl m)):=tZ105
     clear c0 c1 c2 c3 c4 hb3 HC HA HE3
     go_wp2_with fail
     go_ret
     exact ⟨by rw [HA2.out];rfl,HBF.out⟩
end Go.Proofs.YtiojfffgiejibaaGreatDoor
