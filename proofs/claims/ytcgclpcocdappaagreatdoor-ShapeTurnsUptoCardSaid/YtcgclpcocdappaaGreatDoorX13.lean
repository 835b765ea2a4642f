/-
  tree.snaps, by its contract.
-/
import Derived.Test.YtcgclpcocdappaaGreatDoorXM1
import Derived.Test.YtcgclpcocdappaaGreatDoorX0
import Derived.Test.YtcgclpcocdappaaGreatDoorX12
namespace Go.Proofs.YtcgclpcocdappaaGreatDoor
open Go.RowKit
def prevD (l:List SnapR) (k:Nat):Option Int:=match k with
 | 0=>none
 | j+1=>(l[j]?).map (·.gd)
theorem snap_at {w:World} {B n:Nat} {A:Option Addr} {l:List SnapR} (h:Reads w B 5 A n (cellsK encSnap l)) (hn:n=l.length) {i:Nat} (hi:i<n) :
  ∃ ad,A=some ad∧ad.block<B∧w.cell? (ad.add (i*5))=some (.string ⟨(l[i]'tZ1).nm.toArray⟩)∧w.cell? ⟨(ad.add (i*5)).block,(ad.add (i*5)).off+1,none⟩=some (.int .i64 (l[i]'tZ1).gd) ∧
   w.cell? ⟨(ad.add (i*5)).block,(ad.add (i*5)).off+2,none⟩=some (.slice (l[i]'tZ1).body.A (l[i]'tZ1).body.n (l[i]'tZ1).body.c)∧w.cell? ⟨(ad.add (i*5)).block,(ad.add (i*5)).off+3,none⟩=some (.slice (l[i]'tZ1).tags.A (l[i]'tZ1).tags.n (l[i]'tZ1).tags.c)∧w.cell? ⟨(ad.add (i*5)).block,(ad.add (i*5)).off+4,none⟩=some (.slice (l[i]'tZ1).own.A (l[i]'tZ1).own.n (l[i]'tZ1).own.c) :=
 Reads.el5 (f0:=fun x:SnapR=>.string ⟨x.nm.toArray⟩) (f1:=fun x=>.int .i64 x.gd) (f2:=fun x=>.slice x.body.A x.body.n x.body.c) (f3:=fun x=>.slice x.tags.A x.tags.n x.tags.c) (f4:=fun x=>.slice x.own.A x.own.n x.own.c) h hn hi
theorem names_push (l:List SnapR) (k:Nat) (x:SnapR) (h:l.take (k+1)=l.take k++[x]):scells ((l.take (k+1)).map (·.nm))=scells ((l.take k).map (·.nm))++[strV x.nm]:=by
 rw [h,List.map_append,scells_append];rfl
set_option maxRecDepth 100000 in
set_option maxHeartbeats 4000000 in
theorem snaps_any (l:List SnapR) (n:Nat) (hnl:n=l.length) (A:Option Addr) (c:Nat) (w:World) (B:Nat) (hr:Reads w B 5 A n (cellsK encSnap l)) (he:∀ y∈l,y.rd w B) (hB:B≤w.heap.size) (hn:n≤1000000000000) (hv:∀ y∈l,y.sz) :
  Calls Tryz.prog 178 #[.slice A n c] w fun e w'=>e=.returned (.bool (snapsB l))∧Below w.heap.size w w':=by
 obtain ⟨i0,hi0,hz0,hz1,hz2⟩:=info_parts Tryz.infoS
 have HN:=Lib.hid hnl
 have HVB:Hid (snapsB l=(decide (n≤16) && snapsFrom none l && unlikeB (l.map (·.nm)))):=by show _=_;unfold snapsB;rw [hnl]
 obtain ⟨V,hV⟩:∃ V,V=snapsB l:=⟨_,rfl⟩
 rw [← hV] at HVB ⊢
 clear hnl hV
 go_enter Tryz.func178,Tryz.ntmps178
 go_wp2_with fail
 go_loopw [3,8] (fun a j wr=>∃ (k:Nat) (A1:Option Addr) (c1:Nat),k≤n∧a=.slice A1 k c1∧j=.int .i64 (k:Int)∧Hid (snapsFrom none l=snapsFrom (prevD l k) (l.drop k))∧wr.ownsRow w.heap.size 9 1 (.slice A1 k c1) k (scells ((l.take k).map (·.nm)))∧Below w.heap.size w wr) (fun _ j _=>n-(intOf j).toNat)
 case atStart=>exact ⟨0,none,0,Nat.zero_le _,rfl,rfl,rfl,⟨rfl,.inl ⟨rfl,rfl⟩⟩,Below.refl _ _⟩
 case round =>
  obtain ⟨k,A1,c1,hk,rfl,rfl,hok,hown,hbw⟩:=hrel
  by_cases hlt:k<n
  ·have hrw:=hr.below (hbw.mono hB)
   obtain ⟨ad,rfl,hadB,c0,c1',c2,c3,c4⟩:=snap_at hrw HN.out hlt
   have hki:(k:Int)<(n:Int):=tZ1
   have hkl:k<l.length:=tZ7
   obtain ⟨x,hx⟩:∃ x,x=l[k]'hkl:=⟨_,rfl⟩
   have hxm:x∈l:=tZ14
   have hxr:=he x hxm
   have hxs:=hv x hxm
   rw [← hx] at c0 c1' c2 c3 c4
   have htk:=List.take_succ_eq_append_getElem hkl
   have hdr:=List.drop_eq_getElem_cons hkl
   rw [← hx] at hdr htk
   have HNT:=Lib.hid (names_push l k x htk)
   have hbad:Hid ((amt x.gd 1=false∨(∃ y,prevD l k=some y∧¬ y<x.gd)∨okL x.body.l=false∨propsB x.own.l=false∨tagsB x.tags.l=false)→V=false):=by
    show _→_
    intro h
    rw [HVB.out,hok.out,hdr,snapsFrom_cons]
    unfold snapOk
    rcases h with h | ⟨y,hy,h⟩ | h | h | h
    ·rw [h];simp
    ·rw [hy];simp only [decide_eq_false h];simp
    ·rw [h];simp
    ·rw [h];simp
    ·rw [h];simp
   have hgood:Hid (amt x.gd 1=true→(∀ y,prevD l k=some y→y<x.gd)→okL x.body.l=true→propsB x.own.l=true→tagsB x.tags.l=true→Hid (snapsFrom none l=snapsFrom (prevD l (k+1)) (l.drop (k+1)))):=by
    show _→_→_→_→_→_
    intro h1 h2 h3 h4 h5
    show _=_
    rw [hok.out,hdr,snapsFrom_cons]
    have hp:prevD l (k+1)=some x.gd:=by
     exact mZ136
    unfold snapOk
    rw [hp,h1,h3,h4,h5]
    exact mZ135
   have hprev:(decide ((0:Int)<(k:Int))=false∧decide (0<k)=false∧Hid (∀ y,prevD l k=some y→y<x.gd))∨(decide ((0:Int)<(k:Int))=true∧decide (0<k)=true∧(1:Int)≤(k:Int)∧(k:Int)-1<(n:Int)∧IntKind.i64.wrap ((k:Int)-1)=(k:Int)-1∧((k:Int)-1).toNat=k-1∧∃ yg,Hid ((¬ x.gd≤yg→∀ y,prevD l k=some y→y<x.gd)∧(x.gd≤yg→∃ y,prevD l k=some y∧¬ y<x.gd))∧Hid (∃ h:k-1<l.length,yg=(l[k-1]'h).gd)):=by
    exact mZ134
   have hA:∀ W,Calls Tryz.prog 124 #[.int .i64 x.gd,.int .i64 1] W fun e W'=>e=.returned (.bool (amt x.gd 1))∧W'=W:=fun W=>amount_any x.gd 1 W
   obtain ⟨W0,hW0⟩:∃ W0,W0=wr.alloc (.cells #[.string ⟨x.nm.toArray⟩,.int .i64 x.gd,.slice x.body.A x.body.n x.body.c,.slice x.tags.A x.tags.n x.tags.c,.slice x.own.A x.own.n x.own.c] 57):=⟨_,rfl⟩
   have hblk:Blk W0 wr.heap.size 57 #[.string ⟨x.nm.toArray⟩,.int .i64 x.gd,.slice x.body.A x.body.n x.body.c,.slice x.tags.A x.tags.n x.tags.c,.slice x.own.A x.own.n x.own.c]:=tZ91
   have hszW:W0.heap.size=wr.heap.size+1:=tZ21
   have hlt0:wr.heap.size<W0.heap.size:=tZ1
   have HSZ:=Lib.hid hszW
   have hwr:=hbw.size
   have hbW:Below w.heap.size w W0:=tZ54
   have hown0:Hid (∀ W,Below W0.heap.size W0 W→W.ownsRow w.heap.size 9 1 (.slice A1 k c1) k (scells ((l.take k).map (·.nm)))):=by
    show ∀ W,_→_
    intro W hb
    refine own_below (w:=W0) ?_ hb
    rw [hW0]
    exact hown.alloc _
   have hrd:∀ W,Below W0.heap.size W0 W→x.rd W B:=fun W hb=>⟨hxr.body.below ((hbW.trans (hb.mono tZ1)).mono hB),hxr.tags.below ((hbW.trans (hb.mono tZ1)).mono hB),hxr.own.below ((hbW.trans (hb.mono tZ1)).mono hB)⟩
   have hBk:Hid (∀ W,Below W0.heap.size W0 W→Calls Tryz.prog 152 #[.slice x.body.A x.body.n x.body.c] W fun e W'=>e=.returned (.int .i64 (if okL x.body.l=true then 0 else 9))∧Below W.heap.size W W'):=fun W hb =>
    checkBk_any x.body.l x.body.n (hrd W hb).body.1 x.body.A x.body.c W B (hrd W hb).body.2.2 tZ13 tZ162
   have hPr:Hid (∀ W,Below W0.heap.size W0 W→Calls Tryz.prog 158 #[.slice x.own.A x.own.n x.own.c] W fun e W'=>e=.returned (.int .i64 (if propsB x.own.l=true then 0 else 9))∧Below W.heap.size W W'):=fun W hb =>
    checkP_any x.own.l x.own.n (hrd W hb).own.1 x.own.A x.own.c W B (hrd W hb).own.2.2 tZ13 (by have:=hxs.own;omega) (fun p hp=>by have:=hxs.props p hp;omega)
   have hTg:Hid (∀ W,Below W0.heap.size W0 W→Calls Tryz.prog 202 #[.slice x.tags.A x.tags.n x.tags.c] W fun e W'=>e=.returned (.bool (tagsB x.tags.l))∧Below W.heap.size W W'):=fun W hb =>
    tagged_any x.tags.l x.tags.n (hrd W hb).tags.1 x.tags.A x.tags.c (hrd W hb).tags.2.1 W B tZ130 tZ13 (by have:=hxs.tags;omega)
   have hS:Hid (∀ W,Below W0.heap.size W0 W→W.cell? ⟨wr.heap.size,0,none⟩=some (.string ⟨x.nm.toArray⟩)∧W.cell? ⟨wr.heap.size,1,none⟩=some (.int .i64 x.gd)∧W.cell? ⟨wr.heap.size,2,none⟩=some (.slice x.body.A x.body.n x.body.c)∧W.cell? ⟨wr.heap.size,3,none⟩=some (.slice x.tags.A x.tags.n x.tags.c)∧W.cell? ⟨wr.heap.size,4,none⟩=some (.slice x.own.A x.own.n x.own.c) ∧
     ∀ yg,(∃ h:k-1<l.length,yg=(l[k-1]'h).gd)→W.cell? ⟨(ad.add ((k-1)*5)).block,(ad.add ((k-1)*5)).off+1,none⟩=some (.int .i64 yg)):=by
    show ∀ W,_→_
    intro W hb
    have hb2:=hblk.below hb hlt0
    refine ⟨hb2.cell 0,hb2.cell 1,hb2.cell 2,hb2.cell 3,hb2.cell 4,?_⟩
    rintro yg ⟨h,rfl⟩
    have hr2:=hr.below ((hbW.trans (hb.mono tZ1)).mono hB)
    obtain ⟨ad2,e2,-,-,p1,-⟩:=snap_at hr2 HN.out (i:=k-1) tZ1
    injection e2 with e2
    subst e2
    exact p1
   have hS0:=(Below.refl W0.heap.size W0).drew
   obtain ⟨nm,gd,⟨b1,b2,b3,bl⟩,⟨t1,t2,t3,tl⟩,⟨o1,o2,o3,ol⟩⟩:=x
   simp only at c0 c1' c2 c3 c4 hbad hgood hprev hA hW0 hBk hPr hTg hS HNT
   clear hx hdr htk hok hxm hxr hxs hrd hblk hr hrw hown he hv
   obtain ⟨bA,hbA⟩:∃ b,b=amt gd 1:=⟨_,rfl⟩
   obtain ⟨bB,hbB⟩:∃ b,b=okL bl:=⟨_,rfl⟩
   obtain ⟨bP,hbP⟩:∃ b,b=propsB ol:=⟨_,rfl⟩
   obtain ⟨bT,hbT⟩:∃ b,b=tagsB tl:=⟨_,rfl⟩
   rw [← hbA] at hbad hgood hA
   rw [← hbB] at hbad hgood hBk
   rw [← hbP] at hbad hgood hPr
   rw [← hbT] at hbad hgood hTg
   clear hbA hbB hbP hbT
   go_wp2_with fail
   rw [← hW0]
   clear hW0 hszW c0 c1' c2 c3 c4
   refine wpC_regionH (fun W'=>Below W0.heap.size W0 W') (hS0) (fun OPS D QQ HO HD HD2 HQQ=>?_)
   have hgo4:=hgoL HO 4 17 rfl
   have hgo7:=hgoL HO 7 20 rfl
   have hgo19:=hgoL HO 19 32 rfl
   have hgo25:=hgoL HO 25 38 rfl
   have hgo31:=hgoL HO 31 44 rfl
   clear HO
   refine zX ?_
   refine zY ?_
   cases bA with
   | false =>
    have HB:=Lib.hid (hbad.out (.inl rfl))
    refine wpC_readS (v:=.bool false) rfl rfl (fun W hW=>?_) ?_
    ·exact mZ126
    dsimp only [zB,zC]
    iterate 34 refine zX ?_
    refine wpQuiet_nil (HQQ.out _ (fun W hW=>?_))
    obtain ⟨q0,q1,q2,q3,q4,qp⟩:=hS.out W hW
    go_wp2_with fail
    go_ret
    exact ⟨by rw [HB.out];rfl,hbW.trans (hW.mono tZ8)⟩
   | true =>
    refine wpC_readS (v:=.bool true) rfl rfl (fun W hW=>?_) ?_
    ·exact mZ126
    dsimp only [zB,zC]
    iterate 3 refine zX ?_
    rcases hprev with ⟨d4,d4',d5⟩ | ⟨d4,d4',i1,i2,i3,i4,yg,d5,d6⟩
    ·iterate 15 refine zX ?_
     refine zY ?_
     cases bB with
     | false =>
      exact mZ127
     | true =>
      refine zN hBk.out ?_
      iterate 4 refine zX ?_
      refine zY ?_
      cases bP with
      | false =>
       exact mZ128
      | true =>
       refine zN hPr.out ?_
       iterate 4 refine zX ?_
       refine zY ?_
       cases bT with
       | false =>
        exact mZ129
       | true =>
        refine zN hTg.out ?_
        iterate 2 refine zX ?_
        refine wpQuiet_nil (HQQ.out _ (fun W hW=>?_))
        obtain ⟨q0,q1,q2,q3,q4,qp⟩:=hS.out W hW
        have HGG:=Lib.hid (hgood.out rfl d5.out rfl rfl rfl)
        exact mZ130
    ·iterate 7 refine zX ?_
     refine wpC_greadS (v:=?_) rfl rfl hgo7.out rfl (fun W hW=>?_) ?_
     rotate_left
     ·replace hW:=HD.out W hW
      obtain ⟨q0,q1,q2,q3,q4,qp⟩:=hS.out W hW
      replace qp:=qp _ d6.out
      exact mZ131
     dsimp only [zB,zC]
     refine zX ?_
     refine zY ?_
     by_cases hg:gd≤yg
     ·have HB:=Lib.hid (hbad.out (.inr (.inl (d5.out.2 hg))))
      have hgd:decide (gd≤yg)=true:=by simpa using hg
      iterate 21 refine zX ?_
      refine wpQuiet_nil (HQQ.out _ (fun W hW=>?_))
      obtain ⟨q0,q1,q2,q3,q4,qp⟩:=hS.out W hW
      go_wp2_with fail
      go_ret
      exact ⟨by rw [HB.out];rfl,hbW.trans (hW.mono tZ8)⟩
     ·have HG:=d5.out.1 tZ1
      have hgd:decide (gd≤yg)=false:=by simpa using hg
      iterate 5 refine zX ?_
      refine zY ?_
      cases bB with
      | false =>
       exact mZ127
      | true =>
       refine zN hBk.out ?_
       iterate 4 refine zX ?_
       refine zY ?_
       cases bP with
       | false =>
        exact mZ128
       | true =>
        refine zN hPr.out ?_
        iterate 4 refine zX ?_
        refine zY ?_
        cases bT with
        | false =>
         exact mZ129
        | true =>
         refine zN hTg.out ?_
         iterate 2 refine zX ?_
         refine wpQuiet_nil (HQQ.out _ (fun W hW=>?_))
         obtain ⟨q0,q1,q2,q3,q4,qp⟩:=hS.out W hW
         have HGG:=Lib.hid (hgood.out rfl HG rfl rfl rfl)
         exact mZ130
  ·have hkn:k=n:=tZ1
   have HF:Hid (V=(decide (n≤16) && unlikeB (l.map (·.nm)))):=by
    show _=_
    rw [HVB.out,hok.out,List.drop_of_length_le tZ25]
    simp [snapsFrom]
   obtain ⟨A',c',e',hk1,hk2,hro⟩:=own_form hown
   injection e' with e1 _ e3
   subst e1 e3
   rw [List.take_of_length_le tZ25] at hro
   have hU:=unlike_any (l.map (·.nm)) k (by rw [List.length_map,hkn,HN.out]) A1 c1 hk1 wr _ hro (Nat.le_refl _) tZ1
   obtain ⟨bu,hbu⟩:∃ V,V=unlikeB (l.map (·.nm)):=⟨_,rfl⟩
   rw [← hbu] at hU HF
   clear hr hok hown hro hbu he hv
   by_cases h8:n≤16
   ·have hi8:(n:Int)≤(16:Int):=tZ1
    have HV1:Hid (V=bu):=by show _=_;rw [HF.out,decide_eq_true h8];rfl
    clear hkn
    go_wp2_with fail
    refine hU.mono ?_
    exact mZ124
   ·have hi8:¬ (n:Int)≤(16:Int):=tZ1
    have HV1:Hid (V=false):=by show _=_;rw [HF.out,decide_eq_false h8];rfl
    clear hkn hU
    go_wp2_with fail
    go_ret
    exact ⟨by rw [HV1.out];rfl,hbw⟩
end Go.Proofs.YtcgclpcocdappaaGreatDoor
