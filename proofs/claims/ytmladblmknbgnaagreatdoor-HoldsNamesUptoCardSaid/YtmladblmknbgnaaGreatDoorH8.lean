/-
  perms.Check, by its contract. The page's Path, by its contract. The reference's Props, SameProps: by their contracts. slices.BinarySearch at strings, by its contract. Tenants: the plain law of what may be.
-/
import Derived.Test.YtmladblmknbgnaaGreatDoorH0
import Derived.Test.YtmladblmknbgnaaGreatDoorH5
import Derived.Test.YtmladblmknbgnaaGreatDoorH4
import Derived.Test.YtmladblmknbgnaaGreatDoorH6
import Derived.Test.YtmladblmknbgnaaGreatDoorH3
import Derived.Test.YtmladblmknbgnaaGreatDoorH2
import Derived.Test.YtmladblmknbgnaaGreatDoorRows
import Derived.Handy
import Derived.Test.YtmladblmknbgnaaGreatDoorH1
namespace Go.Proofs.YtmladblmknbgnaaGreatDoor
open Go.RowKit
def gcells (l:GL):List Value:=cellsK (fun x:GT=>[.string ⟨x.1.toArray⟩,.string ⟨x.2.1.toArray⟩,.int .i64 x.2.2]) l
def prevG (l:GL) (k:Nat):Option GT:=match k with
 | 0=>none
 | j+1=>l[j]?
/-- no text of a grant is longer than this -/
def lenG (l:GL):Prop:=∀ x∈l,x.1.length≤4000000000∧x.2.1.length≤4000000000
set_option maxRecDepth 100000 in
set_option maxHeartbeats 4000000 in
theorem checkG_any (l:GL) (n:Nat) (hnl:n=l.length) (A:Option Addr) (c:Nat) (w:World) (B:Nat) (hr:Reads w B 3 A n (gcells l)) (hB:B≤w.heap.size) (hn:n≤5000000000000) (hv:lenG l) (hmx:HasMax w) :
  Calls Tryz.prog 147 #[.slice A n c] w fun e w'=>e=.returned (.int .i64 (grantsE l))∧Below w.heap.size w w':=by
 have HN:=Lib.hid hnl
 clear hnl
 go_enter Tryz.func147,Tryz.ntmps147
 by_cases hn16:16<n
 ·have hi:(16:Int)<(n:Int):=by omega
  have HE:Hid (grantsE l=9):=by
   show _=_
   unfold grantsE grantsB
   rw [if_neg]
   rw [Bool.and_eq_true,decide_eq_true_eq]
   have:=HN.out
   omega
  clear hr hv
  go_wp2_with fail
  go_ret
  exact ⟨by rw [HE.out];rfl,Below.refl _ _⟩
 have hi:¬ (16:Int)<(n:Int):=by omega
 have hPE:Hid (∀ b,grantsFrom none l=b→grantsE l=if b=true then 0 else 9):=by
  show ∀ b,_→_
  rintro b rfl
  unfold grantsE grantsB
  rw [decide_eq_true (show l.length≤16 by have:=HN.out;omega),Bool.true_and]
 go_wp2_with fail
 go_loopw [10] (fun j wr=>∃ k:Nat,k≤n∧j=.int .i64 (k:Int)∧Hid (grantsFrom none l=grantsFrom (prevG l k) (l.drop k))∧Below w.heap.size w wr) (fun j _=>n-(intOf j).toNat)
 case atStart=>exact ⟨0,Nat.zero_le _,rfl,rfl,Below.refl _ _⟩
 case round =>
  obtain ⟨k,hk,rfl,hok,hbw⟩:=hrel
  by_cases hlt:k<n
  ·have hrw:=hr.below (hbw.mono hB)
   obtain ⟨ad,rfl,hadB,c0,c1,c2⟩:=hrw.el3 HN.out hlt
   have hki:(k:Int)<(n:Int):=by omega
   have hkl:k<l.length:=by have:=HN.out;omega
   obtain ⟨x,hx⟩:∃ x,x=l[k]'hkl:=⟨_,rfl⟩
   have hxl:=hv x (by rw [hx];exact List.getElem_mem _)
   rw [← hx] at c0 c1 c2
   have hdr:=List.drop_eq_getElem_cons hkl
   rw [← hx] at hdr
   have HX:=Lib.hid hx
   have HDR:=Lib.hid hdr
   obtain ⟨xu,xp,xz⟩:=x
   simp only at c0 c1 c2 hxl
   obtain ⟨W0,hW0⟩:∃ W0,W0=wr.alloc (.cells #[.string ⟨xu.toArray⟩,.string ⟨xp.toArray⟩,.int .i64 xz] 139):=⟨_,rfl⟩
   have k0:W0.cell? ⟨wr.heap.size,0,none⟩=some (.string ⟨xu.toArray⟩):=by rw [hW0];exact (Blk.new wr _ _).cell 0
   have k1:W0.cell? ⟨wr.heap.size,1,none⟩=some (.string ⟨xp.toArray⟩):=by rw [hW0];exact (Blk.new wr _ _).cell 1
   have k2:W0.cell? ⟨wr.heap.size,2,none⟩=some (.int .i64 xz):=by rw [hW0];exact (Blk.new wr _ _).cell 2
   have hszW:W0.heap.size=wr.heap.size+1:=by rw [hW0];show (wr.heap.push _).size=_;rw [Array.size_push]
   have hlt0:wr.heap.size<W0.heap.size:=by omega
   have HSZ:=Lib.hid hszW
   have hwr:=hbw.size
   have hbW:Below w.heap.size w W0:=by rw [hW0];exact hbw.alloc hbw.size _
   have hmW0:HasMax W0:=hmx.below hbW
   have hS0:=(Below.refl W0.heap.size W0).drew
   have hbad:Hid ((nameB xu=false∨pathB xp=false∨xz<1∨255<xz∨(∃ y,prevG l k=some y∧¬ cmpG y.1 y.2.1 xu xp<0))→grantsE l=9):=by
    show _→_
    intro h
    rw [hPE.out false]
    ·rfl
    rw [hok.out,HDR.out,grantsFrom_cons]
    unfold grantB
    rcases h with h | h | h | h | ⟨y,hy,h⟩
    ·simp only [h];rfl
    ·simp only [h];simp
    ·simp only [decide_eq_false (show ¬ 1≤xz by omega)];simp
    ·simp only [decide_eq_false (show ¬ xz≤255 by omega)];simp
    ·rw [hy];simp only [decide_eq_false h];simp
   have hgood:Hid (nameB xu=true→pathB xp=true→1≤xz→xz≤255→(∀ y,prevG l k=some y→cmpG y.1 y.2.1 xu xp<0)→grantsFrom none l=grantsFrom (prevG l (k+1)) (l.drop (k+1))):=by
    show _→_→_→_→_→_
    intro h1 h2 h4 h5 h3
    rw [hok.out,HDR.out]
    have hp:prevG l (k+1)=some (xu,xp,xz):=by
     show l[k]?=_
     rw [List.getElem?_eq_getElem hkl,← HX.out]
    rw [hp,grantsFrom_cons]
    unfold grantB
    simp only [h1,h2,decide_eq_true h4,decide_eq_true h5]
    cases hq:prevG l k with
    | none=>rfl
    | some y=>simp only [decide_eq_true (h3 y hq)];rfl
   have hN:∀ W,Calls Tryz.prog 115 #[.string ⟨xu.toArray⟩] W fun e W'=>e=.returned (.bool (nameB xu))∧Below W.heap.size W W':=fun W=>name_any ⟨xu.toArray⟩ W
   have hV:∀ W,HasMax W→Calls Tryz.prog 112 #[.string ⟨xp.toArray⟩] W fun e W'=>e=.returned (.bool (pathB xp))∧Below W.heap.size W W':=fun W hm=>path_any ⟨xp.toArray⟩ W (by show xp.length≤_;exact hxl.2) hm
   clear hx hdr hok hxl
   obtain ⟨bn,hbn0⟩:∃ b,b=nameB xu:=⟨_,rfl⟩
   obtain ⟨bp,hbp0⟩:∃ b,b=pathB xp:=⟨_,rfl⟩
   rw [← hbn0] at hbad hgood hN
   rw [← hbp0] at hbad hgood hV
   clear hbn0 hbp0
   cases bn with
   | false =>
    have HB:=Lib.hid (hbad.out (.inl rfl))
    have hS:=Lib.hid (fun (W':World) (hB:Below W0.heap.size W0 W')=>(⟨(hB.cell (p:=⟨wr.heap.size,0,none⟩) hlt0).trans k0,(hB.cell (p:=⟨wr.heap.size,1,none⟩) hlt0).trans k1,(hB.cell (p:=⟨wr.heap.size,2,none⟩) hlt0).trans k2,hmW0.below hB,hB⟩:W'.cell? ⟨wr.heap.size,0,none⟩=some (.string ⟨xu.toArray⟩)∧W'.cell? ⟨wr.heap.size,1,none⟩=some (.string ⟨xp.toArray⟩)∧W'.cell? ⟨wr.heap.size,2,none⟩=some (.int .i64 xz)∧HasMax W'∧Below W0.heap.size W0 W'))
    clear hr hrw hbad hgood hV
    go_wp2_with fail
    rw [← hW0]
    clear hW0 hszW
    refine wpC_regionH (fun W'=>W'.cell? ⟨wr.heap.size,0,none⟩=some (.string ⟨xu.toArray⟩)∧W'.cell? ⟨wr.heap.size,1,none⟩=some (.string ⟨xp.toArray⟩)∧W'.cell? ⟨wr.heap.size,2,none⟩=some (.int .i64 xz)∧HasMax W'∧Below W0.heap.size W0 W') (hS.out _ hS0) (fun OPS D QQ HO HD HD2 HQQ=>?_)
    have hgo4:=hgoL HO 4 19 rfl
    have hgo10:=hgoL HO 10 25 rfl
    have hgo15:=hgoL HO 15 30 rfl
    have hgo20:=hgoL HO 20 35 rfl
    have hgo23:=hgoL HO 23 38 rfl
    clear HO
    refine zX ?_
    refine zY ?_
    refine zN hN ?_
    iterate 31 refine zX ?_
    refine wpQuiet_nil (HQQ.out _ (fun W hW=>?_))
    obtain ⟨q0,q1,q2,hmW,hcW⟩:=hW
    go_wp2_with fail
    go_ret
    exact ⟨by rw [HB.out];rfl,hbW.trans (hcW.mono (by have:=HSZ.out;omega))⟩
   | true =>
    cases bp with
    | false =>
     have HB:=Lib.hid (hbad.out (.inr (.inl rfl)))
     have hS:=Lib.hid (fun (W':World) (hB:Below W0.heap.size W0 W')=>(⟨(hB.cell (p:=⟨wr.heap.size,0,none⟩) hlt0).trans k0,(hB.cell (p:=⟨wr.heap.size,1,none⟩) hlt0).trans k1,(hB.cell (p:=⟨wr.heap.size,2,none⟩) hlt0).trans k2,hmW0.below hB,hB⟩:W'.cell? ⟨wr.heap.size,0,none⟩=some (.string ⟨xu.toArray⟩)∧W'.cell? ⟨wr.heap.size,1,none⟩=some (.string ⟨xp.toArray⟩)∧W'.cell? ⟨wr.heap.size,2,none⟩=some (.int .i64 xz)∧HasMax W'∧Below W0.heap.size W0 W'))
     clear hr hrw hbad hgood
     go_wp2_with fail
     rw [← hW0]
     clear hW0 hszW
     refine wpC_regionH (fun W'=>W'.cell? ⟨wr.heap.size,0,none⟩=some (.string ⟨xu.toArray⟩)∧W'.cell? ⟨wr.heap.size,1,none⟩=some (.string ⟨xp.toArray⟩)∧W'.cell? ⟨wr.heap.size,2,none⟩=some (.int .i64 xz)∧HasMax W'∧Below W0.heap.size W0 W') (hS.out _ hS0) (fun OPS D QQ HO HD HD2 HQQ=>?_)
     have hgo4:=hgoL HO 4 19 rfl
     have hgo10:=hgoL HO 10 25 rfl
     have hgo15:=hgoL HO 15 30 rfl
     have hgo20:=hgoL HO 20 35 rfl
     have hgo23:=hgoL HO 23 38 rfl
     clear HO
     refine zX ?_
     refine zY ?_
     refine zN hN ?_
     iterate 3 refine zX ?_
     refine zY ?_
     refine wpC_greadS (v:=.bool false) rfl rfl hgo4.out rfl (fun W hW=>?_) ?_
     ·replace hW:=HD.out W hW
      obtain ⟨q0,q1,q2,hmW,hcW⟩:=hW
      go_simp
      refine (hV _ hmW).mono ?_
      rintro e w4 ⟨rfl,hbn⟩
      exact ⟨rfl,HD2.out _ (hS.out _ (below_step hcW hbn))⟩
     dsimp only [zB,zC]
     iterate 26 refine zX ?_
     refine wpQuiet_nil (HQQ.out _ (fun W hW=>?_))
     obtain ⟨q0,q1,q2,hmW,hcW⟩:=hW
     go_wp2_with fail
     go_ret
     exact ⟨by rw [HB.out];rfl,hbW.trans (hcW.mono (by have:=HSZ.out;omega))⟩
    | true =>
     by_cases z1:xz<1
     ·have z1':decide (xz<1)=true:=by simpa using z1
      have HB:=Lib.hid (hbad.out (.inr (.inr (.inl z1))))
      have hS:=Lib.hid (fun (W':World) (hB:Below W0.heap.size W0 W')=>(⟨(hB.cell (p:=⟨wr.heap.size,0,none⟩) hlt0).trans k0,(hB.cell (p:=⟨wr.heap.size,1,none⟩) hlt0).trans k1,(hB.cell (p:=⟨wr.heap.size,2,none⟩) hlt0).trans k2,hmW0.below hB,hB⟩:W'.cell? ⟨wr.heap.size,0,none⟩=some (.string ⟨xu.toArray⟩)∧W'.cell? ⟨wr.heap.size,1,none⟩=some (.string ⟨xp.toArray⟩)∧W'.cell? ⟨wr.heap.size,2,none⟩=some (.int .i64 xz)∧HasMax W'∧Below W0.heap.size W0 W'))
      clear hr hrw hbad hgood
      go_wp2_with fail
      rw [← hW0]
      clear hW0 hszW
      refine wpC_regionH (fun W'=>W'.cell? ⟨wr.heap.size,0,none⟩=some (.string ⟨xu.toArray⟩)∧W'.cell? ⟨wr.heap.size,1,none⟩=some (.string ⟨xp.toArray⟩)∧W'.cell? ⟨wr.heap.size,2,none⟩=some (.int .i64 xz)∧HasMax W'∧Below W0.heap.size W0 W') (hS.out _ hS0) (fun OPS D QQ HO HD HD2 HQQ=>?_)
      have hgo4:=hgoL HO 4 19 rfl
      have hgo10:=hgoL HO 10 25 rfl
      have hgo15:=hgoL HO 15 30 rfl
      have hgo20:=hgoL HO 20 35 rfl
      have hgo23:=hgoL HO 23 38 rfl
      clear HO
      refine zX ?_
      refine zY ?_
      refine zN hN ?_
      iterate 3 refine zX ?_
      refine zY ?_
      refine wpC_greadS (v:=.bool true) rfl rfl hgo4.out rfl (fun W hW=>?_) ?_
      ·replace hW:=HD.out W hW
       obtain ⟨q0,q1,q2,hmW,hcW⟩:=hW
       go_simp
       refine (hV _ hmW).mono ?_
       rintro e w4 ⟨rfl,hbn⟩
       exact ⟨rfl,HD2.out _ (hS.out _ (below_step hcW hbn))⟩
      dsimp only [zB,zC]
      iterate 4 refine zX ?_
      refine zY ?_
      iterate 21 refine zX ?_
      refine wpQuiet_nil (HQQ.out _ (fun W hW=>?_))
      obtain ⟨q0,q1,q2,hmW,hcW⟩:=hW
      go_wp2_with fail
      go_ret
      exact ⟨by rw [HB.out];rfl,hbW.trans (hcW.mono (by have:=HSZ.out;omega))⟩
     by_cases z2:255<xz
     ·have z1':decide (xz<1)=false:=by simpa using z1
      have z2':decide (255<xz)=true:=by simpa using z2
      have HB:=Lib.hid (hbad.out (.inr (.inr (.inr (.inl z2)))))
      have hS:=Lib.hid (fun (W':World) (hB:Below W0.heap.size W0 W')=>(⟨(hB.cell (p:=⟨wr.heap.size,0,none⟩) hlt0).trans k0,(hB.cell (p:=⟨wr.heap.size,1,none⟩) hlt0).trans k1,(hB.cell (p:=⟨wr.heap.size,2,none⟩) hlt0).trans k2,hmW0.below hB,hB⟩:W'.cell? ⟨wr.heap.size,0,none⟩=some (.string ⟨xu.toArray⟩)∧W'.cell? ⟨wr.heap.size,1,none⟩=some (.string ⟨xp.toArray⟩)∧W'.cell? ⟨wr.heap.size,2,none⟩=some (.int .i64 xz)∧HasMax W'∧Below W0.heap.size W0 W'))
      clear hr hrw hbad hgood
      go_wp2_with fail
      rw [← hW0]
      clear hW0 hszW
      refine wpC_regionH (fun W'=>W'.cell? ⟨wr.heap.size,0,none⟩=some (.string ⟨xu.toArray⟩)∧W'.cell? ⟨wr.heap.size,1,none⟩=some (.string ⟨xp.toArray⟩)∧W'.cell? ⟨wr.heap.size,2,none⟩=some (.int .i64 xz)∧HasMax W'∧Below W0.heap.size W0 W') (hS.out _ hS0) (fun OPS D QQ HO HD HD2 HQQ=>?_)
      have hgo4:=hgoL HO 4 19 rfl
      have hgo10:=hgoL HO 10 25 rfl
      have hgo15:=hgoL HO 15 30 rfl
      have hgo20:=hgoL HO 20 35 rfl
      have hgo23:=hgoL HO 23 38 rfl
      clear HO
      refine zX ?_
      refine zY ?_
      refine zN hN ?_
      iterate 3 refine zX ?_
      refine zY ?_
      refine wpC_greadS (v:=.bool true) rfl rfl hgo4.out rfl (fun W hW=>?_) ?_
      ·replace hW:=HD.out W hW
       obtain ⟨q0,q1,q2,hmW,hcW⟩:=hW
       go_simp
       refine (hV _ hmW).mono ?_
       rintro e w4 ⟨rfl,hbn⟩
       exact ⟨rfl,HD2.out _ (hS.out _ (below_step hcW hbn))⟩
      dsimp only [zB,zC]
      iterate 4 refine zX ?_
      refine zY ?_
      iterate 4 refine zX ?_
      refine zY ?_
      iterate 16 refine zX ?_
      refine wpQuiet_nil (HQQ.out _ (fun W hW=>?_))
      obtain ⟨q0,q1,q2,hmW,hcW⟩:=hW
      go_wp2_with fail
      go_ret
      exact ⟨by rw [HB.out];rfl,hbW.trans (hcW.mono (by have:=HSZ.out;omega))⟩
     have z1':decide (xz<1)=false:=by simpa using z1
     have z2':decide (255<xz)=false:=by simpa using z2
     rcases Nat.eq_zero_or_pos k with h0 | h0
     ·have HG:=Lib.hid (hgood.out rfl rfl (by omega) (by omega) (fun y hy=>by subst h0;cases hy))
      have d4:decide ((0:Int)<(k:Int))=false:=by simp;omega
      have d4':decide (0<k)=false:=by simp;omega
      clear h0
      have hS:=Lib.hid (fun (W':World) (hB:Below W0.heap.size W0 W')=>(⟨(hB.cell (p:=⟨wr.heap.size,0,none⟩) hlt0).trans k0,(hB.cell (p:=⟨wr.heap.size,1,none⟩) hlt0).trans k1,(hB.cell (p:=⟨wr.heap.size,2,none⟩) hlt0).trans k2,hmW0.below hB,hB⟩:W'.cell? ⟨wr.heap.size,0,none⟩=some (.string ⟨xu.toArray⟩)∧W'.cell? ⟨wr.heap.size,1,none⟩=some (.string ⟨xp.toArray⟩)∧W'.cell? ⟨wr.heap.size,2,none⟩=some (.int .i64 xz)∧HasMax W'∧Below W0.heap.size W0 W'))
      clear hr hrw hbad hgood
      go_wp2_with fail
      rw [← hW0]
      clear hW0 hszW
      refine wpC_regionH (fun W'=>W'.cell? ⟨wr.heap.size,0,none⟩=some (.string ⟨xu.toArray⟩)∧W'.cell? ⟨wr.heap.size,1,none⟩=some (.string ⟨xp.toArray⟩)∧W'.cell? ⟨wr.heap.size,2,none⟩=some (.int .i64 xz)∧HasMax W'∧Below W0.heap.size W0 W') (hS.out _ hS0) (fun OPS D QQ HO HD HD2 HQQ=>?_)
      have hgo4:=hgoL HO 4 19 rfl
      have hgo10:=hgoL HO 10 25 rfl
      have hgo15:=hgoL HO 15 30 rfl
      have hgo20:=hgoL HO 20 35 rfl
      have hgo23:=hgoL HO 23 38 rfl
      clear HO
      refine zX ?_
      refine zY ?_
      refine zN hN ?_
      iterate 3 refine zX ?_
      refine zY ?_
      refine wpC_greadS (v:=.bool true) rfl rfl hgo4.out rfl (fun W hW=>?_) ?_
      ·replace hW:=HD.out W hW
       obtain ⟨q0,q1,q2,hmW,hcW⟩:=hW
       go_simp
       refine (hV _ hmW).mono ?_
       rintro e w4 ⟨rfl,hbn⟩
       exact ⟨rfl,HD2.out _ (hS.out _ (below_step hcW hbn))⟩
      dsimp only [zB,zC]
      iterate 4 refine zX ?_
      refine zY ?_
      iterate 4 refine zX ?_
      refine zY ?_
      iterate 16 refine zX ?_
      refine wpQuiet_nil (HQQ.out _ (fun W hW=>?_))
      obtain ⟨q0,q1,q2,hmW,hcW⟩:=hW
      go_wp2_with fail
      go_roundw
      case rel=>exact ⟨k+1,by omega,by go_num,HG,hbW.trans (hcW.mono (by have:=HSZ.out;omega))⟩
      case measure=>simp [intOf];omega
     ·have d4:decide ((0:Int)<(k:Int))=true:=by simp;omega
      have d4':decide (0<k)=true:=by simp;omega
      have hk1l:k-1<l.length:=by omega
      obtain ⟨y,hy⟩:∃ y,y=l[k-1]'hk1l:=⟨_,rfl⟩
      have hpv:prevG l k=some y:=by
       obtain ⟨j,rfl⟩:∃ j,k=j+1:=⟨k-1,by omega⟩
       show l[j]?=_
       have hj:j<l.length:=by simpa using hk1l
       rw [List.getElem?_eq_getElem hj,hy]
       rfl
      obtain ⟨ad2,e2,-,p0,p1,p2⟩:=(hrw.el3 HN.out (i:=k-1) (by omega))
      injection e2 with e2
      subst e2
      rw [← hy] at p0 p1 p2
      obtain ⟨yu,yp,yz⟩:=y
      simp only at p0 p1 p2
      have hltp:(ad.add ((k-1)*3)).block<W0.heap.size:=by rw [block_of_add];omega
      have hltw:(ad.add ((k-1)*3)).block<wr.heap.size:=by rw [block_of_add];omega
      have kp0:W0.cell? (ad.add ((k-1)*3))=some (.string ⟨yu.toArray⟩):=by rw [hW0];exact (World.cell?_alloc_lt wr _ _ hltw).trans p0
      have kp1:W0.cell? ⟨(ad.add ((k-1)*3)).block,(ad.add ((k-1)*3)).off+1,none⟩=some (.string ⟨yp.toArray⟩):=by rw [hW0];exact (World.cell?_alloc_lt wr _ ⟨(ad.add ((k-1)*3)).block,(ad.add ((k-1)*3)).off+1,none⟩ hltw).trans p1
      have kp2:W0.cell? ⟨(ad.add ((k-1)*3)).block,(ad.add ((k-1)*3)).off+2,none⟩=some (.int .i64 yz):=by rw [hW0];exact (World.cell?_alloc_lt wr _ ⟨(ad.add ((k-1)*3)).block,(ad.add ((k-1)*3)).off+2,none⟩ hltw).trans p2
      have i1:(1:Int)≤(k:Int):=by omega
      have i2:(k:Int)-1<(n:Int):=by omega
      have i3:IntKind.i64.wrap ((k:Int)-1)=(k:Int)-1:=IntWalk.i64_in _ (by omega)
      have i4:((k:Int)-1).toNat=k-1:=by omega
      have hO:=fun W=>orderG_any yu yp xu xp yz xz W
      have hbadO:=fun (h:¬ cmpG yu yp xu xp<0)=>hbad.out (.inr (.inr (.inr (.inr ⟨_,hpv,h⟩))))
      have hgoodO:=fun (h:cmpG yu yp xu xp<0)=>hgood.out rfl rfl (by omega) (by omega) (fun y' hy'=>by rw [hpv] at hy';cases hy';exact h)
      obtain ⟨z,hz⟩:∃ z,z=cmpG yu yp xu xp:=⟨_,rfl⟩
      rw [← hz] at hO hbadO hgoodO
      clear hz
      by_cases hcmp:z<0
      ·have HG:=Lib.hid (hgoodO hcmp)
       have z3:decide (0≤z)=false:=by simp;omega
       clear h0 hpv hy p0 p1 p2 hbadO hgoodO
       have hS:=Lib.hid (fun (W':World) (hB:Below W0.heap.size W0 W')=>(⟨(hB.cell (p:=⟨wr.heap.size,0,none⟩) hlt0).trans k0,(hB.cell (p:=⟨wr.heap.size,1,none⟩) hlt0).trans k1,(hB.cell (p:=⟨wr.heap.size,2,none⟩) hlt0).trans k2,(hB.cell (p:=ad.add ((k-1)*3)) hltp).trans kp0,(hB.cell (p:=⟨(ad.add ((k-1)*3)).block,(ad.add ((k-1)*3)).off+1,none⟩) hltp).trans kp1,(hB.cell (p:=⟨(ad.add ((k-1)*3)).block,(ad.add ((k-1)*3)).off+2,none⟩) hltp).trans kp2,hmW0.below hB,hB⟩:W'.cell? ⟨wr.heap.size,0,none⟩=some (.string ⟨xu.toArray⟩)∧W'.cell? ⟨wr.heap.size,1,none⟩=some (.string ⟨xp.toArray⟩)∧W'.cell? ⟨wr.heap.size,2,none⟩=some (.int .i64 xz)∧W'.cell? (ad.add ((k-1)*3))=some (.string ⟨yu.toArray⟩)∧W'.cell? ⟨(ad.add ((k-1)*3)).block,(ad.add ((k-1)*3)).off+1,none⟩=some (.string ⟨yp.toArray⟩)∧W'.cell? ⟨(ad.add ((k-1)*3)).block,(ad.add ((k-1)*3)).off+2,none⟩=some (.int .i64 yz)∧HasMax W'∧Below W0.heap.size W0 W'))
       clear hr hrw hbad hgood
       go_wp2_with fail
       rw [← hW0]
       clear hW0 hszW
       refine wpC_regionH (fun W'=>W'.cell? ⟨wr.heap.size,0,none⟩=some (.string ⟨xu.toArray⟩)∧W'.cell? ⟨wr.heap.size,1,none⟩=some (.string ⟨xp.toArray⟩)∧W'.cell? ⟨wr.heap.size,2,none⟩=some (.int .i64 xz)∧W'.cell? (ad.add ((k-1)*3))=some (.string ⟨yu.toArray⟩)∧W'.cell? ⟨(ad.add ((k-1)*3)).block,(ad.add ((k-1)*3)).off+1,none⟩=some (.string ⟨yp.toArray⟩)∧W'.cell? ⟨(ad.add ((k-1)*3)).block,(ad.add ((k-1)*3)).off+2,none⟩=some (.int .i64 yz)∧HasMax W'∧Below W0.heap.size W0 W') (hS.out _ hS0) (fun OPS D QQ HO HD HD2 HQQ=>?_)
       have hgo4:=hgoL HO 4 19 rfl
       have hgo10:=hgoL HO 10 25 rfl
       have hgo15:=hgoL HO 15 30 rfl
       have hgo20:=hgoL HO 20 35 rfl
       have hgo23:=hgoL HO 23 38 rfl
       clear HO
       refine zX ?_
       refine zY ?_
       refine zN hN ?_
       iterate 3 refine zX ?_
       refine zY ?_
       refine wpC_greadS (v:=.bool true) rfl rfl hgo4.out rfl (fun W hW=>?_) ?_
       ·replace hW:=HD.out W hW
        obtain ⟨q0,q1,q2,q3,q4,q5,hmW,hcW⟩:=hW
        go_simp
        refine (hV _ hmW).mono ?_
        rintro e w4 ⟨rfl,hbn⟩
        exact ⟨rfl,HD2.out _ (hS.out _ (below_step hcW hbn))⟩
       dsimp only [zB,zC]
       iterate 4 refine zX ?_
       refine zY ?_
       iterate 4 refine zX ?_
       refine zY ?_
       iterate 10 refine zX ?_
       iterate 2 refine zY ?_
       refine zN hO ?_
       iterate 3 refine zX ?_
       refine wpQuiet_nil (HQQ.out _ (fun W hW=>?_))
       obtain ⟨q0,q1,q2,q3,q4,q5,hmW,hcW⟩:=hW
       go_wp2_with fail
       go_roundw
       case rel=>exact ⟨k+1,by omega,by go_num,HG,hbW.trans (hcW.mono (by have:=HSZ.out;omega))⟩
       case measure=>simp [intOf];omega
      ·have HB:=Lib.hid (hbadO hcmp)
       have z3:decide (0≤z)=true:=by simp;omega
       clear h0 hpv hy p0 p1 p2 hbadO hgoodO
       have hS:=Lib.hid (fun (W':World) (hB:Below W0.heap.size W0 W')=>(⟨(hB.cell (p:=⟨wr.heap.size,0,none⟩) hlt0).trans k0,(hB.cell (p:=⟨wr.heap.size,1,none⟩) hlt0).trans k1,(hB.cell (p:=⟨wr.heap.size,2,none⟩) hlt0).trans k2,(hB.cell (p:=ad.add ((k-1)*3)) hltp).trans kp0,(hB.cell (p:=⟨(ad.add ((k-1)*3)).block,(ad.add ((k-1)*3)).off+1,none⟩) hltp).trans kp1,(hB.cell (p:=⟨(ad.add ((k-1)*3)).block,(ad.add ((k-1)*3)).off+2,none⟩) hltp).trans kp2,hmW0.below hB,hB⟩:W'.cell? ⟨wr.heap.size,0,none⟩=some (.string ⟨xu.toArray⟩)∧W'.cell? ⟨wr.heap.size,1,none⟩=some (.string ⟨xp.toArray⟩)∧W'.cell? ⟨wr.heap.size,2,none⟩=some (.int .i64 xz)∧W'.cell? (ad.add ((k-1)*3))=some (.string ⟨yu.toArray⟩)∧W'.cell? ⟨(ad.add ((k-1)*3)).block,(ad.add ((k-1)*3)).off+1,none⟩=some (.string ⟨yp.toArray⟩)∧W'.cell? ⟨(ad.add ((k-1)*3)).block,(ad.add ((k-1)*3)).off+2,none⟩=some (.int .i64 yz)∧HasMax W'∧Below W0.heap.size W0 W'))
       clear hr hrw hbad hgood
       go_wp2_with fail
       rw [← hW0]
       clear hW0 hszW
       refine wpC_regionH (fun W'=>W'.cell? ⟨wr.heap.size,0,none⟩=some (.string ⟨xu.toArray⟩)∧W'.cell? ⟨wr.heap.size,1,none⟩=some (.string ⟨xp.toArray⟩)∧W'.cell? ⟨wr.heap.size,2,none⟩=some (.int .i64 xz)∧W'.cell? (ad.add ((k-1)*3))=some (.string ⟨yu.toArray⟩)∧W'.cell? ⟨(ad.add ((k-1)*3)).block,(ad.add ((k-1)*3)).off+1,none⟩=some (.string ⟨yp.toArray⟩)∧W'.cell? ⟨(ad.add ((k-1)*3)).block,(ad.add ((k-1)*3)).off+2,none⟩=some (.int .i64 yz)∧HasMax W'∧Below W0.heap.size W0 W') (hS.out _ hS0) (fun OPS D QQ HO HD HD2 HQQ=>?_)
       have hgo4:=hgoL HO 4 19 rfl
       have hgo10:=hgoL HO 10 25 rfl
       have hgo15:=hgoL HO 15 30 rfl
       have hgo20:=hgoL HO 20 35 rfl
       have hgo23:=hgoL HO 23 38 rfl
       clear HO
       refine zX ?_
       refine zY ?_
       refine zN hN ?_
       iterate 3 refine zX ?_
       refine zY ?_
       refine wpC_greadS (v:=.bool true) rfl rfl hgo4.out rfl (fun W hW=>?_) ?_
       ·replace hW:=HD.out W hW
        obtain ⟨q0,q1,q2,q3,q4,q5,hmW,hcW⟩:=hW
        go_simp
        refine (hV _ hmW).mono ?_
        rintro e w4 ⟨rfl,hbn⟩
        exact ⟨rfl,HD2.out _ (hS.out _ (below_step hcW hbn))⟩
       dsimp only [zB,zC]
       iterate 4 refine zX ?_
       refine zY ?_
       iterate 4 refine zX ?_
       refine zY ?_
       iterate 10 refine zX ?_
       iterate 2 refine zY ?_
       refine zN hO ?_
       iterate 3 refine zX ?_
       refine wpQuiet_nil (HQQ.out _ (fun W hW=>?_))
       obtain ⟨q0,q1,q2,q3,q4,q5,hmW,hcW⟩:=hW
       go_wp2_with fail
       go_ret
       exact ⟨by rw [HB.out];rfl,hbW.trans (hcW.mono (by have:=HSZ.out;omega))⟩
  ·obtain rfl:k=n:=by omega
   have HF:Hid (grantsE l=0):=by
    show _=_
    rw [hPE.out true]
    ·rfl
    rw [hok.out,List.drop_of_length_le (by rw [HN.out];exact Nat.le_refl _)]
    rfl
   clear hok hr
   go_wp2_with fail
   go_ret
   exact ⟨by rw [HF.out];rfl,hbw⟩
end Go.Proofs.YtmladblmknbgnaaGreatDoor
namespace Go.Proofs.YtmladblmknbgnaaGreatDoor
open Go.RowKit
theorem extract_mk (s:ByteArray) (j k:Nat):s.extract j k=⟨((s.data.toList.drop j).take (k-j)).toArray⟩:=by
 apply eq_mk
 rw [ByteArray.data_extract,Array.toList_extract]
theorem partsL_len (l:BS):(partsL l).length≤l.length+1:=by
 induction l with
 | nil=>simp [partsL]
 | cons c l ih =>
  unfold partsL
  split
  ·simp;omega
  ·split
   ·rename_i p ps h
    rw [h] at ih
    simp at ih ⊢
    omega
   ·simp
set_option maxRecDepth 100000 in
set_option maxHeartbeats 1000000 in
theorem parts_any (s:ByteArray) (w:World) (hs:s.size≤4000000000) :
  Calls Tryz.prog 174 #[.string s,.int .u8 47] w fun e w'=>∃ v,e=.returned v∧w'.ownsRow w.heap.size 9 1 v (partsL s.data.toList).length (scells (partsL s.data.toList))∧Below w.heap.size w w':=by
 obtain ⟨i0,hi0,hz0,hz1,hz2⟩:=info_parts Tryz.infoS
 have HSZ:=Lib.hid (Lib.size_eq s)
 go_enter Tryz.func174,Tryz.ntmps174
 go_wp2_with fail
 go_loopw [5,6,7] (fun o f i wr=>∃ (k j m:Nat) (done:List BS) (A1:Option Addr) (c1:Nat),k≤s.size∧j≤k∧m≤j∧i=.int .i64 (k:Int)∧f=.int .i64 (j:Int)∧o=.slice A1 m c1∧Hid (m=done.length∧partsL s.data.toList=done++partsL (s.data.toList.drop j)∧47 ∉ (s.data.toList.drop j).take (k-j))∧wr.ownsRow w.heap.size 9 1 (.slice A1 m c1) m (scells done)∧Below w.heap.size w wr) (fun _ _ i _=>s.size-(intOf i).toNat)
 case atStart=>exact ⟨0,0,0,[],none,0,Nat.zero_le _,Nat.le_refl _,Nat.le_refl _,rfl,rfl,rfl,⟨rfl,by simp,by simp⟩,⟨rfl,.inl ⟨rfl,rfl⟩⟩,Below.refl _ _⟩
 case round =>
  obtain ⟨k,j,m,done,A1,c1,hk,hj,hm,rfl,rfl,rfl,hI,hown,hbw⟩:=hrel
  by_cases hlt:k<s.size
  ·have hki:(k:Int)<(s.size:Int):=by omega
   have hkl:k<s.data.toList.length:=by have:=HSZ.out;omega
   have hg:=bget s k hlt
   obtain ⟨y,hy⟩:∃ y,y=s[k]'hlt:=⟨_,rfl⟩
   have hyv:((s[k]'hlt).toNat:Int)=(y.toNat:Int):=by rw [hy]
   have hget:s.data.toList[k]?=some y:=by rw [List.getElem?_eq_getElem hkl,hg,← hy]
   have htk:(s.data.toList.drop j).take (k+1-j)=(s.data.toList.drop j).take (k-j)++[y]:=by
    rw [show k+1-j=k-j+1 by omega,List.take_add_one,List.getElem?_drop,show j+(k-j)=k by omega,hget]
    rfl
   have HTK:=Lib.hid htk
   have HGET:=Lib.hid hget
   clear hg hy hget htk
   by_cases h47:y=47
   ·have hyi:(y.toNat:Int)=47:=by rw [h47];rfl
    have hjk:(j:Int)≤(k:Int):=by omega
    have hks:(k:Int)≤(s.size:Int):=by omega
    have hex:=extract_mk s j k
    obtain ⟨q,hq⟩:∃ q,q=(s.data.toList.drop j).take (k-j):=⟨_,rfl⟩
    rw [← hq] at hex
    have HN:Hid (partsL s.data.toList=(done++[q])++partsL (s.data.toList.drop (k+1))):=by
     show _=_
     have hsp:s.data.toList.drop j=q++47 :: s.data.toList.drop (k+1):=by
      conv=>lhs;rw [← List.take_append_drop (k-j) (s.data.toList.drop j),← hq,List.drop_drop,show j+(k-j)=k by omega,List.drop_eq_getElem_cons hkl]
      have:=HGET.out
      rw [List.getElem?_eq_getElem hkl,h47] at this
      rw [Option.some.inj this]
     rw [hI.out.2.1,hsp,partsL_two _ _ (by rw [hq];exact hI.out.2.2),List.append_assoc]
     rfl
    have HM:Hid (m+1=(done++[q]).length):=by show _=_;rw [List.length_append,hI.out.1];rfl
    have hsz2:=hbw.size
    clear hq h47
    go_wp2_with (at_builtin;(refine wpList_push _ rfl (.tmp 19) (.tmp 24) 48 rfl w.heap.size 9 i0 (.string ByteArray.empty) 1 16 Tryz.underlying48 hi0 hz0 hz1 hz2 rfl (by decide) (.slice A1 m c1) m (scells done) rfl hown 1 #[.string ⟨q.toArray⟩] 9 (by simp [Act.eval]) rfl (by simp [Value.oneCell']) (by unfold maxLen;omega) (by omega) hsz2 ?_);intro v4 w4 hown4 hb4 _)
    obtain ⟨A4,c4,rfl,_,_,_⟩:=own_form hown4
    have hb5:=hbw.trans hb4
    have HO:Hid (w4.ownsRow w.heap.size 9 1 (.slice A4 (m+1) c4) (m+1) (scells (done++[q]))):=by show World.ownsRow _ _ _ _ _ _ _;rw [scells_append];exact hown4
    clear hown hown4 hbw hb4
    go_wp2_with fail
    go_roundw
    case rel=>exact ⟨k+1,k+1,m+1,done++[q],A4,c4,by omega,Nat.le_refl _,by omega,by go_num,by go_num,rfl,⟨HM.out,HN.out,by simp⟩,HO.out,hb5⟩
    case measure=>simp [intOf];omega
   ·have hyi:¬ (y.toNat:Int)=47:=by
     intro e
     exact h47 (UInt8.toNat_inj.1 (by have:(47:UInt8).toNat=47:=rfl;omega))
    have HN:Hid (47 ∉ (s.data.toList.drop j).take (k+1-j)):=by
     show _ ∉ _
     rw [HTK.out,List.mem_append,List.mem_singleton]
     rintro (h | h)
     ·exact hI.out.2.2 h
     ·exact h47 h.symm
    clear h47
    go_wp2_with fail
    go_roundw
    case rel=>exact ⟨k+1,j,m,done,A1,c1,by omega,by omega,hm,by go_num,rfl,rfl,⟨hI.out.1,hI.out.2.1,HN.out⟩,hown,hbw⟩
    case measure=>simp [intOf];omega
  ·obtain rfl:k=s.size:=by omega
   have hex:=extract_mk s j s.size
   obtain ⟨q,hq⟩:∃ q,q=(s.data.toList.drop j).take (s.size-j):=⟨_,rfl⟩
   rw [← hq] at hex
   have HN:Hid (partsL s.data.toList=done++[q]):=by
    show _=_
    have:(s.data.toList.drop j).take (s.size-j)=s.data.toList.drop j:=List.take_of_length_le (by rw [List.length_drop];have:=HSZ.out;omega)
    have h47:=hI.out.2.2
    rw [this] at h47 hq
    rw [hI.out.2.1,partsL_one _ h47,hq]
   have HM:Hid (m+1=(partsL s.data.toList).length):=by show _=_;rw [HN.out,List.length_append,hI.out.1];rfl
   have hsz2:=hbw.size
   have hjk:(j:Int)≤(s.size:Int):=by omega
   clear hq
   go_wp2_with (at_builtin;(refine wpList_push _ rfl (.tmp 28) (.tmp 32) 48 rfl w.heap.size 9 i0 (.string ByteArray.empty) 1 16 Tryz.underlying48 hi0 hz0 hz1 hz2 rfl (by decide) (.slice A1 m c1) m (scells done) rfl hown 1 #[.string ⟨q.toArray⟩] 9 (by simp [Act.eval]) rfl (by simp [Value.oneCell']) (by unfold maxLen;omega) (by omega) hsz2 ?_);intro v4 w4 hown4 hb4 _)
   have HO:Hid (w4.ownsRow w.heap.size 9 1 v4 (m+1) (scells (partsL s.data.toList))):=by show World.ownsRow _ _ _ _ _ _ _;rw [HN.out,scells_append];exact hown4
   have hb5:=hbw.trans hb4
   clear hown hown4 hbw hb4
   go_wp2_with fail
   go_ret
   exact ⟨v4,rfl,by rw [← HM.out];exact HO.out,hb5⟩
theorem parts_small (l:BS):∀ p∈partsL l,p.length≤l.length:=by
 induction l with
 | nil=>simp [partsL]
 | cons c l ih =>
  unfold partsL
  split
  ·intro p hp
   rcases List.mem_cons.1 hp with rfl | hp
   ·simp
   ·have:=ih p hp;simp;omega
  ·split
   ·rename_i q ps h
    rw [h] at ih
    intro p hp
    rcases List.mem_cons.1 hp with rfl | hp
    ·have:=ih q (List.mem_cons_self ..);simp;omega
    ·have:=ih p (List.mem_cons_of_mem _ hp);simp;omega
   ·intro p hp
    rw [List.mem_singleton] at hp
    subst hp
    simp
set_option maxRecDepth 100000 in
set_option maxHeartbeats 1000000 in
theorem refPath_any (s:ByteArray) (w:World) (hs:s.size≤4000000000) :
  Calls Tryz.prog 114 #[.string s] w fun e w'=>e=.returned (.bool (pathB s.data.toList))∧Below w.heap.size w w':=by
 have htl:=Lib.hid (toList_data s)
 have hpar:=parts_any s w hs
 have HSM:=Lib.hid (parts_small s.data.toList)
 have HPL:=Lib.hid (partsL_len s.data.toList)
 have HSZ:=Lib.hid (Lib.size_eq s)
 go_enter Tryz.func114,Tryz.ntmps114
 go_wp2_with fail
 ·have h0:s.toList.isEmpty=true:=by assumption
  rw [htl.out,List.isEmpty_iff] at h0
  go_ret
  exact ⟨by rw [h0];rfl,Below.refl _ _⟩
 ·have h0:s.toList.isEmpty=false:=by assumption
  have HP:Hid (pathB s.data.toList=(decide ((partsL s.data.toList).length≤4) && (partsL s.data.toList).all nameB)):=by
   show _=_
   rw [htl.out] at h0
   unfold pathB
   rw [h0,Bool.false_or]
  obtain ⟨L,hL⟩:∃ L,L=partsL s.data.toList:=⟨_,rfl⟩
  rw [← hL] at hpar HSM HPL HP
  obtain ⟨n,hn⟩:∃ n,n=L.length:=⟨_,rfl⟩
  rw [← hn] at hpar HPL HP
  have hnb:n≤4000000001:=by have:=HPL.out;have:=HSZ.out;omega
  have HN:=Lib.hid hn
  clear hL hn
  refine hpar.mono ?_
  clear hpar
  rintro e w1 ⟨v,rfl,hown,hb1⟩
  obtain ⟨A1,c1,rfl,_,_,hr⟩:=own_form hown
  clear hown
  go_wp2_with fail
  go_loopw [4] (fun i wr=>∃ k:Nat,k≤n∧i=.int .i64 (k:Int)∧Hid ((L.take k).all nameB=true)∧wr=w1) (fun i _=>n-(intOf i).toNat)
  case atStart=>exact ⟨0,Nat.zero_le _,rfl,rfl,rfl⟩
  case round =>
   obtain ⟨k,hk,rfl,hok,hww⟩:=hrel
   have hww:=hww.symm
   subst hww
   by_cases hlt:k<n
   ·have hki:(k:Int)<(n:Int):=by omega
    have hkl:k<L.length:=by have:=HN.out;omega
    obtain ⟨ad,rfl,hadB,d0⟩:=strs_at hr HN.out hlt
    have htk:=List.take_succ_eq_append_getElem hkl
    obtain ⟨x,hx⟩:∃ x,x=L[k]'hkl:=⟨_,rfl⟩
    have hm:x∈L:=by rw [hx];exact List.getElem_mem _
    rw [← hx] at d0 htk
    simp only [strV] at d0
    have hxs:=HSM.out x hm
    have hc:=refName_any x w1 (by have:=HSZ.out;omega)
    obtain ⟨b,hb⟩:∃ b,b=nameB x:=⟨_,rfl⟩
    rw [← hb] at hc
    have HBB:=Lib.hid hb
    have HT:=Lib.hid htk
    have HM:=Lib.hid hm
    clear hx htk hb hxs hm
    go_wp2_with fail
    refine hc.mono ?_
    clear hc
    rintro e w2 ⟨rfl,rfl⟩
    cases b with
    | true =>
     go_wp2_with fail
     go_roundw
     case rel =>
      refine ⟨k+1,by omega,by go_num,?_,trivial⟩
      show List.all _ _=_
      rw [HT.out,List.all_append,hok.out]
      simp [HBB.out.symm]
     case measure=>simp [intOf];omega
    | false =>
     have HV:Hid (pathB s.data.toList=false):=by
      show _=_
      have:L.all nameB=false:=by
       rw [← Bool.not_eq_true,List.all_eq_true]
       intro h
       have:=h x HM.out
       rw [← HBB.out] at this
       cases this
      rw [HP.out,this,Bool.and_false]
     go_wp2_with fail
     go_ret
     exact ⟨by rw [HV.out];rfl,hb1⟩
   ·have HA:Hid (pathB s.data.toList=decide ((n:Int)≤4)):=by
     show _=_
     have:=hok.out
     rw [List.take_of_length_le (by have:=HN.out;omega)] at this
     rw [HP.out,this,Bool.and_true]
     exact decide_eq_decide.2 (by omega)
    clear hok hr
    go_wp2_with fail
    go_ret
    exact ⟨by rw [HA.out];rfl,hb1⟩
end Go.Proofs.YtmladblmknbgnaaGreatDoor
namespace Go.Proofs.YtmladblmknbgnaaGreatDoor
open Go.RowKit
theorem quietN {P:Program} {f:FuncId} {args:Array Value} {w:World} {p m:Nat} {v:Value} (h:Calls P f args (w.drewN (p+m)) fun e w'=>e=.returned v∧w'=w.drewN (p+m)) :
  Calls P f args (w.drewN (p+m)) fun e w''=>e=.returned v∧∃ n,w''=w.drewN (p+n):=h.mono fun _ _ ⟨h1,h2⟩=>⟨h1,m,h2⟩
set_option maxRecDepth 100000 in
set_option maxHeartbeats 2000000 in
theorem refProps_any (l:PL) (n:Nat) (hnl:n=l.length) (A:Option Addr) (c:Nat) (w:World) (B:Nat) (hr:Reads w B 2 A n (pcells l)) (hn:n≤5000000000000) (hv:∀ x∈l,x.1.length≤140737488351232∧x.2.length≤140737488351232) :
  Calls Tryz.prog 140 #[.slice A n c] w fun e w'=>e=.returned (.int .i64 (propsE l))∧∃ q,w'=w.drewN q:=by
 have HN:=Lib.hid hnl
 obtain ⟨E,hE⟩:∃ E,E=propsE l:=⟨_,rfl⟩
 have hPE:Hid (∀ b,propsFrom none l=b→E=if b=true∧n≤8 then 0 else 9):=by
  show ∀ b,_→_
  rintro b rfl
  rw [hE]
  unfold propsE propsB
  rw [← hnl]
  by_cases h8:n≤8
  ·simp [h8]
  ·simp [h8]
 rw [← hE]
 clear hnl hE
 go_enter Tryz.func140,Tryz.ntmps140
 go_wp2_with fail
 go_loopw [3] (fun j wr=>∃ k:Nat,k≤n∧j=.int .i64 (k:Int)∧Hid (propsFrom none l=propsFrom (prevP l k) (l.drop k))∧∃ p,wr=w.drewN p) (fun j _=>n-(intOf j).toNat)
 case atStart=>exact ⟨0,Nat.zero_le _,rfl,rfl,0,rfl⟩
 case round =>
  obtain ⟨k,hk,rfl,hok,p,rfl⟩:=hrel
  by_cases hlt:k<n
  ·obtain ⟨ad,rfl,hadB,c0,c1⟩:=hr.prop HN.out hlt
   have hki:(k:Int)<(n:Int):=by omega
   have hkl:k<l.length:=by have:=HN.out;omega
   obtain ⟨x,hx⟩:∃ x,x=l[k]'hkl:=⟨_,rfl⟩
   have hxl:=hv x (by rw [hx];exact List.getElem_mem _)
   rw [← hx] at c0 c1
   have hdr:=List.drop_eq_getElem_cons hkl
   rw [← hx] at hdr
   have HX:=Lib.hid hx
   have HDR:=Lib.hid hdr
   obtain ⟨xn,xv⟩:=x
   simp only [strV] at c0 c1 hxl
   have hbad:Hid ((nameB xn=false∨valB xv=false∨(∃ y,prevP l k=some y∧Op.bytesLess y xn=false))→E=9):=by
    show _→_
    intro h
    rw [hPE.out false]
    ·rfl
    rw [hok.out,HDR.out,propsFrom_cons]
    rcases h with h | h | ⟨y,hy,h⟩
    ·rw [h];rfl
    ·rw [h];simp
    ·rw [hy];simp [h]
   have hgood:Hid (nameB xn=true→valB xv=true→(∀ y,prevP l k=some y→Op.bytesLess y xn=true)→propsFrom none l=propsFrom (prevP l (k+1)) (l.drop (k+1))):=by
    show _→_→_→_
    intro h1 h2 h3
    rw [hok.out,HDR.out]
    have hp:prevP l (k+1)=some xn:=by
     show (l[k]?).map (·.1)=_
     rw [List.getElem?_eq_getElem hkl,← HX.out]
     rfl
    rw [hp,propsFrom_cons,h1,h2]
    cases hq:prevP l k with
    | none=>rfl
    | some y=>simp [h3 y hq]
   have hN:∀ m,Calls Tryz.prog 81 #[.string ⟨xn.toArray⟩] (w.drewN (p+m)) fun e W'=>e=.returned (.bool (nameB xn))∧∃ n,W'=w.drewN (p+n):=fun m=>quietN (refName_any xn _ hxl.1)
   have hV:∀ m,Calls Tryz.prog 141 #[.string ⟨xv.toArray⟩] (w.drewN (p+m)) fun e W'=>e=.returned (.bool (valB xv))∧∃ n,W'=w.drewN (p+n):=fun m=>quietN (refValue_any xv _ hxl.2)
   clear hx hdr hok hxl hv
   obtain ⟨bn,hbn0⟩:∃ b,b=nameB xn:=⟨_,rfl⟩
   obtain ⟨bv,hbv0⟩:∃ b,b=valB xv:=⟨_,rfl⟩
   rw [← hbn0] at hbad hgood hN
   rw [← hbv0] at hbad hgood hV
   clear hbn0 hbv0
   cases bn with
   | false =>
    have HB:=Lib.hid (hbad.out (.inl rfl))
    clear hr hbad hgood hV
    go_wp2_with fail
    go_big_quiet ((go_at_call 81;exact hN _))
    clear hN
    go_wp2_with fail
    go_ret
    exact ⟨by rw [HB.out];rfl,_,World.drewN_drewN _ _ _⟩
   | true =>
    cases bv with
    | false =>
     have HB:=Lib.hid (hbad.out (.inr (.inl rfl)))
     clear hr hbad hgood
     go_wp2_with fail
     go_big_quiet (first | (go_at_call 81;exact hN _) | (go_at_call 141;exact hV _))
     clear hN hV
     go_wp2_with fail
     go_ret
     exact ⟨by rw [HB.out];rfl,_,World.drewN_drewN _ _ _⟩
    | true =>
     rcases Nat.eq_zero_or_pos k with h0 | h0
     ·have HG:=Lib.hid (hgood.out rfl rfl (fun y hy=>by subst h0;cases hy))
      have d4:decide ((0:Int)<(k:Int))=false:=by simp;omega
      have d4':decide (0<k)=false:=by simp;omega
      clear h0 hr hbad hgood
      go_wp2_with fail
      go_big_quiet (first | (go_at_call 81;exact hN _) | (go_at_call 141;exact hV _))
      clear hN hV
      go_wp2_with fail
      go_roundw
      case rel=>exact ⟨k+1,by omega,by go_num,HG,_,rfl⟩
      case measure=>simp [intOf];omega
     ·have d4:decide ((0:Int)<(k:Int))=true:=by simp;omega
      have d4':decide (0<k)=true:=by simp;omega
      have hk1l:k-1<l.length:=by omega
      obtain ⟨y,hy⟩:∃ y,y=(l[k-1]'hk1l).1:=⟨_,rfl⟩
      have hpv:prevP l k=some y:=by
       obtain ⟨j,rfl⟩:∃ j,k=j+1:=⟨k-1,by omega⟩
       show (l[j]?).map (·.1)=_
       have hj:j<l.length:=by simpa using hk1l
       rw [List.getElem?_eq_getElem hj,hy]
       rfl
      obtain ⟨ad2,e2,-,c2,-⟩:=(hr.prop HN.out (k:=k-1) (by omega))
      injection e2 with e2
      subst e2
      rw [← hy] at c2
      simp only [strV] at c2
      have i1:(1:Int)≤(k:Int):=by omega
      have i2:(k:Int)-1<(n:Int):=by omega
      have i3:IntKind.i64.wrap ((k:Int)-1)=(k:Int)-1:=IntWalk.i64_in _ (by omega)
      have i4:((k:Int)-1).toNat=k-1:=by omega
      have hleq:=leqS 9 xn y
      cases hcmp:Op.bytesLess y xn with
      | true =>
       have HG:=Lib.hid (hgood.out rfl rfl (fun y' hy'=>by rw [hpv] at hy';cases hy';exact hcmp))
       have f1:(Op.bytesLess xn y || xn == y)=false:=by
        rw [Bool.or_eq_false_iff]
        refine ⟨?_,by simpa using (bl_ne hcmp).symm⟩
        rw [← Bool.not_eq_true]
        intro h
        have:=bl_trans hcmp h
        rw [bl_irrefl] at this
        cases this
       rw [f1] at hleq
       clear hr hbad hgood h0 hpv hy hcmp f1
       go_wp2_with fail
       go_big_quiet (first | (go_at_call 81;exact hN _) | (go_at_call 141;exact hV _))
       clear hN hV hleq
       go_wp2_with fail
       go_roundw
       case rel=>exact ⟨k+1,by omega,by go_num,HG,_,rfl⟩
       case measure=>simp [intOf];omega
      | false =>
       have HB:=Lib.hid (hbad.out (.inr (.inr ⟨y,hpv,hcmp⟩)))
       have f1:(Op.bytesLess xn y || xn == y)=true:=by
        by_cases e:xn=y
        ·simp [e]
        ·rw [bl_tri y xn hcmp (fun h=>e h.symm)];rfl
       rw [f1] at hleq
       clear hr hbad hgood h0 hpv hy hcmp f1
       go_wp2_with fail
       go_big_quiet (first | (go_at_call 81;exact hN _) | (go_at_call 141;exact hV _))
       clear hN hV hleq
       go_wp2_with fail
       go_ret
       exact ⟨by rw [HB.out];rfl,_,World.drewN_drewN _ _ _⟩
  ·have hkn:k=n:=by omega
   have hF:Hid (E=if n≤8 then 0 else 9):=by
    show _=_
    rw [hPE.out true]
    ·simp
    rw [hok.out,List.drop_of_length_le (by rw [hkn,HN.out];exact Nat.le_refl _)]
    rfl
   clear hok hr hkn hPE
   by_cases h8:n≤8
   ·have hi8:¬ (8:Int)<(n:Int):=by omega
    have HV:Hid (E=0):=by show _=_;rw [hF.out,if_pos h8]
    clear hF
    go_wp2_with fail
    go_ret
    exact ⟨by rw [HV.out];rfl,p,rfl⟩
   ·have hi8:(8:Int)<(n:Int):=by omega
    have HV:Hid (E=9):=by show _=_;rw [hF.out,if_neg h8]
    clear hF
    go_wp2_with fail
    go_ret
    exact ⟨by rw [HV.out];rfl,p,rfl⟩
end Go.Proofs.YtmladblmknbgnaaGreatDoor
namespace Go.Proofs.YtmladblmknbgnaaGreatDoor
open Go.RowKit
set_option maxRecDepth 100000 in
theorem lessT_any (x y:BS) (w:World):Calls Tryz.prog 178 #[.string ⟨x.toArray⟩,.string ⟨y.toArray⟩] w fun e w'=>e=.returned (.bool (Op.bytesLess x y))∧∃ q,w'=w.drewN q:=by
 have hlss:=lssS 9 x y
 go_enter Tryz.func178,Tryz.ntmps178
 go_wp2_with fail
 refine (isNaNS_any x _).mono ?_
 rintro e w1 ⟨rfl,q1,rfl⟩
 go_wp2_with fail
 go_ret
 exact ⟨rfl,q1,rfl⟩
set_option maxRecDepth 100000 in
theorem isNaNT_any (x:BS) (w:World):Calls Tryz.prog 179 #[.string ⟨x.toArray⟩] w fun e w'=>e=.returned (.bool false)∧∃ q,w'=w.drewN q:=by
 go_enter Tryz.func179,Tryz.ntmps179
 go_wp2_with fail
 go_ret
 exact ⟨rfl,0,rfl⟩
set_option maxRecDepth 100000 in
set_option maxHeartbeats 2000000 in
theorem searchT_any (l:List BS) (g:BS) (hl:SignAsc (fun x=>cmpS x g) l) (n:Nat) (hnl:n=l.length) (A:Option Addr) (c:Nat) (w:World) (B:Nat)
  (hr:Reads w B 1 A n (scells l)) (hB:B≤w.heap.size) (hn:n≤5000000000000) :
  Calls Tryz.prog 118 #[.slice A n c,.string ⟨g.toArray⟩] w fun e w'=>e=.returned (.tuple #[.int .i64 (posF (fun x=>cmpS x g) l),.bool (atF (fun x=>cmpS x g) l)])∧Below w.heap.size w w':=by
 have HN:=Lib.hid hnl
 have HL:=Lib.hid hl
 clear hnl hl
 go_enter Tryz.func118,Tryz.ntmps118
 go_wp2_with fail
 go_loopw [7,8] (fun i j wr=>∃ a b:Nat,a≤b∧b≤n∧i=.int .i64 (a:Int)∧j=.int .i64 (b:Int)∧Hid ((∀ (k:Nat) (x:BS),k<a→l[k]?=some x→cmpS x g<0)∧∀ (k:Nat) (x:BS),b≤k→l[k]?=some x→0≤cmpS x g)∧Below w.heap.size w wr) (fun i j _=>(intOf j).toNat-(intOf i).toNat)
 case atStart=>exact ⟨0,n,Nat.zero_le _,Nat.le_refl _,rfl,rfl,⟨fun k x hk _=>by omega,fun k x hk hx=>by have:=(List.getElem?_eq_some_iff.1 hx).1;have:=HN.out;omega⟩,Below.refl _ _⟩
 case round =>
  obtain ⟨a,b,hab,hbn,rfl,rfl,hI,hbw⟩:=hrel
  by_cases hlt:a<b
  ·obtain ⟨h,hh⟩:∃ h,h=(a+b) / 2:=⟨_,rfl⟩
   have hha:a≤h:=by omega
   have hhb:h<b:=by omega
   have hlI:(a:Int)<(b:Int):=by omega
   have hrw:=hr.below (hbw.mono hB)
   obtain ⟨ad,rfl,hadB,c0⟩:=strs_at hrw HN.out (show h<n by omega)
   obtain ⟨x,hx⟩:∃ x,x=l[h]'(by have:=HN.out;omega):=⟨_,rfl⟩
   rw [← hx] at c0
   simp only [strV] at c0
   have HX:=Lib.hid (show l[h]?=some x by rw [hx];exact List.getElem?_eq_getElem _)
   have HH:=Lib.hid hh
   have hcx:=lessT_any x g wr
   obtain ⟨z,hz⟩:∃ z,z=Op.bytesLess x g:=⟨_,rfl⟩
   rw [← hz] at hcx
   have HZ:Hid (cmpS x g<0↔z=true):=by show _↔_;rw [hz];exact cmpS_neg x g
   clear hx hr hz
   rw [hh] at c0
   clear hh
   go_wp2_with fail
   refine hcx.mono ?_
   clear hcx
   rintro e w1 ⟨rfl,q,hw1⟩
   have hbw1:Below w.heap.size w w1:=by rw [hw1];exact below_drewN hbw q
   clear hw1
   cases z with
   | true =>
    have HZ2:Hid (cmpS x g<0):=HZ.out.2 rfl
    clear HZ
    go_wp2_with fail
    go_roundw
    case rel =>
     refine ⟨h+1,b,by omega,hbn,by rw [HH.out];go_num,rfl,⟨fun k y hk hy=>?_,hI.out.2⟩,hbw1⟩
     by_cases hkh:k=h
     ·subst hkh
      have:=HX.out
      rw [hy] at this
      cases this
      exact HZ2.out
     ·exact HL.out k h y x (by omega) hy HX.out HZ2.out
    case measure=>simp [intOf];omega
   | false =>
    have HZ2:Hid (¬ cmpS x g<0):=fun h0=>by cases HZ.out.1 h0
    clear HZ
    go_wp2_with fail
    go_roundw
    case rel =>
     refine ⟨a,h,by omega,by omega,rfl,by rw [HH.out];go_num,⟨hI.out.1,fun k y hk hy=>?_⟩,hbw1⟩
     by_cases hkh:k=h
     ·subst hkh
      have:=HX.out
      rw [hy] at this
      cases this
      have:=HZ2.out
      omega
     ·have h1:cmpS y g<0→cmpS x g<0:=HL.out h k x y (by omega) HX.out hy
      have:=HZ2.out
      omega
    case measure=>simp [intOf];omega
  ·obtain rfl:a=b:=by omega
   have hpos:posF (fun x=>cmpS x g) l=a:=posF_eq _ l a (by have:=HN.out;omega) hI.out.1 (fun x hx=>hI.out.2 a x (Nat.le_refl _) hx)
   have hrw:=hr.below (hbw.mono hB)
   by_cases han:a<n
   ·have hani:(a:Int)<(n:Int):=by omega
    obtain ⟨ad,rfl,hadB,c0⟩:=strs_at hrw HN.out han
    obtain ⟨x,hx⟩:∃ x,x=l[a]'(by have:=HN.out;omega):=⟨_,rfl⟩
    rw [← hx] at c0
    simp only [strV] at c0
    have hat:atF (fun x=>cmpS x g) l=(cmpS x g == 0):=by
     unfold atF
     rw [hpos,List.getElem?_eq_getElem (by have:=HN.out;omega),← hx]
     rfl
    have HPOS:=Lib.hid hpos
    have hna:=isNaNT_any x wr
    by_cases hxg:x=g
    ·have HAT:Hid (atF (fun x=>cmpS x g) l=true):=by show _=_;rw [hat,(cmpS_zero x g).2 hxg];rfl
     clear hx hr hrw hpos hat
     subst hxg
     go_wp2_with fail
     go_ret2
     exact ⟨by rw [HPOS.out,HAT.out];rfl,hbw⟩
    ·have HAT:Hid (atF (fun x=>cmpS x g) l=false):=by show _=_;rw [hat];simpa using fun h=>hxg ((cmpS_zero x g).1 h)
     have hxg1:(x == g)=false:=by simpa using hxg
     have hxg2:(x.toArray == g.toArray)=false:=by simpa using hxg
     clear hx hr hrw hpos hat hxg
     go_wp2_with fail
     refine hna.mono ?_
     clear hna
     rintro e w1 ⟨rfl,q,hw1⟩
     have hbw1:Below w.heap.size w w1:=by rw [hw1];exact below_drewN hbw q
     clear hw1
     go_wp2_with fail
     go_ret2
     exact ⟨by rw [HPOS.out,HAT.out];rfl,hbw1⟩
   ·have hat:atF (fun x=>cmpS x g) l=false:=by
     unfold atF
     rw [hpos,List.getElem?_eq_none (by have:=HN.out;omega)]
     rfl
    have HPOS:=Lib.hid hpos
    have HAT:=Lib.hid hat
    clear hr hrw hpos hat
    go_wp2_with fail
    go_ret2
    exact ⟨by rw [HPOS.out,HAT.out];rfl,hbw⟩
end Go.Proofs.YtmladblmknbgnaaGreatDoor
namespace Go.Proofs.YtmladblmknbgnaaGreatDoor
open Go.RowKit
/-! ### what stands under what -/
/-- what a path stands under, if any -/
def parB (s:BS):Option BS:=if s=[]∨pathB s=false then none else some (upL s)
/-! ### what may be -/
def unlikeF:List BS→List BS→Bool
 | _,[]=>true
 | acc,x :: l=>nameB x && !(acc.contains x) && unlikeF (acc++[x]) l
def unlikeB (l:List BS):Bool:=unlikeF [] l
/-- names, each behind the one ahead of it -/
def ascF:Option BS→List BS→Bool
 | _,[]=>true
 | p,x :: l=>nameB x && (match p with | none=>true | some q=>Op.bytesLess q x) && ascF (some x) l
def tagsB (l:List BS):Bool:=decide (l.length≤4) && ascF none l
def snapsFrom:Option Int→List SnapR→Bool
 | _,[]=>true
 | p,x :: l=>amt x.gd 1 && (match p with | none=>true | some q=>decide (q<x.gd)) && okL x.body.l && propsB x.own.l && tagsB x.tags.l && snapsFrom (some x.gd) l
def snapsB (l:List SnapR):Bool:=decide (l.length≤16) && snapsFrom none l && unlikeB (l.map (·.nm))
def findS (l:List SetR) (p:BS):Int:=firstI (fun s=>s.path == p) l
def findN (l:List SnapR) (n:BS):Int:=firstI (fun s=>s.nm == n) l
def splitL (l:BS):Option (BS×BS):=match atL l with
 | some (p,n)=>if (pathB p && nameB n)=true then some (p,n) else none
 | none=>none
def originB (all:List SetR) (s:SetR):Bool:=s.org == [] || match splitL s.org with
 | none=>false
 | some (p,n)=>!(p == s.path) && match all.find? (fun x=>x.path == p) with
  | none=>false
  | some x=>x.snaps.l.any fun y=>y.nm == n
def setB (all:List SetR) (s:SetR):Bool:=pathB s.path && (match parB s.path with | none=>true | some u=>all.any fun x=>x.path == u) && propsB s.own.l && okL s.body.l && snapsB s.snaps.l && originB all s
def setsFrom (all:List SetR):Option BS→List SetR→Bool
 | _,[]=>true
 | p,s :: l=>setB all s && (match p with | none=>true | some q=>Op.bytesLess q s.path) && setsFrom all (some s.path) l
def setsB (l:List SetR):Bool:=decide (l.length≤32) && (l.any fun x=>x.path == []) && setsFrom l none l
def beginB (x:StageR):Bool:=decide (x.kind=1) && nameB x.nm && amt x.frm 0 && amt x.gd 1 && propsB x.own.l && decide (x.ix=0) && decide (x.ct=0) && decide (x.dt=[]) && smZ x.sm
def stageB (x:StageR):Bool:=!(x.into == []) && pathB x.into && beginB x && okL x.body.l && amt x.at_ 0 && amt x.nx 0
def stagesFrom:Option BS→List StageR→Bool
 | _,[]=>true
 | p,s :: l=>stageB s && (match p with | none=>true | some q=>Op.bytesLess q s.into) && stagesFrom (some s.into) l
def stagesB (l:List StageR):Bool:=decide (l.length≤4) && stagesFrom none l
def entryB (x:EntryR):Bool:=(x.user == [] || nameB x.user) && pathB x.path && amt x.kind 0 && amt x.err 0
def logB (l:List EntryR):Bool:=decide (l.length≤16) && l.all entryB
def tenB (t:TenR):Bool:=nameB t.nm && amt t.quota 0 && amt t.next 1 && setsB t.sets.l && grantsB t.grants.l && stagesB t.stages.l && logB t.log.l
def tenE (t:TenR):Int:=if tenB t=true then 0 else 9
theorem setsFrom_iff (all:List SetR) (p:Option BS) (l:List SetR):setsFrom all p l=true↔(∀ s∈l,setB all s=true)∧(l.Pairwise fun a b=>Op.bytesLess a.path b.path=true)∧∀ q,p=some q→∀ s∈l,Op.bytesLess q s.path=true:=by
 induction l generalizing p with
 | nil=>simp [setsFrom]
 | cons y l ih =>
  have e:setsFrom all p (y :: l)=(setB all y && (match p with | none=>true | some q=>Op.bytesLess q y.path) && setsFrom all (some y.path) l):=by cases p <;> rfl
  rw [e,Bool.and_eq_true,Bool.and_eq_true,ih]
  constructor
  ·rintro ⟨⟨h1,h2⟩,h3,h4,h5⟩
   refine ⟨fun x hx=>?_,List.pairwise_cons.2 ⟨fun z hz=>h5 _ rfl z hz,h4⟩,fun q hq x hx=>?_⟩
   ·rcases List.mem_cons.1 hx with rfl | hx
    ·exact h1
    ·exact h3 x hx
   ·subst hq
    rcases List.mem_cons.1 hx with rfl | hx
    ·exact h2
    ·exact bl_trans h2 (h5 _ rfl x hx)
  ·rintro ⟨h1,h2,h3⟩
   obtain ⟨h4,h5⟩:=List.pairwise_cons.1 h2
   refine ⟨⟨h1 y (List.mem_cons_self ..),?_⟩,fun x hx=>h1 x (List.mem_cons_of_mem _ hx),h5,fun q hq x hx=>?_⟩
   ·cases p with
    | none=>rfl
    | some q=>exact h3 q rfl y (List.mem_cons_self ..)
   ·cases hq
    exact h4 x hx
end Go.Proofs.YtmladblmknbgnaaGreatDoor
