/-
  perms.Check, by its contract. The reference's Props, SameProps: by their contracts. The page's Path, by its contract. props.Set, props.Unset, by their contracts. Tenants: the plain law of what may be. shape.With's order of sets; where a set is put.
-/
import Derived.Test.YtcgclpcocdappaaGreatDoorXM1
import Derived.Test.YtcgclpcocdappaaGreatDoorX0
import Derived.Test.YtcgclpcocdappaaGreatDoorX7
import Derived.Test.YtcgclpcocdappaaGreatDoorX6
import Derived.Test.YtcgclpcocdappaaGreatDoorX8
import Derived.Test.YtcgclpcocdappaaGreatDoorX3
import Derived.Test.YtcgclpcocdappaaGreatDoorX5
import Derived.Test.YtcgclpcocdappaaGreatDoorX2
import Derived.Test.YtcgclpcocdappaaGreatDoorX4
import Derived.Test.YtcgclpcocdappaaGreatDoorX1
namespace Go.Proofs.YtcgclpcocdappaaGreatDoor
open Go.RowKit
def gcells (l:GL):List Value:=cellsK (fun x:GT=>[.string ⟨x.1.toArray⟩,.string ⟨x.2.1.toArray⟩,.int .i64 x.2.2]) l
def prevG (l:GL) (k:Nat):Option GT:=match k with
 | 0=>none
 | j+1=>l[j]?
/-- no text of a grant is longer than this -/
def lenG (l:GL):Prop:=∀ x∈l,x.1.length≤4000000000∧x.2.1.length≤4000000000
set_option maxRecDepth 100000 in
set_option maxHeartbeats 4000000 in
theorem checkG_any (l:GL) (n:Nat) (hnl:n=l.length) (A:Option Addr) (c:Nat) (w:World) (B:Nat) (hr:Reads w B 3 A n (gcells l)) (hB:B≤w.heap.size) (hn:n≤5000000000000) (hv:lenG l) (hmx:HasMax w) :
  Calls Tryz.prog 126 #[.slice A n c] w fun e w'=>e=.returned (.int .i64 (grantsE l))∧Below w.heap.size w w':=by
 have HN:=Lib.hid hnl
 clear hnl
 go_enter Tryz.func126,Tryz.ntmps126
 by_cases hn16:16<n
 ·have hi:(16:Int)<(n:Int):=tZ1
  have HE:Hid (grantsE l=9):=by
   show _=_
   unfold grantsE grantsB
   rw [if_neg]
   rw [Bool.and_eq_true,decide_eq_true_eq]
   have:=HN.out
   omega
  exact mZ72
 have hi:¬ (16:Int)<(n:Int):=tZ1
 have hPE:Hid (∀ b,grantsFrom none l=b→grantsE l=if b=true then 0 else 9):=by
  show ∀ b,_→_
  rintro b rfl
  unfold grantsE grantsB
  rw [decide_eq_true (show l.length≤16 by have:=HN.out;omega),Bool.true_and]
 go_wp2_with fail
 go_loopw [10] (fun j wr=>∃ k:Nat,k≤n∧j=.int .i64 (k:Int)∧Hid (grantsFrom none l=grantsFrom (prevG l k) (l.drop k))∧Below w.heap.size w wr) (fun j _=>n-(intOf j).toNat)
 case atStart=>exact ⟨0,Nat.zero_le _,rfl,rfl,Below.refl _ _⟩
 case round =>
  obtain ⟨k,hk,rfl,hok,hbw⟩:=hrel
  by_cases hlt:k<n
  ·have hrw:=hr.below (hbw.mono hB)
   obtain ⟨ad,rfl,hadB,c0,c1,c2⟩:=hrw.el3 HN.out hlt
   have hki:(k:Int)<(n:Int):=tZ1
   have hkl:k<l.length:=tZ7
   obtain ⟨x,hx⟩:∃ x,x=l[k]'hkl:=⟨_,rfl⟩
   have hxl:=hv x tZ14
   rw [← hx] at c0 c1 c2
   have hdr:=List.drop_eq_getElem_cons hkl
   rw [← hx] at hdr
   have HX:=Lib.hid hx
   have HDR:=Lib.hid hdr
   obtain ⟨xu,xp,xz⟩:=x
   simp only at c0 c1 c2 hxl
   obtain ⟨W0,hW0⟩:∃ W0,W0=wr.alloc (.cells #[.string ⟨xu.toArray⟩,.string ⟨xp.toArray⟩,.int .i64 xz] 147):=⟨_,rfl⟩
   have k0:W0.cell? ⟨wr.heap.size,0,none⟩=some (.string ⟨xu.toArray⟩):=tZ145
   have k1:W0.cell? ⟨wr.heap.size,1,none⟩=some (.string ⟨xp.toArray⟩):=tZ146
   have k2:W0.cell? ⟨wr.heap.size,2,none⟩=some (.int .i64 xz):=by rw [hW0];exact (Blk.new wr _ _).cell 2
   have hszW:W0.heap.size=wr.heap.size+1:=tZ21
   have hlt0:wr.heap.size<W0.heap.size:=tZ1
   have HSZ:=Lib.hid hszW
   have hwr:=hbw.size
   have hbW:Below w.heap.size w W0:=tZ54
   have hmW0:HasMax W0:=hmx.below hbW
   have hS0:=(Below.refl W0.heap.size W0).drew
   have hbad:Hid ((nameB xu=false∨pathB xp=false∨xz<1∨255<xz∨(∃ y,prevG l k=some y∧¬ cmpG y.1 y.2.1 xu xp<0))→grantsE l=9):=by
    exact mZ98
   have hgood:Hid (nameB xu=true→pathB xp=true→1≤xz→xz≤255→(∀ y,prevG l k=some y→cmpG y.1 y.2.1 xu xp<0)→grantsFrom none l=grantsFrom (prevG l (k+1)) (l.drop (k+1))):=by
    exact mZ97
   have hN:∀ W,Calls Tryz.prog 83 #[.string ⟨xu.toArray⟩] W fun e W'=>e=.returned (.bool (nameB xu))∧Below W.heap.size W W':=fun W=>name_any ⟨xu.toArray⟩ W
   have hV:∀ W,HasMax W→Calls Tryz.prog 80 #[.string ⟨xp.toArray⟩] W fun e W'=>e=.returned (.bool (pathB xp))∧Below W.heap.size W W':=fun W hm=>path_any ⟨xp.toArray⟩ W tZ165 hm
   clear hx hdr hok hxl
   obtain ⟨bn,hbn0⟩:∃ b,b=nameB xu:=⟨_,rfl⟩
   obtain ⟨bp,hbp0⟩:∃ b,b=pathB xp:=⟨_,rfl⟩
   rw [← hbn0] at hbad hgood hN
   rw [← hbp0] at hbad hgood hV
   clear hbn0 hbp0
   cases bn with
   | false =>
    have HB:=Lib.hid (hbad.out (.inl rfl))
    have hS:=Lib.hid (fun (W':World) (hB:Below W0.heap.size W0 W')=>(⟨(hB.cell (p:=⟨wr.heap.size,0,none⟩) hlt0).trans k0,(hB.cell (p:=⟨wr.heap.size,1,none⟩) hlt0).trans k1,(hB.cell (p:=⟨wr.heap.size,2,none⟩) hlt0).trans k2,hmW0.below hB,hB⟩:W'.cell? ⟨wr.heap.size,0,none⟩=some (.string ⟨xu.toArray⟩)∧W'.cell? ⟨wr.heap.size,1,none⟩=some (.string ⟨xp.toArray⟩)∧W'.cell? ⟨wr.heap.size,2,none⟩=some (.int .i64 xz)∧HasMax W'∧Below W0.heap.size W0 W'))
    clear hr hrw hbad hgood hV
    go_wp2_with fail
    rw [← hW0]
    clear hW0 hszW
    refine wpC_regionH (fun W'=>W'.cell? ⟨wr.heap.size,0,none⟩=some (.string ⟨xu.toArray⟩)∧W'.cell? ⟨wr.heap.size,1,none⟩=some (.string ⟨xp.toArray⟩)∧W'.cell? ⟨wr.heap.size,2,none⟩=some (.int .i64 xz)∧HasMax W'∧Below W0.heap.size W0 W') (hS.out _ hS0) (fun OPS D QQ HO HD HD2 HQQ=>?_)
    have hgo4:=hgoL HO 4 19 rfl
    have hgo10:=hgoL HO 10 25 rfl
    have hgo15:=hgoL HO 15 30 rfl
    have hgo20:=hgoL HO 20 35 rfl
    have hgo23:=hgoL HO 23 38 rfl
    clear HO
    refine zX ?_
    refine zY ?_
    refine zN hN ?_
    iterate 31 refine zX ?_
    refine wpQuiet_nil (HQQ.out _ (fun W hW=>?_))
    obtain ⟨q0,q1,q2,hmW,hcW⟩:=hW
    exact mZ68
   | true =>
    cases bp with
    | false =>
     have HB:=Lib.hid (hbad.out (.inr (.inl rfl)))
     have hS:=Lib.hid (fun (W':World) (hB:Below W0.heap.size W0 W')=>(⟨(hB.cell (p:=⟨wr.heap.size,0,none⟩) hlt0).trans k0,(hB.cell (p:=⟨wr.heap.size,1,none⟩) hlt0).trans k1,(hB.cell (p:=⟨wr.heap.size,2,none⟩) hlt0).trans k2,hmW0.below hB,hB⟩:W'.cell? ⟨wr.heap.size,0,none⟩=some (.string ⟨xu.toArray⟩)∧W'.cell? ⟨wr.heap.size,1,none⟩=some (.string ⟨xp.toArray⟩)∧W'.cell? ⟨wr.heap.size,2,none⟩=some (.int .i64 xz)∧HasMax W'∧Below W0.heap.size W0 W'))
     clear hr hrw hbad hgood
     go_wp2_with fail
     rw [← hW0]
     clear hW0 hszW
     refine wpC_regionH (fun W'=>W'.cell? ⟨wr.heap.size,0,none⟩=some (.string ⟨xu.toArray⟩)∧W'.cell? ⟨wr.heap.size,1,none⟩=some (.string ⟨xp.toArray⟩)∧W'.cell? ⟨wr.heap.size,2,none⟩=some (.int .i64 xz)∧HasMax W'∧Below W0.heap.size W0 W') (hS.out _ hS0) (fun OPS D QQ HO HD HD2 HQQ=>?_)
     have hgo4:=hgoL HO 4 19 rfl
     have hgo10:=hgoL HO 10 25 rfl
     have hgo15:=hgoL HO 15 30 rfl
     have hgo20:=hgoL HO 20 35 rfl
     have hgo23:=hgoL HO 23 38 rfl
     clear HO
     refine zX ?_
     refine zY ?_
     refine zN hN ?_
     iterate 3 refine zX ?_
     refine zY ?_
     refine wpC_greadS (v:=.bool false) rfl rfl hgo4.out rfl (fun W hW=>?_) ?_
     ·exact mZ95
     dsimp only [zB,zC]
     iterate 26 refine zX ?_
     refine wpQuiet_nil (HQQ.out _ (fun W hW=>?_))
     obtain ⟨q0,q1,q2,hmW,hcW⟩:=hW
     exact mZ68
    | true =>
     by_cases z1:xz<1
     ·have z1':decide (xz<1)=true:=by simpa using z1
      have HB:=Lib.hid (hbad.out (.inr (.inr (.inl z1))))
      have hS:=Lib.hid (fun (W':World) (hB:Below W0.heap.size W0 W')=>(⟨(hB.cell (p:=⟨wr.heap.size,0,none⟩) hlt0).trans k0,(hB.cell (p:=⟨wr.heap.size,1,none⟩) hlt0).trans k1,(hB.cell (p:=⟨wr.heap.size,2,none⟩) hlt0).trans k2,hmW0.below hB,hB⟩:W'.cell? ⟨wr.heap.size,0,none⟩=some (.string ⟨xu.toArray⟩)∧W'.cell? ⟨wr.heap.size,1,none⟩=some (.string ⟨xp.toArray⟩)∧W'.cell? ⟨wr.heap.size,2,none⟩=some (.int .i64 xz)∧HasMax W'∧Below W0.heap.size W0 W'))
      clear hr hrw hbad hgood
      go_wp2_with fail
      rw [← hW0]
      clear hW0 hszW
      refine wpC_regionH (fun W'=>W'.cell? ⟨wr.heap.size,0,none⟩=some (.string ⟨xu.toArray⟩)∧W'.cell? ⟨wr.heap.size,1,none⟩=some (.string ⟨xp.toArray⟩)∧W'.cell? ⟨wr.heap.size,2,none⟩=some (.int .i64 xz)∧HasMax W'∧Below W0.heap.size W0 W') (hS.out _ hS0) (fun OPS D QQ HO HD HD2 HQQ=>?_)
      have hgo4:=hgoL HO 4 19 rfl
      have hgo10:=hgoL HO 10 25 rfl
      have hgo15:=hgoL HO 15 30 rfl
      have hgo20:=hgoL HO 20 35 rfl
      have hgo23:=hgoL HO 23 38 rfl
      clear HO
      refine zX ?_
      refine zY ?_
      refine zN hN ?_
      iterate 3 refine zX ?_
      refine zY ?_
      refine wpC_greadS (v:=.bool true) rfl rfl hgo4.out rfl (fun W hW=>?_) ?_
      ·exact mZ95
      dsimp only [zB,zC]
      iterate 4 refine zX ?_
      refine zY ?_
      iterate 21 refine zX ?_
      refine wpQuiet_nil (HQQ.out _ (fun W hW=>?_))
      obtain ⟨q0,q1,q2,hmW,hcW⟩:=hW
      exact mZ68
     by_cases z2:255<xz
     ·have z1':decide (xz<1)=false:=by simpa using z1
      have z2':decide (255<xz)=true:=by simpa using z2
      have HB:=Lib.hid (hbad.out (.inr (.inr (.inr (.inl z2)))))
      have hS:=Lib.hid (fun (W':World) (hB:Below W0.heap.size W0 W')=>(⟨(hB.cell (p:=⟨wr.heap.size,0,none⟩) hlt0).trans k0,(hB.cell (p:=⟨wr.heap.size,1,none⟩) hlt0).trans k1,(hB.cell (p:=⟨wr.heap.size,2,none⟩) hlt0).trans k2,hmW0.below hB,hB⟩:W'.cell? ⟨wr.heap.size,0,none⟩=some (.string ⟨xu.toArray⟩)∧W'.cell? ⟨wr.heap.size,1,none⟩=some (.string ⟨xp.toArray⟩)∧W'.cell? ⟨wr.heap.size,2,none⟩=some (.int .i64 xz)∧HasMax W'∧Below W0.heap.size W0 W'))
      clear hr hrw hbad hgood
      go_wp2_with fail
      rw [← hW0]
      clear hW0 hszW
      refine wpC_regionH (fun W'=>W'.cell? ⟨wr.heap.size,0,none⟩=some (.string ⟨xu.toArray⟩)∧W'.cell? ⟨wr.heap.size,1,none⟩=some (.string ⟨xp.toArray⟩)∧W'.cell? ⟨wr.heap.size,2,none⟩=some (.int .i64 xz)∧HasMax W'∧Below W0.heap.size W0 W') (hS.out _ hS0) (fun OPS D QQ HO HD HD2 HQQ=>?_)
      have hgo4:=hgoL HO 4 19 rfl
      have hgo10:=hgoL HO 10 25 rfl
      have hgo15:=hgoL HO 15 30 rfl
      have hgo20:=hgoL HO 20 35 rfl
      have hgo23:=hgoL HO 23 38 rfl
      clear HO
      refine zX ?_
      refine zY ?_
      refine zN hN ?_
      iterate 3 refine zX ?_
      refine zY ?_
      refine wpC_greadS (v:=.bool true) rfl rfl hgo4.out rfl (fun W hW=>?_) ?_
      ·exact mZ95
      dsimp only [zB,zC]
      iterate 4 refine zX ?_
      refine zY ?_
      iterate 4 refine zX ?_
      refine zY ?_
      iterate 16 refine zX ?_
      refine wpQuiet_nil (HQQ.out _ (fun W hW=>?_))
      obtain ⟨q0,q1,q2,hmW,hcW⟩:=hW
      exact mZ68
     have z1':decide (xz<1)=false:=by simpa using z1
     have z2':decide (255<xz)=false:=by simpa using z2
     rcases Nat.eq_zero_or_pos k with h0 | h0
     ·have HG:=Lib.hid (hgood.out rfl rfl tZ1 tZ1 (fun y hy=>by subst h0;cases hy))
      have d4:decide ((0:Int)<(k:Int))=false:=tZ6
      have d4':decide (0<k)=false:=tZ6
      clear h0
      have hS:=Lib.hid (fun (W':World) (hB:Below W0.heap.size W0 W')=>(⟨(hB.cell (p:=⟨wr.heap.size,0,none⟩) hlt0).trans k0,(hB.cell (p:=⟨wr.heap.size,1,none⟩) hlt0).trans k1,(hB.cell (p:=⟨wr.heap.size,2,none⟩) hlt0).trans k2,hmW0.below hB,hB⟩:W'.cell? ⟨wr.heap.size,0,none⟩=some (.string ⟨xu.toArray⟩)∧W'.cell? ⟨wr.heap.size,1,none⟩=some (.string ⟨xp.toArray⟩)∧W'.cell? ⟨wr.heap.size,2,none⟩=some (.int .i64 xz)∧HasMax W'∧Below W0.heap.size W0 W'))
      clear hr hrw hbad hgood
      go_wp2_with fail
      rw [← hW0]
      clear hW0 hszW
      refine wpC_regionH (fun W'=>W'.cell? ⟨wr.heap.size,0,none⟩=some (.string ⟨xu.toArray⟩)∧W'.cell? ⟨wr.heap.size,1,none⟩=some (.string ⟨xp.toArray⟩)∧W'.cell? ⟨wr.heap.size,2,none⟩=some (.int .i64 xz)∧HasMax W'∧Below W0.heap.size W0 W') (hS.out _ hS0) (fun OPS D QQ HO HD HD2 HQQ=>?_)
      have hgo4:=hgoL HO 4 19 rfl
      have hgo10:=hgoL HO 10 25 rfl
      have hgo15:=hgoL HO 15 30 rfl
      have hgo20:=hgoL HO 20 35 rfl
      have hgo23:=hgoL HO 23 38 rfl
      clear HO
      refine zX ?_
      refine zY ?_
      refine zN hN ?_
      iterate 3 refine zX ?_
      refine zY ?_
      refine wpC_greadS (v:=.bool true) rfl rfl hgo4.out rfl (fun W hW=>?_) ?_
      ·exact mZ95
      dsimp only [zB,zC]
      iterate 4 refine zX ?_
      refine zY ?_
      iterate 4 refine zX ?_
      refine zY ?_
      iterate 16 refine zX ?_
      refine wpQuiet_nil (HQQ.out _ (fun W hW=>?_))
      obtain ⟨q0,q1,q2,hmW,hcW⟩:=hW
      exact mZ69
     ·have d4:decide ((0:Int)<(k:Int))=true:=tZ6
      have d4':decide (0<k)=true:=tZ6
      have hk1l:k-1<l.length:=tZ1
      obtain ⟨y,hy⟩:∃ y,y=l[k-1]'hk1l:=⟨_,rfl⟩
      have hpv:prevG l k=some y:=by
       exact mZ96
      obtain ⟨ad2,e2,-,p0,p1,p2⟩:=(hrw.el3 HN.out (i:=k-1) tZ1)
      injection e2 with e2
      subst e2
      rw [← hy] at p0 p1 p2
      obtain ⟨yu,yp,yz⟩:=y
      simp only at p0 p1 p2
      have hltp:(ad.add ((k-1)*3)).block<W0.heap.size:=tZ120
      have hltw:(ad.add ((k-1)*3)).block<wr.heap.size:=tZ120
      have kp0:W0.cell? (ad.add ((k-1)*3))=some (.string ⟨yu.toArray⟩):=by rw [hW0];exact (World.cell?_alloc_lt wr _ _ hltw).trans p0
      have kp1:W0.cell? ⟨(ad.add ((k-1)*3)).block,(ad.add ((k-1)*3)).off+1,none⟩=some (.string ⟨yp.toArray⟩):=by rw [hW0];exact (World.cell?_alloc_lt wr _ ⟨(ad.add ((k-1)*3)).block,(ad.add ((k-1)*3)).off+1,none⟩ hltw).trans p1
      have kp2:W0.cell? ⟨(ad.add ((k-1)*3)).block,(ad.add ((k-1)*3)).off+2,none⟩=some (.int .i64 yz):=by rw [hW0];exact (World.cell?_alloc_lt wr _ ⟨(ad.add ((k-1)*3)).block,(ad.add ((k-1)*3)).off+2,none⟩ hltw).trans p2
      have i1:(1:Int)≤(k:Int):=tZ1
      have i2:(k:Int)-1<(n:Int):=tZ1
      have i3:IntKind.i64.wrap ((k:Int)-1)=(k:Int)-1:=IntWalk.i64_in _ tZ1
      have i4:((k:Int)-1).toNat=k-1:=tZ1
      have hO:=fun W=>orderG_any yu yp xu xp yz xz W
      have hbadO:=fun (h:¬ cmpG yu yp xu xp<0)=>hbad.out (.inr (.inr (.inr (.inr ⟨_,hpv,h⟩))))
      have hgoodO:=fun (h:cmpG yu yp xu xp<0)=>hgood.out rfl rfl tZ1 tZ1 (fun y' hy'=>by rw [hpv] at hy';cases hy';exact h)
      obtain ⟨z,hz⟩:∃ z,z=cmpG yu yp xu xp:=⟨_,rfl⟩
      rw [← hz] at hO hbadO hgoodO
      clear hz
      by_cases hcmp:z<0
      ·have HG:=Lib.hid (hgoodO hcmp)
       have z3:decide (0≤z)=false:=tZ6
       clear h0 hpv hy p0 p1 p2 hbadO hgoodO
       have hS:=Lib.hid (fun (W':World) (hB:Below W0.heap.size W0 W')=>(⟨(hB.cell (p:=⟨wr.heap.size,0,none⟩) hlt0).trans k0,(hB.cell (p:=⟨wr.heap.size,1,none⟩) hlt0).trans k1,(hB.cell (p:=⟨wr.heap.size,2,none⟩) hlt0).trans k2,(hB.cell (p:=ad.add ((k-1)*3)) hltp).trans kp0,(hB.cell (p:=⟨(ad.add ((k-1)*3)).block,(ad.add ((k-1)*3)).off+1,none⟩) hltp).trans kp1,(hB.cell (p:=⟨(ad.add ((k-1)*3)).block,(ad.add ((k-1)*3)).off+2,none⟩) hltp).trans kp2,hmW0.below hB,hB⟩:W'.cell? ⟨wr.heap.size,0,none⟩=some (.string ⟨xu.toArray⟩)∧W'.cell? ⟨wr.heap.size,1,none⟩=some (.string ⟨xp.toArray⟩)∧W'.cell? ⟨wr.heap.size,2,none⟩=some (.int .i64 xz)∧W'.cell? (ad.add ((k-1)*3))=some (.string ⟨yu.toArray⟩)∧W'.cell? ⟨(ad.add ((k-1)*3)).block,(ad.add ((k-1)*3)).off+1,none⟩=some (.string ⟨yp.toArray⟩)∧W'.cell? ⟨(ad.add ((k-1)*3)).block,(ad.add ((k-1)*3)).off+2,none⟩=some (.int .i64 yz)∧HasMax W'∧Below W0.heap.size W0 W'))
       clear hr hrw hbad hgood
       go_wp2_with fail
       rw [← hW0]
       clear hW0 hszW
       refine wpC_regionH (fun W'=>W'.cell? ⟨wr.heap.size,0,none⟩=some (.string ⟨xu.toArray⟩)∧W'.cell? ⟨wr.heap.size,1,none⟩=some (.string ⟨xp.toArray⟩)∧W'.cell? ⟨wr.heap.size,2,none⟩=some (.int .i64 xz)∧W'.cell? (ad.add ((k-1)*3))=some (.string ⟨yu.toArray⟩)∧W'.cell? ⟨(ad.add ((k-1)*3)).block,(ad.add ((k-1)*3)).off+1,none⟩=some (.string ⟨yp.toArray⟩)∧W'.cell? ⟨(ad.add ((k-1)*3)).block,(ad.add ((k-1)*3)).off+2,none⟩=some (.int .i64 yz)∧HasMax W'∧Below W0.heap.size W0 W') (hS.out _ hS0) (fun OPS D QQ HO HD HD2 HQQ=>?_)
       have hgo4:=hgoL HO 4 19 rfl
       have hgo10:=hgoL HO 10 25 rfl
       have hgo15:=hgoL HO 15 30 rfl
       have hgo20:=hgoL HO 20 35 rfl
       have hgo23:=hgoL HO 23 38 rfl
       clear HO
       refine zX ?_
       refine zY ?_
       refine zN hN ?_
       iterate 3 refine zX ?_
       refine zY ?_
       refine wpC_greadS (v:=.bool true) rfl rfl hgo4.out rfl (fun W hW=>?_) ?_
       ·replace hW:=HD.out W hW
        obtain ⟨q0,q1,q2,q3,q4,q5,hmW,hcW⟩:=hW
        exact mZ94
       dsimp only [zB,zC]
       iterate 4 refine zX ?_
       refine zY ?_
       iterate 4 refine zX ?_
       refine zY ?_
       iterate 10 refine zX ?_
       iterate 2 refine zY ?_
       refine zN hO ?_
       iterate 3 refine zX ?_
       refine wpQuiet_nil (HQQ.out _ (fun W hW=>?_))
       obtain ⟨q0,q1,q2,q3,q4,q5,hmW,hcW⟩:=hW
       exact mZ69
      ·have HB:=Lib.hid (hbadO hcmp)
       have z3:decide (0≤z)=true:=tZ6
       clear h0 hpv hy p0 p1 p2 hbadO hgoodO
       have hS:=Lib.hid (fun (W':World) (hB:Below W0.heap.size W0 W')=>(⟨(hB.cell (p:=⟨wr.heap.size,0,none⟩) hlt0).trans k0,(hB.cell (p:=⟨wr.heap.size,1,none⟩) hlt0).trans k1,(hB.cell (p:=⟨wr.heap.size,2,none⟩) hlt0).trans k2,(hB.cell (p:=ad.add ((k-1)*3)) hltp).trans kp0,(hB.cell (p:=⟨(ad.add ((k-1)*3)).block,(ad.add ((k-1)*3)).off+1,none⟩) hltp).trans kp1,(hB.cell (p:=⟨(ad.add ((k-1)*3)).block,(ad.add ((k-1)*3)).off+2,none⟩) hltp).trans kp2,hmW0.below hB,hB⟩:W'.cell? ⟨wr.heap.size,0,none⟩=some (.string ⟨xu.toArray⟩)∧W'.cell? ⟨wr.heap.size,1,none⟩=some (.string ⟨xp.toArray⟩)∧W'.cell? ⟨wr.heap.size,2,none⟩=some (.int .i64 xz)∧W'.cell? (ad.add ((k-1)*3))=some (.string ⟨yu.toArray⟩)∧W'.cell? ⟨(ad.add ((k-1)*3)).block,(ad.add ((k-1)*3)).off+1,none⟩=some (.string ⟨yp.toArray⟩)∧W'.cell? ⟨(ad.add ((k-1)*3)).block,(ad.add ((k-1)*3)).off+2,none⟩=some (.int .i64 yz)∧HasMax W'∧Below W0.heap.size W0 W'))
       clear hr hrw hbad hgood
       go_wp2_with fail
       rw [← hW0]
       clear hW0 hszW
       refine wpC_regionH (fun W'=>W'.cell? ⟨wr.heap.size,0,none⟩=some (.string ⟨xu.toArray⟩)∧W'.cell? ⟨wr.heap.size,1,none⟩=some (.string ⟨xp.toArray⟩)∧W'.cell? ⟨wr.heap.size,2,none⟩=some (.int .i64 xz)∧W'.cell? (ad.add ((k-1)*3))=some (.string ⟨yu.toArray⟩)∧W'.cell? ⟨(ad.add ((k-1)*3)).block,(ad.add ((k-1)*3)).off+1,none⟩=some (.string ⟨yp.toArray⟩)∧W'.cell? ⟨(ad.add ((k-1)*3)).block,(ad.add ((k-1)*3)).off+2,none⟩=some (.int .i64 yz)∧HasMax W'∧Below W0.heap.size W0 W') (hS.out _ hS0) (fun OPS D QQ HO HD HD2 HQQ=>?_)
       have hgo4:=hgoL HO 4 19 rfl
       have hgo10:=hgoL HO 10 25 rfl
       have hgo15:=hgoL HO 15 30 rfl
       have hgo20:=hgoL HO 20 35 rfl
       have hgo23:=hgoL HO 23 38 rfl
       clear HO
       refine zX ?_
       refine zY ?_
       refine zN hN ?_
       iterate 3 refine zX ?_
       refine zY ?_
       refine wpC_greadS (v:=.bool true) rfl rfl hgo4.out rfl (fun W hW=>?_) ?_
       ·replace hW:=HD.out W hW
        obtain ⟨q0,q1,q2,q3,q4,q5,hmW,hcW⟩:=hW
        exact mZ94
       dsimp only [zB,zC]
       iterate 4 refine zX ?_
       refine zY ?_
       iterate 4 refine zX ?_
       refine zY ?_
       iterate 10 refine zX ?_
       iterate 2 refine zY ?_
       refine zN hO ?_
       iterate 3 refine zX ?_
       refine wpQuiet_nil (HQQ.out _ (fun W hW=>?_))
       obtain ⟨q0,q1,q2,q3,q4,q5,hmW,hcW⟩:=hW
       exact mZ68
  ·obtain rfl:k=n:=tZ1
   have HF:Hid (grantsE l=0):=by
    exact mZ67
   clear hok hr
   exact mZ4
end Go.Proofs.YtcgclpcocdappaaGreatDoor
namespace Go.Proofs.YtcgclpcocdappaaGreatDoor
open Go.RowKit
theorem quietN {P:Program} {f:FuncId} {args:Array Value} {w:World} {p m:Nat} {v:Value} (h:Calls P f args (w.drewN (p+m)) fun e w'=>e=.returned v∧w'=w.drewN (p+m)) :
  Calls P f args (w.drewN (p+m)) fun e w''=>e=.returned v∧∃ n,w''=w.drewN (p+n):=h.mono fun _ _ ⟨h1,h2⟩=>⟨h1,m,h2⟩
set_option maxRecDepth 100000 in
set_option maxHeartbeats 2000000 in
theorem refProps_any (l:PL) (n:Nat) (hnl:n=l.length) (A:Option Addr) (c:Nat) (w:World) (B:Nat) (hr:Reads w B 2 A n (pcells l)) (hn:n≤5000000000000) (hv:∀ x∈l,x.1.length≤140737488351232∧x.2.length≤140737488351232) :
  Calls Tryz.prog 119 #[.slice A n c] w fun e w'=>e=.returned (.int .i64 (propsE l))∧∃ q,w'=w.drewN q:=by
 have HN:=Lib.hid hnl
 obtain ⟨E,hE⟩:∃ E,E=propsE l:=⟨_,rfl⟩
 have hPE:Hid (∀ b,propsFrom none l=b→E=if b=true∧n≤8 then 0 else 9):=by
  show ∀ b,_→_
  rintro b rfl
  rw [hE]
  unfold propsE propsB
  rw [← hnl]
  by_cases h8:n≤8
  ·simp [h8]
  ·simp [h8]
 rw [← hE]
 clear hnl hE
 go_enter Tryz.func119,Tryz.ntmps119
 go_wp2_with fail
 go_loopw [3] (fun j wr=>∃ k:Nat,k≤n∧j=.int .i64 (k:Int)∧Hid (propsFrom none l=propsFrom (prevP l k) (l.drop k))∧∃ p,wr=w.drewN p) (fun j _=>n-(intOf j).toNat)
 case atStart=>exact ⟨0,Nat.zero_le _,rfl,rfl,0,rfl⟩
 case round =>
  obtain ⟨k,hk,rfl,hok,p,rfl⟩:=hrel
  by_cases hlt:k<n
  ·obtain ⟨ad,rfl,hadB,c0,c1⟩:=hr.prop HN.out hlt
   have hki:(k:Int)<(n:Int):=tZ1
   have hkl:k<l.length:=tZ7
   obtain ⟨x,hx⟩:∃ x,x=l[k]'hkl:=⟨_,rfl⟩
   have hxl:=hv x tZ14
   rw [← hx] at c0 c1
   have hdr:=List.drop_eq_getElem_cons hkl
   rw [← hx] at hdr
   have HX:=Lib.hid hx
   have HDR:=Lib.hid hdr
   obtain ⟨xn,xv⟩:=x
   simp only [strV] at c0 c1 hxl
   have hbad:Hid ((nameB xn=false∨valB xv=false∨(∃ y,prevP l k=some y∧Op.bytesLess y xn=false))→E=9):=by
    exact mZ71
   have hgood:Hid (nameB xn=true→valB xv=true→(∀ y,prevP l k=some y→Op.bytesLess y xn=true)→propsFrom none l=propsFrom (prevP l (k+1)) (l.drop (k+1))):=by
    exact mZ70
   have hN:∀ m,Calls Tryz.prog 63 #[.string ⟨xn.toArray⟩] (w.drewN (p+m)) fun e W'=>e=.returned (.bool (nameB xn))∧∃ n,W'=w.drewN (p+n):=fun m=>quietN (refName_any xn _ hxl.1)
   have hV:∀ m,Calls Tryz.prog 120 #[.string ⟨xv.toArray⟩] (w.drewN (p+m)) fun e W'=>e=.returned (.bool (valB xv))∧∃ n,W'=w.drewN (p+n):=fun m=>quietN (refValue_any xv _ hxl.2)
   clear hx hdr hok hxl hv
   obtain ⟨bn,hbn0⟩:∃ b,b=nameB xn:=⟨_,rfl⟩
   obtain ⟨bv,hbv0⟩:∃ b,b=valB xv:=⟨_,rfl⟩
   rw [← hbn0] at hbad hgood hN
   rw [← hbv0] at hbad hgood hV
   clear hbn0 hbv0
   cases bn with
   | false =>
    have HB:=Lib.hid (hbad.out (.inl rfl))
    clear hr hbad hgood hV
    go_wp2_with fail
    go_big_quiet ((go_at_call 63;exact hN _))
    clear hN
    exact mZ101
   | true =>
    cases bv with
    | false =>
     have HB:=Lib.hid (hbad.out (.inr (.inl rfl)))
     clear hr hbad hgood
     go_wp2_with fail
     go_big_quiet (first | (go_at_call 63;exact hN _) | (go_at_call 120;exact hV _))
     clear hN hV
     exact mZ101
    | true =>
     rcases Nat.eq_zero_or_pos k with h0 | h0
     ·have HG:=Lib.hid (hgood.out rfl rfl (fun y hy=>by subst h0;cases hy))
      have d4:decide ((0:Int)<(k:Int))=false:=tZ6
      have d4':decide (0<k)=false:=tZ6
      clear h0 hr hbad hgood
      go_wp2_with fail
      go_big_quiet (first | (go_at_call 63;exact hN _) | (go_at_call 120;exact hV _))
      clear hN hV
      exact mZ102
     ·have d4:decide ((0:Int)<(k:Int))=true:=tZ6
      have d4':decide (0<k)=true:=tZ6
      have hk1l:k-1<l.length:=tZ1
      obtain ⟨y,hy⟩:∃ y,y=(l[k-1]'hk1l).1:=⟨_,rfl⟩
      have hpv:prevP l k=some y:=by
       exact mZ9
      obtain ⟨ad2,e2,-,c2,-⟩:=(hr.prop HN.out (k:=k-1) tZ1)
      injection e2 with e2
      subst e2
      rw [← hy] at c2
      simp only [strV] at c2
      have i1:(1:Int)≤(k:Int):=tZ1
      have i2:(k:Int)-1<(n:Int):=tZ1
      have i3:IntKind.i64.wrap ((k:Int)-1)=(k:Int)-1:=IntWalk.i64_in _ tZ1
      have i4:((k:Int)-1).toNat=k-1:=tZ1
      have hleq:=leqS 9 xn y
      cases hcmp:Op.bytesLess y xn with
      | true =>
       have HG:=Lib.hid (hgood.out rfl rfl (fun y' hy'=>by rw [hpv] at hy';cases hy';exact hcmp))
       have f1:(Op.bytesLess xn y || xn == y)=false:=by
        exact mZ104
       rw [f1] at hleq
       clear hr hbad hgood h0 hpv hy hcmp f1
       go_wp2_with fail
       go_big_quiet (first | (go_at_call 63;exact hN _) | (go_at_call 120;exact hV _))
       clear hN hV hleq
       exact mZ102
      | false =>
       have HB:=Lib.hid (hbad.out (.inr (.inr ⟨y,hpv,hcmp⟩)))
       have f1:(Op.bytesLess xn y || xn == y)=true:=by
        by_cases e:xn=y
        ·simp [e]
        ·rw [bl_tri y xn hcmp (fun h=>e h.symm)];rfl
       rw [f1] at hleq
       clear hr hbad hgood h0 hpv hy hcmp f1
       go_wp2_with fail
       go_big_quiet (first | (go_at_call 63;exact hN _) | (go_at_call 120;exact hV _))
       clear hN hV hleq
       exact mZ101
  ·have hkn:k=n:=tZ1
   have hF:Hid (E=if n≤8 then 0 else 9):=by
    exact mZ100
   clear hok hr hkn hPE
   by_cases h8:n≤8
   ·have hi8:¬ (8:Int)<(n:Int):=tZ1
    have HV:Hid (E=0):=tZ173
    exact mZ99
   ·have hi8:(8:Int)<(n:Int):=tZ1
    have HV:Hid (E=9):=tZ174
    exact mZ99
set_option maxRecDepth 100000 in
set_option maxHeartbeats 1000000 in
theorem sameProps_any (a b:PL) (n m:Nat) (hna:n=a.length) (hmb:m=b.length) (A1 A2:Option Addr) (c1 c2:Nat) (w:World) (B1 B2:Nat) (hr1:Reads w B1 2 A1 n (pcells a)) (hr2:Reads w B2 2 A2 m (pcells b)) (hn:n≤5000000000000) (hm:m≤5000000000000) :
  Calls Tryz.prog 14 #[.slice A1 n c1,.slice A2 m c2] w fun e w'=>e=.returned (.bool (decide (a=b)))∧∃ q,w'=w.drewN q:=by
 have HN:=Lib.hid hna
 have HM:=Lib.hid hmb
 clear hna hmb
 by_cases hnm:n=m
 ·subst hnm
  go_enter Tryz.func14,Tryz.ntmps14
  go_wp2_with fail
  go_loopw [5] (fun i wr=>∃ k:Nat,k≤n∧i=.int .i64 (k:Int)∧Hid (a.take k=b.take k)∧∃ q,wr=w.drewN q) (fun i _=>n-(intOf i).toNat)
  case atStart=>exact ⟨0,Nat.zero_le _,rfl,(show a.take 0=b.take 0 by simp),0,rfl⟩
  case round =>
   obtain ⟨k,hk,rfl,hok,q,rfl⟩:=hrel
   by_cases hlt:k<n
   ·have hki:(k:Int)<(n:Int):=tZ1
    have hka:k<a.length:=tZ7
    have hkb:k<b.length:=tZ140
    obtain ⟨ad1,rfl,_,hc1,hc1'⟩:=hr1.prop HN.out hlt
    obtain ⟨ad2,rfl,_,hc2,hc2'⟩:=hr2.prop HM.out hlt
    obtain ⟨x,hx⟩:∃ x,x=a[k]'hka:=⟨_,rfl⟩
    obtain ⟨y,hy⟩:∃ y,y=b[k]'hkb:=⟨_,rfl⟩
    rw [← hx] at hc1 hc1'
    rw [← hy] at hc2 hc2'
    have t1:=List.take_succ_eq_append_getElem hka
    have t2:=List.take_succ_eq_append_getElem hkb
    rw [← hx] at t1
    rw [← hy] at t2
    have T1:=Lib.hid t1
    have T2:=Lib.hid t2
    have X1:=Lib.hid hx
    have X2:=Lib.hid hy
    obtain ⟨xn,xv⟩:=x
    obtain ⟨yn,yv⟩:=y
    simp only [strV] at hc1 hc1' hc2 hc2'
    clear hx hy t1 t2 hr1 hr2
    by_cases hxy:xn=yn∧xv=yv
    ·obtain ⟨rfl,rfl⟩:=hxy
     exact mZ106
    ·have HD:Hid (decide (a=b)=false):=by
      show _=_
      refine decide_eq_false (fun e=>hxy ?_)
      have:(xn,xv)=(yn,yv):=tZ161
      exact ⟨congrArg Prod.fst this,congrArg Prod.snd this⟩
     by_cases hxn:xn=yn
     ·have hxv:¬ xv=yv:=fun e=>hxy ⟨hxn,e⟩
      subst hxn
      clear hxy
      exact mZ105
     ·clear hxy
      exact mZ105
   ·have HD:Hid (decide (a=b)=true):=by
     show _=_
     refine decide_eq_true ?_
     have:=hok.out
     rwa [List.take_of_length_le tZ7,List.take_of_length_le tZ140] at this
    clear hr1 hr2
    go_wp2_with fail
    go_ret
    exact ⟨by rw [HD.out];rfl,q,rfl⟩
 ·have hd:((n:Int) != (m:Int))=true:=tZ6
  have HD:Hid (decide (a=b)=false):=by
   show _=_
   refine decide_eq_false (fun e=>hnm ?_)
   rw [HN.out,HM.out,e]
  clear hnm hr1 hr2
  go_enter Tryz.func14,Tryz.ntmps14
  go_wp2_with fail
  go_ret
  exact ⟨by rw [HD.out];rfl,0,rfl⟩
end Go.Proofs.YtcgclpcocdappaaGreatDoor
namespace Go.Proofs.YtcgclpcocdappaaGreatDoor
open Go.RowKit
theorem extract_mk (s:ByteArray) (j k:Nat):s.extract j k=⟨((s.data.toList.drop j).take (k-j)).toArray⟩:=by
 apply eq_mk
 rw [ByteArray.data_extract,Array.toList_extract]
theorem partsL_len (l:BS):(partsL l).length≤l.length+1:=by
 induction l with
 | nil=>simp [partsL]
 | cons c l ih =>
  unfold partsL
  split
  ·simp;omega
  ·split
   ·rename_i p ps h
    rw [h] at ih
    simp at ih ⊢
    omega
   ·simp
set_option maxRecDepth 100000 in
set_option maxHeartbeats 1000000 in
theorem parts_any (s:ByteArray) (w:World) (hs:s.size≤4000000000) :
  Calls Tryz.prog 177 #[.string s,.int .u8 47] w fun e w'=>∃ v,e=.returned v∧w'.ownsRow w.heap.size 9 1 v (partsL s.data.toList).length (scells (partsL s.data.toList))∧Below w.heap.size w w':=by
 obtain ⟨i0,hi0,hz0,hz1,hz2⟩:=info_parts Tryz.infoS
 have HSZ:=Lib.hid (Lib.size_eq s)
 go_enter Tryz.func177,Tryz.ntmps177
 go_wp2_with fail
 go_loopw [5,6,7] (fun o f i wr=>∃ (k j m:Nat) (done:List BS) (A1:Option Addr) (c1:Nat),k≤s.size∧j≤k∧m≤j∧i=.int .i64 (k:Int)∧f=.int .i64 (j:Int)∧o=.slice A1 m c1∧Hid (m=done.length∧partsL s.data.toList=done++partsL (s.data.toList.drop j)∧47 ∉ (s.data.toList.drop j).take (k-j))∧wr.ownsRow w.heap.size 9 1 (.slice A1 m c1) m (scells done)∧Below w.heap.size w wr) (fun _ _ i _=>s.size-(intOf i).toNat)
 case atStart=>exact ⟨0,0,0,[],none,0,Nat.zero_le _,Nat.le_refl _,Nat.le_refl _,rfl,rfl,rfl,⟨rfl,by simp,by simp⟩,⟨rfl,.inl ⟨rfl,rfl⟩⟩,Below.refl _ _⟩
 case round =>
  obtain ⟨k,j,m,done,A1,c1,hk,hj,hm,rfl,rfl,rfl,hI,hown,hbw⟩:=hrel
  by_cases hlt:k<s.size
  ·have hki:(k:Int)<(s.size:Int):=tZ1
   have hkl:k<s.data.toList.length:=tZ8
   have hg:=bget s k hlt
   obtain ⟨y,hy⟩:∃ y,y=s[k]'hlt:=⟨_,rfl⟩
   have hyv:((s[k]'hlt).toNat:Int)=(y.toNat:Int):=by rw [hy]
   have hget:s.data.toList[k]?=some y:=by rw [List.getElem?_eq_getElem hkl,hg,← hy]
   have htk:(s.data.toList.drop j).take (k+1-j)=(s.data.toList.drop j).take (k-j)++[y]:=by
    rw [show k+1-j=k-j+1 by omega,List.take_add_one,List.getElem?_drop,show j+(k-j)=k by omega,hget]
    rfl
   have HTK:=Lib.hid htk
   have HGET:=Lib.hid hget
   clear hg hy hget htk
   by_cases h47:y=47
   ·have hyi:(y.toNat:Int)=47:=by rw [h47];rfl
    have hjk:(j:Int)≤(k:Int):=tZ1
    have hks:(k:Int)≤(s.size:Int):=tZ1
    have hex:=extract_mk s j k
    obtain ⟨q,hq⟩:∃ q,q=(s.data.toList.drop j).take (k-j):=⟨_,rfl⟩
    rw [← hq] at hex
    have HN:Hid (partsL s.data.toList=(done++[q])++partsL (s.data.toList.drop (k+1))):=by
     show _=_
     have hsp:s.data.toList.drop j=q++47 :: s.data.toList.drop (k+1):=by
      conv=>lhs;rw [← List.take_append_drop (k-j) (s.data.toList.drop j),← hq,List.drop_drop,show j+(k-j)=k by omega,List.drop_eq_getElem_cons hkl]
      have:=HGET.out
      rw [List.getElem?_eq_getElem hkl,h47] at this
      rw [Option.some.inj this]
     rw [hI.out.2.1,hsp,partsL_two _ _ (by rw [hq];exact hI.out.2.2),List.append_assoc]
     rfl
    have HM:Hid (m+1=(done++[q]).length):=by show _=_;rw [List.length_append,hI.out.1];rfl
    have hsz2:=hbw.size
    clear hq h47
    go_wp2_with (at_builtin;(refine wpList_push _ rfl (.tmp 19) (.tmp 24) 48 rfl w.heap.size 9 i0 (.string ByteArray.empty) 1 16 Tryz.underlying48 hi0 hz0 hz1 hz2 rfl tZ4 (.slice A1 m c1) m (scells done) rfl hown 1 #[.string ⟨q.toArray⟩] 9 tZ135 rfl tZ5 tZ9 tZ1 hsz2 ?_);intro v4 w4 hown4 hb4 _)
    obtain ⟨A4,c4,rfl,_,_,_⟩:=own_form hown4
    have hb5:=hbw.trans hb4
    have HO:Hid (w4.ownsRow w.heap.size 9 1 (.slice A4 (m+1) c4) (m+1) (scells (done++[q]))):=by show World.ownsRow _ _ _ _ _ _ _;rw [scells_append];exact hown4
    clear hown hown4 hbw hb4
    go_wp2_with fail
    go_roundw
    case rel=>exact ⟨k+1,k+1,m+1,done++[q],A4,c4,by omega,Nat.le_refl _,by omega,by go_num,by go_num,rfl,⟨HM.out,HN.out,by simp⟩,HO.out,hb5⟩
    case measure=>simp [intOf];omega
   ·have hyi:¬ (y.toNat:Int)=47:=by
     intro e
     exact h47 (UInt8.toNat_inj.1 (by have:(47:UInt8).toNat=47:=rfl;omega))
    have HN:Hid (47 ∉ (s.data.toList.drop j).take (k+1-j)):=by
     show _ ∉ _
     rw [HTK.out,List.mem_append,List.mem_singleton]
     rintro (h | h)
     ·exact hI.out.2.2 h
     ·exact h47 h.symm
    clear h47
    go_wp2_with fail
    go_roundw
    case rel=>exact ⟨k+1,j,m,done,A1,c1,by omega,by omega,hm,by go_num,rfl,rfl,⟨hI.out.1,hI.out.2.1,HN.out⟩,hown,hbw⟩
    case measure=>simp [intOf];omega
  ·obtain rfl:k=s.size:=tZ1
   have hex:=extract_mk s j s.size
   obtain ⟨q,hq⟩:∃ q,q=(s.data.toList.drop j).take (s.size-j):=⟨_,rfl⟩
   rw [← hq] at hex
   have HN:Hid (partsL s.data.toList=done++[q]):=by
    show _=_
    have:(s.data.toList.drop j).take (s.size-j)=s.data.toList.drop j:=List.take_of_length_le (by rw [List.length_drop];have:=HSZ.out;omega)
    have h47:=hI.out.2.2
    rw [this] at h47 hq
    rw [hI.out.2.1,partsL_one _ h47,hq]
   have HM:Hid (m+1=(partsL s.data.toList).length):=by show _=_;rw [HN.out,List.length_append,hI.out.1];rfl
   have hsz2:=hbw.size
   have hjk:(j:Int)≤(s.size:Int):=tZ1
   clear hq
   go_wp2_with (at_builtin;(refine wpList_push _ rfl (.tmp 28) (.tmp 32) 48 rfl w.heap.size 9 i0 (.string ByteArray.empty) 1 16 Tryz.underlying48 hi0 hz0 hz1 hz2 rfl tZ4 (.slice A1 m c1) m (scells done) rfl hown 1 #[.string ⟨q.toArray⟩] 9 tZ135 rfl tZ5 tZ9 tZ1 hsz2 ?_);intro v4 w4 hown4 hb4 _)
   have HO:Hid (w4.ownsRow w.heap.size 9 1 v4 (m+1) (scells (partsL s.data.toList))):=by show World.ownsRow _ _ _ _ _ _ _;rw [HN.out,scells_append];exact hown4
   have hb5:=hbw.trans hb4
   clear hown hown4 hbw hb4
   go_wp2_with fail
   go_ret
   exact ⟨v4,rfl,by rw [← HM.out];exact HO.out,hb5⟩
theorem parts_small (l:BS):∀ p∈partsL l,p.length≤l.length:=by
 induction l with
 | nil=>simp [partsL]
 | cons c l ih =>
  unfold partsL
  split
  ·intro p hp
   rcases List.mem_cons.1 hp with rfl | hp
   ·simp
   ·have:=ih p hp;simp;omega
  ·split
   ·rename_i q ps h
    rw [h] at ih
    intro p hp
    rcases List.mem_cons.1 hp with rfl | hp
    ·have:=ih q (List.mem_cons_self ..);simp;omega
    ·have:=ih p (List.mem_cons_of_mem _ hp);simp;omega
   ·intro p hp
    rw [List.mem_singleton] at hp
    subst hp
    simp
set_option maxRecDepth 100000 in
set_option maxHeartbeats 1000000 in
theorem refPath_any (s:ByteArray) (w:World) (hs:s.size≤4000000000) :
  Calls Tryz.prog 115 #[.string s] w fun e w'=>e=.returned (.bool (pathB s.data.toList))∧Below w.heap.size w w':=by
 have htl:=Lib.hid (toList_data s)
 have hpar:=parts_any s w hs
 have HSM:=Lib.hid (parts_small s.data.toList)
 have HPL:=Lib.hid (partsL_len s.data.toList)
 have HSZ:=Lib.hid (Lib.size_eq s)
 go_enter Tryz.func115,Tryz.ntmps115
 go_wp2_with fail
 ·exact mZ61
 ·have h0:s.toList.isEmpty=false:=by assumption
  have HP:Hid (pathB s.data.toList=(decide ((partsL s.data.toList).length≤4) && (partsL s.data.toList).all nameB)):=by
   show _=_
   rw [htl.out] at h0
   unfold pathB
   rw [h0,Bool.false_or]
  obtain ⟨L,hL⟩:∃ L,L=partsL s.data.toList:=⟨_,rfl⟩
  rw [← hL] at hpar HSM HPL HP
  obtain ⟨n,hn⟩:∃ n,n=L.length:=⟨_,rfl⟩
  rw [← hn] at hpar HPL HP
  have hnb:n≤4000000001:=by have:=HPL.out;have:=HSZ.out;omega
  have HN:=Lib.hid hn
  clear hL hn
  refine hpar.mono ?_
  clear hpar
  rintro e w1 ⟨v,rfl,hown,hb1⟩
  obtain ⟨A1,c1,rfl,_,_,hr⟩:=own_form hown
  clear hown
  go_wp2_with fail
  go_loopw [4] (fun i wr=>∃ k:Nat,k≤n∧i=.int .i64 (k:Int)∧Hid ((L.take k).all nameB=true)∧wr=w1) (fun i _=>n-(intOf i).toNat)
  case atStart=>exact ⟨0,Nat.zero_le _,rfl,rfl,rfl⟩
  case round =>
   obtain ⟨k,hk,rfl,hok,hww⟩:=hrel
   have hww:=hww.symm
   subst hww
   by_cases hlt:k<n
   ·have hki:(k:Int)<(n:Int):=tZ1
    have hkl:k<L.length:=tZ7
    obtain ⟨ad,rfl,hadB,d0⟩:=strs_at hr HN.out hlt
    have htk:=List.take_succ_eq_append_getElem hkl
    obtain ⟨x,hx⟩:∃ x,x=L[k]'hkl:=⟨_,rfl⟩
    have hm:x∈L:=tZ14
    rw [← hx] at d0 htk
    simp only [strV] at d0
    have hxs:=HSM.out x hm
    have hc:=refName_any x w1 tZ8
    obtain ⟨b,hb⟩:∃ b,b=nameB x:=⟨_,rfl⟩
    rw [← hb] at hc
    have HBB:=Lib.hid hb
    have HT:=Lib.hid htk
    have HM:=Lib.hid hm
    clear hx htk hb hxs hm
    go_wp2_with fail
    refine hc.mono ?_
    clear hc
    rintro e w2 ⟨rfl,rfl⟩
    cases b with
    | true =>
     exact mZ81
    | false =>
     have HV:Hid (pathB s.data.toList=false):=by
      show _=_
      have:L.all nameB=false:=by
       rw [← Bool.not_eq_true,List.all_eq_true]
       intro h
       have:=h x HM.out
       rw [← HBB.out] at this
       cases this
      rw [HP.out,this,Bool.and_false]
     go_wp2_with fail
     go_ret
     exact ⟨by rw [HV.out];rfl,hb1⟩
   ·have HA:Hid (pathB s.data.toList=decide ((n:Int)≤4)):=by
     show _=_
     have:=hok.out
     rw [List.take_of_length_le tZ7] at this
     rw [HP.out,this,Bool.and_true]
     exact decide_eq_decide.2 tZ1
    clear hok hr
    go_wp2_with fail
    go_ret
    exact ⟨by rw [HA.out];rfl,hb1⟩
end Go.Proofs.YtcgclpcocdappaaGreatDoor
namespace Go.Proofs.YtcgclpcocdappaaGreatDoor
open Go.RowKit
def cfN (nm:BS):BS×BS→Int:=fun x=>cmpS x.1 nm
theorem cfN_asc (l:PL) (h:SortP l) (nm:BS):SignAsc (cfN nm) l:=by
 intro i j x y hij hx hy hlt
 unfold cfN at hlt ⊢
 rw [cmpS_neg] at hlt ⊢
 obtain ⟨hi,hxi⟩:=List.getElem?_eq_some_iff.1 hx
 obtain ⟨hj,hyj⟩:=List.getElem?_eq_some_iff.1 hy
 have:=List.pairwise_iff_getElem.1 h i j hi hj hij
 rw [hxi,hyj] at this
 exact bl_trans this hlt
theorem putP_split (p:BS×BS) (l:PL):SortP l→putP p l=l.take (posF (cfN p.1) l)++[p]++l.drop (posF (cfN p.1) l+if atF (cfN p.1) l=true then 1 else 0):=by
 induction l with
 | nil=>intro _;rfl
 | cons x l ih =>
  intro hs
  obtain ⟨h1,h2⟩:=List.pairwise_cons.1 hs
  rw [posF_cons,atF_cons]
  unfold putP
  by_cases hn:cfN p.1 x<0
  ·have hb:Op.bytesLess x.1 p.1=true:=(cmpS_neg _ _).1 hn
   have hnb:¬ Op.bytesLess p.1 x.1=true:=fun h=>by
    have:=bl_trans hb h
    exact mZ103
   rw [if_neg hnb,if_neg (fun e=>bl_ne hb e.symm),if_pos hn,if_pos hn,ih h2,Nat.add_right_comm]
   rfl
  ·rw [if_neg hn,if_neg hn]
   by_cases hz:x.1=p.1
   ·have hz0:(cfN p.1 x == 0)=true:=by rw [beq_iff_eq];exact (cmpS_zero _ _).2 hz
    rw [if_neg (by rw [hz,bl_irrefl];simp),if_pos hz.symm,hz0]
    rfl
   ·have hz0:(cfN p.1 x == 0)=false:=by rw [beq_eq_false_iff_ne];exact fun e=>hz ((cmpS_zero _ _).1 e)
    have hb:Op.bytesLess p.1 x.1=true:=by
     refine bl_tri x.1 p.1 ?_ hz
     rw [← Bool.not_eq_true]
     exact fun h=>hn ((cmpS_neg _ _).2 h)
    rw [if_pos hb,hz0]
    rfl
theorem atF_get (l:PL) (nm:BS) (hs:SortP l):atF (cfN nm) l=(getP l nm).isSome:=by
 induction l with
 | nil=>rfl
 | cons x l ih =>
  obtain ⟨h1,h2⟩:=List.pairwise_cons.1 hs
  rw [atF_cons,getP_cons]
  by_cases hn:cfN nm x<0
  ·have hb:Op.bytesLess x.1 nm=true:=(cmpS_neg _ _).1 hn
   rw [if_pos hn,if_neg (bl_ne hb),ih h2]
  ·rw [if_neg hn]
   by_cases hz:x.1=nm
   ·rw [if_pos hz]
    show _=true
    rw [beq_iff_eq]
    exact (cmpS_zero _ _).2 hz
   ·rw [if_neg hz]
    have hb:Op.bytesLess nm x.1=true:=by
     refine bl_tri x.1 nm ?_ hz
     rw [← Bool.not_eq_true]
     exact fun h=>hn ((cmpS_neg _ _).2 h)
    rw [getP_small (fun y hy=>bl_trans hb (h1 y hy))]
    show _=false
    rw [beq_eq_false_iff_ne]
    exact fun e=>hz ((cmpS_zero _ _).1 e)
def dropP (nm:BS) (l:PL):PL:=l.filter fun x=>!(x.1 == nm)
theorem dropP_split (nm:BS) (l:PL):SortP l→atF (cfN nm) l=true→dropP nm l=l.take (posF (cfN nm) l)++l.drop (posF (cfN nm) l+1):=by
 induction l with
 | nil=>intro _ h;cases h
 | cons x l ih =>
  intro hs hat
  obtain ⟨h1,h2⟩:=List.pairwise_cons.1 hs
  rw [atF_cons] at hat
  rw [posF_cons]
  unfold dropP
  by_cases hn:cfN nm x<0
  ·have hb:Op.bytesLess x.1 nm=true:=(cmpS_neg _ _).1 hn
   rw [if_pos hn] at hat
   rw [if_pos hn,List.filter_cons_of_pos (by simpa using bl_ne hb)]
   show x :: dropP nm l=_
   rw [ih h2 hat]
   rfl
  ·rw [if_neg hn,beq_iff_eq] at hat
   have hx:x.1=nm:=(cmpS_zero _ _).1 hat
   rw [if_neg hn,List.filter_cons_of_neg tZ129]
   show dropP nm l=l
   unfold dropP
   rw [List.filter_eq_self]
   intro y hy
   have:=bl_ne (h1 y hy)
   rw [hx] at this
   simpa using this.symm
theorem byP_any (x v nm:BS) (w:World):Calls Tryz.prog 160 #[.agg #[.string ⟨x.toArray⟩,.string ⟨v.toArray⟩],.string ⟨nm.toArray⟩] w fun e w'=>e=.returned (.int .i64 (cmpS x nm))∧Below w.heap.size w w':=by
 have hb0:=(Below.refl w.heap.size w).alloc (Nat.le_refl _) (.cells #[.string ⟨x.toArray⟩,.string ⟨v.toArray⟩] 78)
 have hc:=(Blk.new w 78 #[.string ⟨x.toArray⟩,.string ⟨v.toArray⟩]).cell 0
 go_enter Tryz.func160,Tryz.ntmps160
 go_wp2_with fail
 refine (compareS_any x nm _).mono ?_
 exact mZ55
def setE (l:PL) (nm tx:BS):Int:=if propsB l=true then (if nameB nm=true then (if valB tx=true then (if (getP l nm).isSome=false∧l.length=8 then 3 else 0) else 9) else 31) else 9
def PPost (w:World) (F:PL) (E:Int) (e:Ending) (w':World):Prop :=
 ∃ v,e=.returned (.tuple #[v,.int .i64 E])∧(if E=0 then w'.ownsRow w.heap.size 78 2 v F.length (pcells F) else v=.slice none 0 0)∧Below w.heap.size w w'
theorem pcells_take (l:PL) (k:Nat):pcells (l.take k)=(pcells l).take (k*2):=cellsK_take (enc:=fun x:BS×BS=>[strV x.1,strV x.2]) (fun _=>rfl) l k
theorem pcells_drop (l:PL) (k:Nat):pcells (l.drop k)=(pcells l).drop (k*2):=cellsK_drop (enc:=fun x:BS×BS=>[strV x.1,strV x.2]) (fun _=>rfl) l k
end Go.Proofs.YtcgclpcocdappaaGreatDoor
namespace Go.Proofs.YtcgclpcocdappaaGreatDoor
open Go.RowKit
/-! ### what stands under what -/
/-- what a path stands under, if any -/
def parB (s:BS):Option BS:=if s=[]∨pathB s=false then none else some (upL s)
/-! ### what may be -/
def unlikeF:List BS→List BS→Bool
 | _,[]=>true
 | acc,x :: l=>nameB x && !(acc.contains x) && unlikeF (acc++[x]) l
def unlikeB (l:List BS):Bool:=unlikeF [] l
/-- names, each behind the one ahead of it -/
def ascF:Option BS→List BS→Bool
 | _,[]=>true
 | p,x :: l=>nameB x && (match p with | none=>true | some q=>Op.bytesLess q x) && ascF (some x) l
def tagsB (l:List BS):Bool:=decide (l.length≤4) && ascF none l
def snapsFrom:Option Int→List SnapR→Bool
 | _,[]=>true
 | p,x :: l=>amt x.gd 1 && (match p with | none=>true | some q=>decide (q<x.gd)) && okL x.body.l && propsB x.own.l && tagsB x.tags.l && snapsFrom (some x.gd) l
def snapsB (l:List SnapR):Bool:=decide (l.length≤16) && snapsFrom none l && unlikeB (l.map (·.nm))
def findS (l:List SetR) (p:BS):Int:=firstI (fun s=>s.path == p) l
def findN (l:List SnapR) (n:BS):Int:=firstI (fun s=>s.nm == n) l
def splitL (l:BS):Option (BS×BS):=match atL l with
 | some (p,n)=>if (pathB p && nameB n)=true then some (p,n) else none
 | none=>none
def originB (all:List SetR) (s:SetR):Bool:=s.org == [] || match splitL s.org with
 | none=>false
 | some (p,n)=>!(p == s.path) && match all.find? (fun x=>x.path == p) with
  | none=>false
  | some x=>x.snaps.l.any fun y=>y.nm == n
def setB (all:List SetR) (s:SetR):Bool:=pathB s.path && (match parB s.path with | none=>true | some u=>all.any fun x=>x.path == u) && propsB s.own.l && okL s.body.l && snapsB s.snaps.l && originB all s
def setsFrom (all:List SetR):Option BS→List SetR→Bool
 | _,[]=>true
 | p,s :: l=>setB all s && (match p with | none=>true | some q=>Op.bytesLess q s.path) && setsFrom all (some s.path) l
def setsB (l:List SetR):Bool:=decide (l.length≤32) && (l.any fun x=>x.path == []) && setsFrom l none l
def beginB (x:StageR):Bool:=decide (x.kind=1) && nameB x.nm && amt x.frm 0 && amt x.gd 1 && propsB x.own.l && decide (x.ix=0) && decide (x.ct=0) && decide (x.dt=[]) && smZ x.sm
def stageB (x:StageR):Bool:=!(x.into == []) && pathB x.into && beginB x && okL x.body.l && amt x.at_ 0 && amt x.nx 0
def stagesFrom:Option BS→List StageR→Bool
 | _,[]=>true
 | p,s :: l=>stageB s && (match p with | none=>true | some q=>Op.bytesLess q s.into) && stagesFrom (some s.into) l
def stagesB (l:List StageR):Bool:=decide (l.length≤4) && stagesFrom none l
def entryB (x:EntryR):Bool:=(x.user == [] || nameB x.user) && pathB x.path && amt x.kind 0 && amt x.err 0
def logB (l:List EntryR):Bool:=decide (l.length≤16) && l.all entryB
def tenB (t:TenR):Bool:=nameB t.nm && amt t.quota 0 && amt t.next 1 && setsB t.sets.l && grantsB t.grants.l && stagesB t.stages.l && logB t.log.l
def tenE (t:TenR):Int:=if tenB t=true then 0 else 9
theorem setsFrom_iff (all:List SetR) (p:Option BS) (l:List SetR):setsFrom all p l=true↔(∀ s∈l,setB all s=true)∧(l.Pairwise fun a b=>Op.bytesLess a.path b.path=true)∧∀ q,p=some q→∀ s∈l,Op.bytesLess q s.path=true:=by
 induction l generalizing p with
 | nil=>simp [setsFrom]
 | cons y l ih =>
  have e:setsFrom all p (y :: l)=(setB all y && (match p with | none=>true | some q=>Op.bytesLess q y.path) && setsFrom all (some y.path) l):=by cases p <;> rfl
  rw [e,Bool.and_eq_true,Bool.and_eq_true,ih]
  constructor
  ·rintro ⟨⟨h1,h2⟩,h3,h4,h5⟩
   refine ⟨fun x hx=>?_,List.pairwise_cons.2 ⟨fun z hz=>h5 _ rfl z hz,h4⟩,fun q hq x hx=>?_⟩
   ·rcases List.mem_cons.1 hx with rfl | hx
    ·exact h1
    ·exact h3 x hx
   ·subst hq
    rcases List.mem_cons.1 hx with rfl | hx
    ·exact h2
    ·exact bl_trans h2 (h5 _ rfl x hx)
  ·rintro ⟨h1,h2,h3⟩
   obtain ⟨h4,h5⟩:=List.pairwise_cons.1 h2
   refine ⟨⟨h1 y (List.mem_cons_self ..),?_⟩,fun x hx=>h1 x (List.mem_cons_of_mem _ hx),h5,fun q hq x hx=>?_⟩
   ·cases p with
    | none=>rfl
    | some q=>exact h3 q rfl y (List.mem_cons_self ..)
   ·cases hq
    exact h4 x hx
end Go.Proofs.YtcgclpcocdappaaGreatDoor
namespace Go.Proofs.YtcgclpcocdappaaGreatDoor
open Go.RowKit
set_option maxRecDepth 100000 in
set_option maxHeartbeats 1000000 in
theorem with1_any (a o x:BS) (bA zA oA:Option Addr) (bn bc zn zc on oc:Nat) (w:World) :
  Calls Tryz.prog 146 #[.agg #[.string ⟨a.toArray⟩,.string ⟨o.toArray⟩,.slice bA bn bc,.slice zA zn zc,.slice oA on oc],.string ⟨x.toArray⟩] w fun e w'=>e=.returned (.int .i64 (cmpS a x))∧Below w.heap.size w w':=by
 have hb1:=(Below.refl w.heap.size w).alloc (Nat.le_refl _) (.cells #[.string ⟨a.toArray⟩,.string ⟨o.toArray⟩,.slice bA bn bc,.slice zA zn zc,.slice oA on oc] 42)
 go_enter Tryz.func146,Tryz.ntmps146
 go_wp2_with fail
 refine (compareS_any a x _).mono ?_
 rintro e w1 ⟨rfl,q,rfl⟩
 go_wp2_with fail
 go_ret
 exact ⟨rfl,below_drewN hb1 q⟩
set_option maxRecDepth 100000 in
/-- the place of a path among sets in order -/
theorem searchSets_any (l:List SetR) (p:BS) (hl:SignAsc (fun s:SetR=>cmpS s.path p) l) (n:Nat) (hnl:n=l.length) (A:Option Addr) (c:Nat) (w:World) (B:Nat) (hr:Reads w B 5 A n (cellsK encSet l)) (hB:B≤w.heap.size) (hn:n≤5000000000000) :
  Calls Tryz.prog 145 #[.slice A n c,.string ⟨p.toArray⟩,.func (.func 146) #[] #[]] w fun e w'=>e=.returned (.tuple #[.int .i64 (posF (fun s:SetR=>cmpS s.path p) l),.bool (atF (fun s:SetR=>cmpS s.path p) l)])∧Below w.heap.size w w' :=
 searchSet_any (fun s:SetR=>.string ⟨s.path.toArray⟩) (fun s=>.string ⟨s.org.toArray⟩) (fun s=>.slice s.body.A s.body.n s.body.c) (fun s=>.slice s.snaps.A s.snaps.n s.snaps.c) (fun s=>.slice s.own.A s.own.n s.own.c) (fun s:SetR=>cmpS s.path p) l hl n hnl A c (.string ⟨p.toArray⟩) w B hr hB hn
  fun x W _=>with1_any x.path x.org p x.body.A x.snaps.A x.own.A x.body.n x.body.c x.snaps.n x.snaps.c x.own.n x.own.c W
end Go.Proofs.YtcgclpcocdappaaGreatDoor
