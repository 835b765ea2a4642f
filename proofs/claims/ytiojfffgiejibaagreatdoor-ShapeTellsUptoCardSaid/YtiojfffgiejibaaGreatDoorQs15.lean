/-
  perms.Check, by its contract. The page's SameSnap, SameSet at equal contents: they answer true.
-/
import Derived.Test.YtiojfffgiejibaaGreatDoorQsM1
import Derived.WalkKit
import Derived.WalkSpells
import Derived.Below
import Derived.Laws.OwnMore
import Derived.Deep.AppendLies
import Derived.Deep.Draws
import Derived.Laws.Rows
import Derived.Maps.AppendAt
import Derived.RegionTactic
import Derived.OwnWalk
import Derived.Deep.QuietTactic
import Derived.BigQuiet
import Derived.Lib.Hide
import Derived.Laws.CopyOwn
import Derived.IntWalk
import Derived.Deep.Quiet
import Derived.Handy
import Derived.Test.YtiojfffgiejibaaGreatDoorRows
import Derived.Orders
import Derived.Lib.SplitLaws
import Derived.Lib.LastIndexByte
import Derived.Lib.Strings
import Derived.ShutString
import Derived.Sort.Walk0
import Derived.Sort.KeysCollected
import Derived.Shelf.Strings.Search1
import Derived.Shelf.Strings.Search2
import Derived.Shelf.Strings.Search3
import Derived.Shelf.Strings.Cut
import Derived.Shelf.Strings.Count
import Derived.Shelf.LaysM
import Derived.Shelf.Strings.Shaped
import Derived.Shelf.Strings.LastIndex
import Derived.Shelf.Strings.Split
import Derived.Shelf.Strings.SplitShaped
import Derived.Shelf.Unicode.Decode
import Derived.Shelf.Strings.RuneCount
import Derived.Shelf.Strings.Explode
import Derived.Shelf.Unicode.DecodeSlow
import Derived.Shelf.Slices.Turned
import Derived.Test.YtiojfffgiejibaaGreatDoorProg
import Derived.Laws.BytesString
import Derived.Laws.IdiomStrings
import Derived.Lib.ConvBytes
import Derived.Test.YtiojfffgiejibaaGreatDoorQ0
import Derived.Test.YtiojfffgiejibaaGreatDoorQs1
import Derived.Test.YtiojfffgiejibaaGreatDoorQs2
import Derived.Test.YtiojfffgiejibaaGreatDoorQs3
import Derived.Test.YtiojfffgiejibaaGreatDoorQs4
import Derived.Test.YtiojfffgiejibaaGreatDoorQs5
import Derived.Test.YtiojfffgiejibaaGreatDoorQs6
import Derived.Test.YtiojfffgiejibaaGreatDoorQs7
import Derived.Test.YtiojfffgiejibaaGreatDoorQs8
import Derived.Test.YtiojfffgiejibaaGreatDoorQs10
import Derived.Test.YtiojfffgiejibaaGreatDoorQs12
import Derived.Test.YtiojfffgiejibaaGreatDoorQs13
namespace Go.Proofs.YtiojfffgiejibaaGreatDoor
open Go.RowKit
def gcells (l:GL):List Value:=cellsK (fun x:GT=>[.string ⟨x.1.toArray⟩,.string ⟨x.2.1.toArray⟩,.int .i64 x.2.2]) l
def prevG (l:GL) (k:Nat):Option GT:=match k with
 | 0=>none
 | j+1=>l[j]?
/-- no text of a grant is longer than this -/
def lenG (l:GL):Prop:=∀ x∈l,x.1.length≤4000000000∧x.2.1.length≤4000000000
set_option maxRecDepth 100000 in
set_option maxHeartbeats 4000000 in
theorem checkG_any (l:GL) (n:Nat) (hnl:n=l.length) (A:Option Addr) (c:Nat) (w:World) (B:Nat) (hr:Reads w B 3 A n (gcells l)) (hB:B≤w.heap.size) (hn:n≤5000000000000) (hv:lenG l) (hmx:HasMax w) :
  Calls Tryz.prog 107 #[.slice A n c] w fun e w'=>e=.returned (.int .i64 (grantsE l))∧Below w.heap.size w w':=by
 have HN:=Lib.hid hnl
 clear hnl
 go_enter Tryz.func107,Tryz.ntmps107
 by_cases hn16:16<n
 ·have hi:(16:Int)<(n:Int):=tZ1
  have HE:Hid (grantsE l=9):=by
   show _=_
   unfold grantsE grantsB
   rw [if_neg]
   rw [Bool.and_eq_true,decide_eq_true_eq]
   have:=HN.out
   omega
  exact mZ17
 have hi:¬ (16:Int)<(n:Int):=tZ1
 have hPE:Hid (∀ b,grantsFrom none l=b→grantsE l=if b=true then 0 else 9):=by
  show ∀ b,_→_
  rintro b rfl
  unfold grantsE grantsB
  rw [decide_eq_true (show l.length≤16 by have:=HN.out;omega),Bool.true_and]
 go_wp2_with fail
 go_loopw [10] (fun j wr=>∃ k:Nat,k≤n∧j=.int .i64 (k:Int)∧Hid (grantsFrom none l=grantsFrom (prevG l k) (l.drop k))∧Below w.heap.size w wr) (fun j _=>n-(intOf j).toNat)
 case atStart=>exact ⟨0,Nat.zero_le _,rfl,rfl,Below.refl _ _⟩
 case round =>
  obtain ⟨k,hk,rfl,hok,hbw⟩:=hrel
  by_cases hlt:k<n
  ·have hrw:=hr.below (hbw.mono hB)
   obtain ⟨ad,rfl,hadB,c0,c1,c2⟩:=hrw.el3 HN.out hlt
   have hki:(k:Int)<(n:Int):=tZ1
   have hkl:k<l.length:=tZ9
   obtain ⟨x,hx⟩:∃ x,x=l[k]'hkl:=⟨_,rfl⟩
   have hxl:=hv x tZ12
   rw [← hx] at c0 c1 c2
   have hdr:=List.drop_eq_getElem_cons hkl
   rw [← hx] at hdr
   have HX:=Lib.hid hx
   have HDR:=Lib.hid hdr
   obtain ⟨xu,xp,xz⟩:=x
   simp only at c0 c1 c2 hxl
   obtain ⟨W0,hW0⟩:∃ W0,W0=wr.alloc (.cells #[.string ⟨xu.toArray⟩,.string ⟨xp.toArray⟩,.int .i64 xz] 104):=⟨_,rfl⟩
   have k0:W0.cell? ⟨wr.heap.size,0,none⟩=some (.string ⟨xu.toArray⟩):=tZ108
   have k1:W0.cell? ⟨wr.heap.size,1,none⟩=some (.string ⟨xp.toArray⟩):=tZ109
   have k2:W0.cell? ⟨wr.heap.size,2,none⟩=some (.int .i64 xz):=by rw [hW0];exact (Blk.new wr _ _).cell 2
   have hszW:W0.heap.size=wr.heap.size+1:=tZ15
   have hlt0:wr.heap.size<W0.heap.size:=tZ1
   have HSZ:=Lib.hid hszW
   have hwr:=hbw.size
   have hbW:Below w.heap.size w W0:=tZ31
   have hmW0:HasMax W0:=hmx.below hbW
   have hS0:=(Below.refl W0.heap.size W0).drew
   have hbad:Hid ((nameB xu=false∨pathB xp=false∨xz<1∨255<xz∨(∃ y,prevG l k=some y∧¬ cmpG y.1 y.2.1 xu xp<0))→grantsE l=9):=by
    exact mZ101
   have hgood:Hid (nameB xu=true→pathB xp=true→1≤xz→xz≤255→(∀ y,prevG l k=some y→cmpG y.1 y.2.1 xu xp<0)→grantsFrom none l=grantsFrom (prevG l (k+1)) (l.drop (k+1))):=by
    exact mZ100
   have hN:∀ W,Calls Tryz.prog 77 #[.string ⟨xu.toArray⟩] W fun e W'=>e=.returned (.bool (nameB xu))∧Below W.heap.size W W':=fun W=>name_any ⟨xu.toArray⟩ W
   have hV:∀ W,HasMax W→Calls Tryz.prog 72 #[.string ⟨xp.toArray⟩] W fun e W'=>e=.returned (.bool (pathB xp))∧Below W.heap.size W W':=fun W hm=>path_any ⟨xp.toArray⟩ W tZ133 hm
   clear hx hdr hok hxl
   obtain ⟨bn,hbn0⟩:∃ b,b=nameB xu:=⟨_,rfl⟩
   obtain ⟨bp,hbp0⟩:∃ b,b=pathB xp:=⟨_,rfl⟩
   rw [← hbn0] at hbad hgood hN
   rw [← hbp0] at hbad hgood hV
   clear hbn0 hbp0
   cases bn with
   | false =>
    have HB:=Lib.hid (hbad.out (.inl rfl))
    have hS:=Lib.hid (fun (W':World) (hB:Below W0.heap.size W0 W')=>(⟨(hB.cell (p:=⟨wr.heap.size,0,none⟩) hlt0).trans k0,(hB.cell (p:=⟨wr.heap.size,1,none⟩) hlt0).trans k1,(hB.cell (p:=⟨wr.heap.size,2,none⟩) hlt0).trans k2,hmW0.below hB,hB⟩:W'.cell? ⟨wr.heap.size,0,none⟩=some (.string ⟨xu.toArray⟩)∧W'.cell? ⟨wr.heap.size,1,none⟩=some (.string ⟨xp.toArray⟩)∧W'.cell? ⟨wr.heap.size,2,none⟩=some (.int .i64 xz)∧HasMax W'∧Below W0.heap.size W0 W'))
    clear hr hrw hbad hgood hV
    go_wp2_with fail
    rw [← hW0]
    clear hW0 hszW
    refine wpC_regionH (fun W'=>W'.cell? ⟨wr.heap.size,0,none⟩=some (.string ⟨xu.toArray⟩)∧W'.cell? ⟨wr.heap.size,1,none⟩=some (.string ⟨xp.toArray⟩)∧W'.cell? ⟨wr.heap.size,2,none⟩=some (.int .i64 xz)∧HasMax W'∧Below W0.heap.size W0 W') (hS.out _ hS0) (fun OPS D QQ HO HD HD2 HQQ=>?_)
    have hgo4:=hgoL HO 4 19 rfl
    have hgo10:=hgoL HO 10 25 rfl
    have hgo15:=hgoL HO 15 30 rfl
    have hgo20:=hgoL HO 20 35 rfl
    have hgo23:=hgoL HO 23 38 rfl
    clear HO
    refine zX ?_
    refine zY ?_
    refine zN hN ?_
    iterate 31 refine zX ?_
    refine wpQuiet_nil (HQQ.out _ (fun W hW=>?_))
    obtain ⟨q0,q1,q2,hmW,hcW⟩:=hW
    exact mZ12
   | true =>
    cases bp with
    | false =>
     have HB:=Lib.hid (hbad.out (.inr (.inl rfl)))
     have hS:=Lib.hid (fun (W':World) (hB:Below W0.heap.size W0 W')=>(⟨(hB.cell (p:=⟨wr.heap.size,0,none⟩) hlt0).trans k0,(hB.cell (p:=⟨wr.heap.size,1,none⟩) hlt0).trans k1,(hB.cell (p:=⟨wr.heap.size,2,none⟩) hlt0).trans k2,hmW0.below hB,hB⟩:W'.cell? ⟨wr.heap.size,0,none⟩=some (.string ⟨xu.toArray⟩)∧W'.cell? ⟨wr.heap.size,1,none⟩=some (.string ⟨xp.toArray⟩)∧W'.cell? ⟨wr.heap.size,2,none⟩=some (.int .i64 xz)∧HasMax W'∧Below W0.heap.size W0 W'))
     clear hr hrw hbad hgood
     go_wp2_with fail
     rw [← hW0]
     clear hW0 hszW
     refine wpC_regionH (fun W'=>W'.cell? ⟨wr.heap.size,0,none⟩=some (.string ⟨xu.toArray⟩)∧W'.cell? ⟨wr.heap.size,1,none⟩=some (.string ⟨xp.toArray⟩)∧W'.cell? ⟨wr.heap.size,2,none⟩=some (.int .i64 xz)∧HasMax W'∧Below W0.heap.size W0 W') (hS.out _ hS0) (fun OPS D QQ HO HD HD2 HQQ=>?_)
     have hgo4:=hgoL HO 4 19 rfl
     have hgo10:=hgoL HO 10 25 rfl
     have hgo15:=hgoL HO 15 30 rfl
     have hgo20:=hgoL HO 20 35 rfl
     have hgo23:=hgoL HO 23 38 rfl
     clear HO
     refine zX ?_
     refine zY ?_
     refine zN hN ?_
     iterate 3 refine zX ?_
     refine zY ?_
     refine wpC_greadS (v:=.bool false) rfl rfl hgo4.out rfl (fun W hW=>?_) ?_
     ·exact mZ98
     dsimp only [zB,zC]
     iterate 26 refine zX ?_
     refine wpQuiet_nil (HQQ.out _ (fun W hW=>?_))
     obtain ⟨q0,q1,q2,hmW,hcW⟩:=hW
     exact mZ12
    | true =>
     by_cases z1:xz<1
     ·have z1':decide (xz<1)=true:=by simpa using z1
      have HB:=Lib.hid (hbad.out (.inr (.inr (.inl z1))))
      have hS:=Lib.hid (fun (W':World) (hB:Below W0.heap.size W0 W')=>(⟨(hB.cell (p:=⟨wr.heap.size,0,none⟩) hlt0).trans k0,(hB.cell (p:=⟨wr.heap.size,1,none⟩) hlt0).trans k1,(hB.cell (p:=⟨wr.heap.size,2,none⟩) hlt0).trans k2,hmW0.below hB,hB⟩:W'.cell? ⟨wr.heap.size,0,none⟩=some (.string ⟨xu.toArray⟩)∧W'.cell? ⟨wr.heap.size,1,none⟩=some (.string ⟨xp.toArray⟩)∧W'.cell? ⟨wr.heap.size,2,none⟩=some (.int .i64 xz)∧HasMax W'∧Below W0.heap.size W0 W'))
      clear hr hrw hbad hgood
      go_wp2_with fail
      rw [← hW0]
      clear hW0 hszW
      refine wpC_regionH (fun W'=>W'.cell? ⟨wr.heap.size,0,none⟩=some (.string ⟨xu.toArray⟩)∧W'.cell? ⟨wr.heap.size,1,none⟩=some (.string ⟨xp.toArray⟩)∧W'.cell? ⟨wr.heap.size,2,none⟩=some (.int .i64 xz)∧HasMax W'∧Below W0.heap.size W0 W') (hS.out _ hS0) (fun OPS D QQ HO HD HD2 HQQ=>?_)
      have hgo4:=hgoL HO 4 19 rfl
      have hgo10:=hgoL HO 10 25 rfl
      have hgo15:=hgoL HO 15 30 rfl
      have hgo20:=hgoL HO 20 35 rfl
      have hgo23:=hgoL HO 23 38 rfl
      clear HO
      refine zX ?_
      refine zY ?_
      refine zN hN ?_
      iterate 3 refine zX ?_
      refine zY ?_
      refine wpC_greadS (v:=.bool true) rfl rfl hgo4.out rfl (fun W hW=>?_) ?_
      ·exact mZ98
      dsimp only [zB,zC]
      iterate 4 refine zX ?_
      refine zY ?_
      iterate 21 refine zX ?_
      refine wpQuiet_nil (HQQ.out _ (fun W hW=>?_))
      obtain ⟨q0,q1,q2,hmW,hcW⟩:=hW
      exact mZ12
     by_cases z2:255<xz
     ·have z1':decide (xz<1)=false:=by simpa using z1
      have z2':decide (255<xz)=true:=by simpa using z2
      have HB:=Lib.hid (hbad.out (.inr (.inr (.inr (.inl z2)))))
      have hS:=Lib.hid (fun (W':World) (hB:Below W0.heap.size W0 W')=>(⟨(hB.cell (p:=⟨wr.heap.size,0,none⟩) hlt0).trans k0,(hB.cell (p:=⟨wr.heap.size,1,none⟩) hlt0).trans k1,(hB.cell (p:=⟨wr.heap.size,2,none⟩) hlt0).trans k2,hmW0.below hB,hB⟩:W'.cell? ⟨wr.heap.size,0,none⟩=some (.string ⟨xu.toArray⟩)∧W'.cell? ⟨wr.heap.size,1,none⟩=some (.string ⟨xp.toArray⟩)∧W'.cell? ⟨wr.heap.size,2,none⟩=some (.int .i64 xz)∧HasMax W'∧Below W0.heap.size W0 W'))
      clear hr hrw hbad hgood
      go_wp2_with fail
      rw [← hW0]
      clear hW0 hszW
      refine wpC_regionH (fun W'=>W'.cell? ⟨wr.heap.size,0,none⟩=some (.string ⟨xu.toArray⟩)∧W'.cell? ⟨wr.heap.size,1,none⟩=some (.string ⟨xp.toArray⟩)∧W'.cell? ⟨wr.heap.size,2,none⟩=some (.int .i64 xz)∧HasMax W'∧Below W0.heap.size W0 W') (hS.out _ hS0) (fun OPS D QQ HO HD HD2 HQQ=>?_)
      have hgo4:=hgoL HO 4 19 rfl
      have hgo10:=hgoL HO 10 25 rfl
      have hgo15:=hgoL HO 15 30 rfl
      have hgo20:=hgoL HO 20 35 rfl
      have hgo23:=hgoL HO 23 38 rfl
      clear HO
      refine zX ?_
      refine zY ?_
      refine zN hN ?_
      iterate 3 refine zX ?_
      refine zY ?_
      refine wpC_greadS (v:=.bool true) rfl rfl hgo4.out rfl (fun W hW=>?_) ?_
      ·exact mZ98
      dsimp only [zB,zC]
      iterate 4 refine zX ?_
      refine zY ?_
      iterate 4 refine zX ?_
      refine zY ?_
      iterate 16 refine zX ?_
      refine wpQuiet_nil (HQQ.out _ (fun W hW=>?_))
      obtain ⟨q0,q1,q2,hmW,hcW⟩:=hW
      exact mZ12
     have z1':decide (xz<1)=false:=by simpa using z1
     have z2':decide (255<xz)=false:=by simpa using z2
     rcases Nat.eq_zero_or_pos k with h0 | h0
     ·have HG:=Lib.hid (hgood.out rfl rfl tZ1 tZ1 (fun y hy=>by subst h0;cases hy))
      have d4:decide ((0:Int)<(k:Int))=false:=tZ7
      have d4':decide (0<k)=false:=tZ7
      clear h0
      have hS:=Lib.hid (fun (W':World) (hB:Below W0.heap.size W0 W')=>(⟨(hB.cell (p:=⟨wr.heap.size,0,none⟩) hlt0).trans k0,(hB.cell (p:=⟨wr.heap.size,1,none⟩) hlt0).trans k1,(hB.cell (p:=⟨wr.heap.size,2,none⟩) hlt0).trans k2,hmW0.below hB,hB⟩:W'.cell? ⟨wr.heap.size,0,none⟩=some (.string ⟨xu.toArray⟩)∧W'.cell? ⟨wr.heap.size,1,none⟩=some (.string ⟨xp.toArray⟩)∧W'.cell? ⟨wr.heap.size,2,none⟩=some (.int .i64 xz)∧HasMax W'∧Below W0.heap.size W0 W'))
      clear hr hrw hbad hgood
      go_wp2_with fail
      rw [← hW0]
      clear hW0 hszW
      refine wpC_regionH (fun W'=>W'.cell? ⟨wr.heap.size,0,none⟩=some (.string ⟨xu.toArray⟩)∧W'.cell? ⟨wr.heap.size,1,none⟩=some (.string ⟨xp.toArray⟩)∧W'.cell? ⟨wr.heap.size,2,none⟩=some (.int .i64 xz)∧HasMax W'∧Below W0.heap.size W0 W') (hS.out _ hS0) (fun OPS D QQ HO HD HD2 HQQ=>?_)
      have hgo4:=hgoL HO 4 19 rfl
      have hgo10:=hgoL HO 10 25 rfl
      have hgo15:=hgoL HO 15 30 rfl
      have hgo20:=hgoL HO 20 35 rfl
      have hgo23:=hgoL HO 23 38 rfl
      clear HO
      refine zX ?_
      refine zY ?_
      refine zN hN ?_
      iterate 3 refine zX ?_
      refine zY ?_
      refine wpC_greadS (v:=.bool true) rfl rfl hgo4.out rfl (fun W hW=>?_) ?_
      ·exact mZ98
      dsimp only [zB,zC]
      iterate 4 refine zX ?_
      refine zY ?_
      iterate 4 refine zX ?_
      refine zY ?_
      iterate 16 refine zX ?_
      refine wpQuiet_nil (HQQ.out _ (fun W hW=>?_))
      obtain ⟨q0,q1,q2,hmW,hcW⟩:=hW
      exact mZ13
     ·have d4:decide ((0:Int)<(k:Int))=true:=tZ7
      have d4':decide (0<k)=true:=tZ7
      have hk1l:k-1<l.length:=tZ1
      obtain ⟨y,hy⟩:∃ y,y=l[k-1]'hk1l:=⟨_,rfl⟩
      have hpv:prevG l k=some y:=by
       exact mZ99
      obtain ⟨ad2,e2,-,p0,p1,p2⟩:=(hrw.el3 HN.out (i:=k-1) tZ1)
      injection e2 with e2
      subst e2
      rw [← hy] at p0 p1 p2
      obtain ⟨yu,yp,yz⟩:=y
      simp only at p0 p1 p2
      have hltp:(ad.add ((k-1)*3)).block<W0.heap.size:=tZ82
      have hltw:(ad.add ((k-1)*3)).block<wr.heap.size:=tZ82
      have kp0:W0.cell? (ad.add ((k-1)*3))=some (.string ⟨yu.toArray⟩):=by rw [hW0];exact (World.cell?_alloc_lt wr _ _ hltw).trans p0
      have kp1:W0.cell? ⟨(ad.add ((k-1)*3)).block,(ad.add ((k-1)*3)).off+1,none⟩=some (.string ⟨yp.toArray⟩):=by rw [hW0];exact (World.cell?_alloc_lt wr _ ⟨(ad.add ((k-1)*3)).block,(ad.add ((k-1)*3)).off+1,none⟩ hltw).trans p1
      have kp2:W0.cell? ⟨(ad.add ((k-1)*3)).block,(ad.add ((k-1)*3)).off+2,none⟩=some (.int .i64 yz):=by rw [hW0];exact (World.cell?_alloc_lt wr _ ⟨(ad.add ((k-1)*3)).block,(ad.add ((k-1)*3)).off+2,none⟩ hltw).trans p2
      have i1:(1:Int)≤(k:Int):=tZ1
      have i2:(k:Int)-1<(n:Int):=tZ1
      have i3:IntKind.i64.wrap ((k:Int)-1)=(k:Int)-1:=IntWalk.i64_in _ tZ1
      have i4:((k:Int)-1).toNat=k-1:=tZ1
      have hO:=fun W=>orderG_any yu yp xu xp yz xz W
      have hbadO:=fun (h:¬ cmpG yu yp xu xp<0)=>hbad.out (.inr (.inr (.inr (.inr ⟨_,hpv,h⟩))))
      have hgoodO:=fun (h:cmpG yu yp xu xp<0)=>hgood.out rfl rfl tZ1 tZ1 (fun y' hy'=>by rw [hpv] at hy';cases hy';exact h)
      obtain ⟨z,hz⟩:∃ z,z=cmpG yu yp xu xp:=⟨_,rfl⟩
      rw [← hz] at hO hbadO hgoodO
      clear hz
      by_cases hcmp:z<0
      ·have HG:=Lib.hid (hgoodO hcmp)
       have z3:decide (0≤z)=false:=tZ7
       clear h0 hpv hy p0 p1 p2 hbadO hgoodO
       have hS:=Lib.hid (fun (W':World) (hB:Below W0.heap.size W0 W')=>(⟨(hB.cell (p:=⟨wr.heap.size,0,none⟩) hlt0).trans k0,(hB.cell (p:=⟨wr.heap.size,1,none⟩) hlt0).trans k1,(hB.cell (p:=⟨wr.heap.size,2,none⟩) hlt0).trans k2,(hB.cell (p:=ad.add ((k-1)*3)) hltp).trans kp0,(hB.cell (p:=⟨(ad.add ((k-1)*3)).block,(ad.add ((k-1)*3)).off+1,none⟩) hltp).trans kp1,(hB.cell (p:=⟨(ad.add ((k-1)*3)).block,(ad.add ((k-1)*3)).off+2,none⟩) hltp).trans kp2,hmW0.below hB,hB⟩:W'.cell? ⟨wr.heap.size,0,none⟩=some (.string ⟨xu.toArray⟩)∧W'.cell? ⟨wr.heap.size,1,none⟩=some (.string ⟨xp.toArray⟩)∧W'.cell? ⟨wr.heap.size,2,none⟩=some (.int .i64 xz)∧W'.cell? (ad.add ((k-1)*3))=some (.string ⟨yu.toArray⟩)∧W'.cell? ⟨(ad.add ((k-1)*3)).block,(ad.add ((k-1)*3)).off+1,none⟩=some (.string ⟨yp.toArray⟩)∧W'.cell? ⟨(ad.add ((k-1)*3)).block,(ad.add ((k-1)*3)).off+2,none⟩=some (.int .i64 yz)∧HasMax W'∧Below W0.heap.size W0 W'))
       clear hr hrw hbad hgood
       go_wp2_with fail
       rw [← hW0]
       clear hW0 hszW
       refine wpC_regionH (fun W'=>W'.cell? ⟨wr.heap.size,0,none⟩=some (.string ⟨xu.toArray⟩)∧W'.cell? ⟨wr.heap.size,1,none⟩=some (.string ⟨xp.toArray⟩)∧W'.cell? ⟨wr.heap.size,2,none⟩=some (.int .i64 xz)∧W'.cell? (ad.add ((k-1)*3))=some (.string ⟨yu.toArray⟩)∧W'.cell? ⟨(ad.add ((k-1)*3)).block,(ad.add ((k-1)*3)).off+1,none⟩=some (.string ⟨yp.toArray⟩)∧W'.cell? ⟨(ad.add ((k-1)*3)).block,(ad.add ((k-1)*3)).off+2,none⟩=some (.int .i64 yz)∧HasMax W'∧Below W0.heap.size W0 W') (hS.out _ hS0) (fun OPS D QQ HO HD HD2 HQQ=>?_)
       have hgo4:=hgoL HO 4 19 rfl
       have hgo10:=hgoL HO 10 25 rfl
       have hgo15:=hgoL HO 15 30 rfl
       have hgo20:=hgoL HO 20 35 rfl
       have hgo23:=hgoL HO 23 38 rfl
       clear HO
       refine zX ?_
       refine zY ?_
       refine zN hN ?_
       iterate 3 refine zX ?_
       refine zY ?_
       refine wpC_greadS (v:=.bool true) rfl rfl hgo4.out rfl (fun W hW=>?_) ?_
       ·replace hW:=HD.out W hW
        obtain ⟨q0,q1,q2,q3,q4,q5,hmW,hcW⟩:=hW
        exact mZ97
       dsimp only [zB,zC]
       iterate 4 refine zX ?_
       refine zY ?_
       iterate 4 refine zX ?_
       refine zY ?_
       iterate 10 refine zX ?_
       iterate 2 refine zY ?_
       refine zN hO ?_
       iterate 3 refine zX ?_
       refine wpQuiet_nil (HQQ.out _ (fun W hW=>?_))
       obtain ⟨q0,q1,q2,q3,q4,q5,hmW,hcW⟩:=hW
       exact mZ13
      ·have HB:=Lib.hid (hbadO hcmp)
       have z3:decide (0≤z)=true:=tZ7
       clear h0 hpv hy p0 p1 p2 hbadO hgoodO
       have hS:=Lib.hid (fun (W':World) (hB:Below W0.heap.size W0 W')=>(⟨(hB.cell (p:=⟨wr.heap.size,0,none⟩) hlt0).trans k0,(hB.cell (p:=⟨wr.heap.size,1,none⟩) hlt0).trans k1,(hB.cell (p:=⟨wr.heap.size,2,none⟩) hlt0).trans k2,(hB.cell (p:=ad.add ((k-1)*3)) hltp).trans kp0,(hB.cell (p:=⟨(ad.add ((k-1)*3)).block,(ad.add ((k-1)*3)).off+1,none⟩) hltp).trans kp1,(hB.cell (p:=⟨(ad.add ((k-1)*3)).block,(ad.add ((k-1)*3)).off+2,none⟩) hltp).trans kp2,hmW0.below hB,hB⟩:W'.cell? ⟨wr.heap.size,0,none⟩=some (.string ⟨xu.toArray⟩)∧W'.cell? ⟨wr.heap.size,1,none⟩=some (.string ⟨xp.toArray⟩)∧W'.cell? ⟨wr.heap.size,2,none⟩=some (.int .i64 xz)∧W'.cell? (ad.add ((k-1)*3))=some (.string ⟨yu.toArray⟩)∧W'.cell? ⟨(ad.add ((k-1)*3)).block,(ad.add ((k-1)*3)).off+1,none⟩=some (.string ⟨yp.toArray⟩)∧W'.cell? ⟨(ad.add ((k-1)*3)).block,(ad.add ((k-1)*3)).off+2,none⟩=some (.int .i64 yz)∧HasMax W'∧Below W0.heap.size W0 W'))
       clear hr hrw hbad hgood
       go_wp2_with fail
       rw [← hW0]
       clear hW0 hszW
       refine wpC_regionH (fun W'=>W'.cell? ⟨wr.heap.size,0,none⟩=some (.string ⟨xu.toArray⟩)∧W'.cell? ⟨wr.heap.size,1,none⟩=some (.string ⟨xp.toArray⟩)∧W'.cell? ⟨wr.heap.size,2,none⟩=some (.int .i64 xz)∧W'.cell? (ad.add ((k-1)*3))=some (.string ⟨yu.toArray⟩)∧W'.cell? ⟨(ad.add ((k-1)*3)).block,(ad.add ((k-1)*3)).off+1,none⟩=some (.string ⟨yp.toArray⟩)∧W'.cell? ⟨(ad.add ((k-1)*3)).block,(ad.add ((k-1)*3)).off+2,none⟩=some (.int .i64 yz)∧HasMax W'∧Below W0.heap.size W0 W') (hS.out _ hS0) (fun OPS D QQ HO HD HD2 HQQ=>?_)
       have hgo4:=hgoL HO 4 19 rfl
       have hgo10:=hgoL HO 10 25 rfl
       have hgo15:=hgoL HO 15 30 rfl
       have hgo20:=hgoL HO 20 35 rfl
       have hgo23:=hgoL HO 23 38 rfl
       clear HO
       refine zX ?_
       refine zY ?_
       refine zN hN ?_
       iterate 3 refine zX ?_
       refine zY ?_
       refine wpC_greadS (v:=.bool true) rfl rfl hgo4.out rfl (fun W hW=>?_) ?_
       ·replace hW:=HD.out W hW
        obtain ⟨q0,q1,q2,q3,q4,q5,hmW,hcW⟩:=hW
        exact mZ97
       dsimp only [zB,zC]
       iterate 4 refine zX ?_
       refine zY ?_
       iterate 4 refine zX ?_
       refine zY ?_
       iterate 10 refine zX ?_
       iterate 2 refine zY ?_
       refine zN hO ?_
       iterate 3 refine zX ?_
       refine wpQuiet_nil (HQQ.out _ (fun W hW=>?_))
       obtain ⟨q0,q1,q2,q3,q4,q5,hmW,hcW⟩:=hW
       exact mZ12
  ·obtain rfl:k=n:=tZ1
   have HF:Hid (grantsE l=0):=by
    exact mZ11
   clear hok hr
   exact mZ2
end Go.Proofs.YtiojfffgiejibaaGreatDoor
namespace Go.Proofs.YtiojfffgiejibaaGreatDoor
open Go.RowKit
theorem rsameT_any (l:List BlkT) (n:Nat) (hn:n=l.length) (A A':Option Addr) (c c':Nat) (w:World) (B:Nat) (hr:Reads w B 2 A n (bcells l)) (hr':Reads w B 2 A' n (bcells l)) (hm:n≤1000000000000) :
  Calls Tryz.prog 118 #[.slice A n c,.slice A' n c'] w fun e w'=>e=.returned (.bool true)∧Below w.heap.size w w':=by
 refine (bksame_any l l n n hn hn A A' c c' w B B hr hr' tZ1).mono ?_
 exact mZ102
theorem samePropsT_any (l:List (BS×BS)) (n:Nat) (hn:n=l.length) (A A':Option Addr) (c c':Nat) (w:World) (B:Nat) (hr:Reads w B 2 A n (pcells l)) (hr':Reads w B 2 A' n (pcells l)) (hm:n≤1000000000000) :
  Calls Tryz.prog 119 #[.slice A n c,.slice A' n c'] w fun e w'=>e=.returned (.bool true)∧Below w.heap.size w w':=by
 refine (sameProps_any l l n n hn hn A A' c c' w B B hr hr' tZ1 tZ1).mono ?_
 exact mZ102
set_option maxRecDepth 100000 in
set_option maxHeartbeats 4000000 in
theorem sameSnapT_any (nm:BS) (gd:Int) (bl:List BlkT) (tl:List BS) (ol:List (BS×BS)) (b1 b1':Option Addr) (bn b3 b3':Nat) (t1 t1':Option Addr) (tn t3 t3':Nat) (o1 o1':Option Addr) (on o3 o3':Nat) (w:World) (B:Nat) (hB:B≤w.heap.size)
  (hbn:bn=bl.length) (htn:tn=tl.length) (hon:on=ol.length) (hb:Reads w B 2 b1 bn (bcells bl)) (hb':Reads w B 2 b1' bn (bcells bl)) (ht:Reads w B 1 t1 tn (scells tl)) (ht':Reads w B 1 t1' tn (scells tl)) (ho:Reads w B 2 o1 on (pcells ol)) (ho':Reads w B 2 o1' on (pcells ol))
  (hbm:bn≤1000000000000) (htm:tn≤1000000000000) (hom:on≤1000000000000) :
  Calls Tryz.prog 120 #[.agg #[.string ⟨nm.toArray⟩,.int .i64 gd,.slice b1 bn b3,.slice t1 tn t3,.slice o1 on o3],.agg #[.string ⟨nm.toArray⟩,.int .i64 gd,.slice b1' bn b3',.slice t1' tn t3',.slice o1' on o3']] w fun e w'=>e=.returned (.bool true)∧Below w.heap.size w w':=by
 have hb1:=(Below.refl w.heap.size w).alloc (Nat.le_refl _) (.cells #[.string ⟨nm.toArray⟩,.int .i64 gd,.slice b1 bn b3,.slice t1 tn t3,.slice o1 on o3] 58)
 have hb2:=hb1.alloc hb1.size (.cells #[.string ⟨nm.toArray⟩,.int .i64 gd,.slice b1' bn b3',.slice t1' tn t3',.slice o1' on o3'] 58)
 have k1:=(Blk.new w 58 #[.string ⟨nm.toArray⟩,.int .i64 gd,.slice b1 bn b3,.slice t1 tn t3,.slice o1 on o3]).alloc (.cells #[.string ⟨nm.toArray⟩,.int .i64 gd,.slice b1' bn b3',.slice t1' tn t3',.slice o1' on o3'] 58)
 have k2:=Blk.new (w.alloc (.cells #[.string ⟨nm.toArray⟩,.int .i64 gd,.slice b1 bn b3,.slice t1 tn t3,.slice o1 on o3] 58)) 58 #[.string ⟨nm.toArray⟩,.int .i64 gd,.slice b1' bn b3',.slice t1' tn t3',.slice o1' on o3']
 rw [show (w.alloc (.cells #[.string ⟨nm.toArray⟩,.int .i64 gd,.slice b1 bn b3,.slice t1 tn t3,.slice o1 on o3] 58)).heap.size=w.heap.size+1 by simp] at k2
 obtain ⟨W2,hW2⟩:∃ W,W=(w.alloc (.cells #[.string ⟨nm.toArray⟩,.int .i64 gd,.slice b1 bn b3,.slice t1 tn t3,.slice o1 on o3] 58)).alloc (.cells #[.string ⟨nm.toArray⟩,.int .i64 gd,.slice b1' bn b3',.slice t1' tn t3',.slice o1' on o3'] 58):=⟨_,rfl⟩
 have hsz:W2.heap.size=w.heap.size+2:=tZ40
 rw [← hW2] at hb2 k1 k2
 have hS:=Lib.hid (fun (W':World) (hB':Below W2.heap.size W2 W')=>(⟨(k1.below hB' tZ1).cell 0,(k1.below hB' tZ1).cell 1,(k1.below hB' tZ1).cell 2,(k1.below hB' tZ1).cell 3,(k1.below hB' tZ1).cell 4,(k2.below hB' tZ1).cell 0,(k2.below hB' tZ1).cell 1,(k2.below hB' tZ1).cell 2,(k2.below hB' tZ1).cell 3,(k2.below hB' tZ1).cell 4⟩:W'.cell? ⟨w.heap.size,0,none⟩=some (.string ⟨nm.toArray⟩)∧W'.cell? ⟨w.heap.size,1,none⟩=some (.int .i64 gd)∧W'.cell? ⟨w.heap.size,2,none⟩=some (.slice b1 bn b3)∧W'.cell? ⟨w.heap.size,3,none⟩=some (.slice t1 tn t3)∧W'.cell? ⟨w.heap.size,4,none⟩=some (.slice o1 on o3)∧W'.cell? ⟨w.heap.size+1,0,none⟩=some (.string ⟨nm.toArray⟩)∧W'.cell? ⟨w.heap.size+1,1,none⟩=some (.int .i64 gd)∧W'.cell? ⟨w.heap.size+1,2,none⟩=some (.slice b1' bn b3')∧W'.cell? ⟨w.heap.size+1,3,none⟩=some (.slice t1' tn t3')∧W'.cell? ⟨w.heap.size+1,4,none⟩=some (.slice o1' on o3')))
 have HSZ:=Lib.hid hsz
 have HB2:=Lib.hid hb2
 have hmv:∀ W',Below W2.heap.size W2 W'→Below B w W':=fun W' hB'=>(hb2.trans (hB'.mono tZ1)).mono hB
 have hBd:Hid (∀ W,Below W2.heap.size W2 W→Calls Tryz.prog 118 #[.slice b1 bn b3,.slice b1' bn b3'] W fun e W'=>e=.returned (.bool true)∧Below W.heap.size W W'):=fun W h=>rsameT_any bl bn hbn b1 b1' b3 b3' W B (hb.below (hmv W h)) (hb'.below (hmv W h)) hbm
 have hPr:Hid (∀ W,Below W2.heap.size W2 W→Calls Tryz.prog 119 #[.slice o1 on o3,.slice o1' on o3'] W fun e W'=>e=.returned (.bool true)∧Below W.heap.size W W'):=fun W h=>samePropsT_any ol on hon o1 o1' o3 o3' W B (ho.below (hmv W h)) (ho'.below (hmv W h)) hom
 have hTg:Hid (∀ W,Below W2.heap.size W2 W→Reads W B 1 t1 tn (scells tl)∧Reads W B 1 t1' tn (scells tl)):=fun W h=>⟨ht.below (hmv W h),ht'.below (hmv W h)⟩
 have HTN:=Lib.hid htn
 clear hb1 hb2 k1 k2 hsz hmv hb hb' ht ht' ho ho' hbn htn hon
 have hW0:=Below.refl W2.heap.size W2
 go_enter Tryz.func120,Tryz.ntmps120
 go_wp2_with fail
 rw [← hW2]
 clear hW2
 refine (hBd.out _ hW0).mono ?_
 rintro e w3 ⟨rfl,hb3⟩
 have hW3:=hW0.trans (hb3.mono hW0.size)
 clear hb3 hBd
 obtain ⟨p0,p1,p2,p3,p4,q0,q1,q2,q3,q4⟩:=hS.out _ hW3
 go_wp2_with fail
 refine (hPr.out _ hW3).mono ?_
 rintro e w4 ⟨rfl,hb4⟩
 have hW4:=hW3.trans (hb4.mono hW3.size)
 clear hb4 hPr p0 p1 p2 p3 p4 q0 q1 q2 q3 q4
 obtain ⟨p0,p1,p2,p3,p4,q0,q1,q2,q3,q4⟩:=hS.out _ hW4
 go_wp2_with fail
 clear p0 p1 p2 p3 p4 q0 q1 q2 q3 q4
 go_loopw [5] (fun j wr=>∃ k:Nat,k≤tn∧j=.int .i64 (k:Int)∧Below W2.heap.size W2 wr) (fun j _=>tn-(intOf j).toNat)
 case atStart=>exact ⟨0,Nat.zero_le _,rfl,hW4⟩
 case round =>
  clear hW4 hW3 hW0
  obtain ⟨k,hk,rfl,hWr⟩:=hrel
  obtain ⟨p0,p1,p2,p3,p4,q0,q1,q2,q3,q4⟩:=hS.out _ hWr
  by_cases hlt:k<tn
  ·have hki:(k:Int)<(tn:Int):=tZ1
   obtain ⟨r1,r2⟩:=hTg.out _ hWr
   obtain ⟨ad,rfl,-,c0⟩:=strs_at r1 HTN.out hlt
   obtain ⟨ad2,rfl,-,d0⟩:=strs_at r2 HTN.out hlt
   obtain ⟨x,hx⟩:∃ x,x=tl[k]'tZ78:=⟨_,rfl⟩
   rw [← hx] at c0 d0
   simp only [strV] at c0 d0
   clear hx r1 r2 hTg
   go_wp2_with fail
   go_big_quiet (fail)
   go_wp2_with fail
   go_roundw
   case rel=>exact ⟨k+1,by omega,by go_num,below_drewN hWr _⟩
   case measure=>simp [intOf];omega
  ·clear hTg
   exact mZ103
/-- snapshots of one content -/
structure SnapR.eqv (x y:SnapR):Prop where
 nm:x.nm=y.nm
 gd:x.gd=y.gd
 body:x.body.l=y.body.l
 tags:x.tags.l=y.tags.l
 own:x.own.l=y.own.l
theorem sameSnapR_any (x y:SnapR) (h:x.eqv y) (w:World) (B:Nat) (hB:B≤w.heap.size) (hx:x.rd w B) (hy:y.rd w B) (hz:x.sz) :
  Calls Tryz.prog 120 #[.agg #[.string ⟨x.nm.toArray⟩,.int .i64 x.gd,.slice x.body.A x.body.n x.body.c,.slice x.tags.A x.tags.n x.tags.c,.slice x.own.A x.own.n x.own.c],.agg #[.string ⟨y.nm.toArray⟩,.int .i64 y.gd,.slice y.body.A y.body.n y.body.c,.slice y.tags.A y.tags.n y.tags.c,.slice y.own.A y.own.n y.own.c]] w fun e w'=>e=.returned (.bool true)∧Below w.heap.size w w':=by
 obtain ⟨h1,h2,h3,h4,h5⟩:=h
 obtain ⟨nm,gd,⟨b1,bn,b3,bl⟩,⟨t1,tn,t3,tl⟩,⟨o1,on,o3,ol⟩⟩:=x
 obtain ⟨nm',gd',⟨b1',bn',b3',bl'⟩,⟨t1',tn',t3',tl'⟩,⟨o1',on',o3',ol'⟩⟩:=y
 simp only at h1 h2 h3 h4 h5
 subst h1 h2 h3 h4 h5
 have e1:bn'=bn:=hy.body.1.trans hx.body.1.symm
 have e2:tn'=tn:=hy.tags.1.trans hx.tags.1.symm
 have e3:on'=on:=hy.own.1.trans hx.own.1.symm
 subst e1 e2 e3
 exact sameSnapT_any nm gd bl tl ol b1 b1' bn' b3 b3' t1 t1' tn' t3 t3' o1 o1' on' o3 o3' w B hB hx.body.1 hx.tags.1 hx.own.1 hx.body.2.2 hy.body.2.2 (by rw [← scells_enc];exact hx.tags.2.2) (by rw [← scells_enc];exact hy.tags.2.2) hx.own.2.2 hy.own.2.2 hz.body hz.tags hz.own
set_option maxRecDepth 100000 in
set_option maxHeartbeats 4000000 in
theorem sameSetT_any (pa og:BS) (bl:List BlkT) (sl sl':List SnapR) (ol:List (BS×BS)) (b1 b1':Option Addr) (bn b3 b3':Nat) (s1 s1':Option Addr) (sn s3 s3':Nat) (o1 o1':Option Addr) (on o3 o3':Nat) (w:World) (B:Nat) (hB:B≤w.heap.size)
  (hbn:bn=bl.length) (hsn:sn=sl.length) (hsn':sn=sl'.length) (hon:on=ol.length) (hb:Reads w B 2 b1 bn (bcells bl)) (hb':Reads w B 2 b1' bn (bcells bl)) (ht:Reads w B 5 s1 sn (cellsK encSnap sl)) (ht':Reads w B 5 s1' sn (cellsK encSnap sl')) (ho:Reads w B 2 o1 on (pcells ol)) (ho':Reads w B 2 o1' on (pcells ol))
  (he:∀ y∈sl,y.rd w B) (he':∀ y∈sl',y.rd w B) (heq:∀ i (h:i<sl.length) (h':i<sl'.length),(sl[i]'h).eqv (sl'[i]'h')) (hz:∀ y∈sl,y.sz) (hbm:bn≤1000000000000) (htm:sn≤1000000000000) (hom:on≤1000000000000) :
  Calls Tryz.prog 63 #[.agg #[.string ⟨pa.toArray⟩,.string ⟨og.toArray⟩,.slice b1 bn b3,.slice s1 sn s3,.slice o1 on o3],.agg #[.string ⟨pa.toArray⟩,.string ⟨og.toArray⟩,.slice b1' bn b3',.slice s1' sn s3',.slice o1' on o3']] w fun e w'=>e=.returned (.bool true)∧Below w.heap.size w w':=by
 have hb1:=(Below.refl w.heap.size w).alloc (Nat.le_refl _) (.cells #[.string ⟨pa.toArray⟩,.string ⟨og.toArray⟩,.slice b1 bn b3,.slice s1 sn s3,.slice o1 on o3] 56)
 have hb2:=hb1.alloc hb1.size (.cells #[.string ⟨pa.toArray⟩,.string ⟨og.toArray⟩,.slice b1' bn b3',.slice s1' sn s3',.slice o1' on o3'] 56)
 have k1:=(Blk.new w 56 #[.string ⟨pa.toArray⟩,.string ⟨og.toArray⟩,.slice b1 bn b3,.slice s1 sn s3,.slice o1 on o3]).alloc (.cells #[.string ⟨pa.toArray⟩,.string ⟨og.toArray⟩,.slice b1' bn b3',.slice s1' sn s3',.slice o1' on o3'] 56)
 have k2:=Blk.new (w.alloc (.cells #[.string ⟨pa.toArray⟩,.string ⟨og.toArray⟩,.slice b1 bn b3,.slice s1 sn s3,.slice o1 on o3] 56)) 56 #[.string ⟨pa.toArray⟩,.string ⟨og.toArray⟩,.slice b1' bn b3',.slice s1' sn s3',.slice o1' on o3']
 rw [show (w.alloc (.cells #[.string ⟨pa.toArray⟩,.string ⟨og.toArray⟩,.slice b1 bn b3,.slice s1 sn s3,.slice o1 on o3] 56)).heap.size=w.heap.size+1 by simp] at k2
 obtain ⟨W2,hW2⟩:∃ W,W=(w.alloc (.cells #[.string ⟨pa.toArray⟩,.string ⟨og.toArray⟩,.slice b1 bn b3,.slice s1 sn s3,.slice o1 on o3] 56)).alloc (.cells #[.string ⟨pa.toArray⟩,.string ⟨og.toArray⟩,.slice b1' bn b3',.slice s1' sn s3',.slice o1' on o3'] 56):=⟨_,rfl⟩
 have hsz:W2.heap.size=w.heap.size+2:=tZ40
 rw [← hW2] at hb2 k1 k2
 have hS:=Lib.hid (fun (W':World) (hB':Below W2.heap.size W2 W')=>(⟨(k1.below hB' tZ1).cell 0,(k1.below hB' tZ1).cell 1,(k1.below hB' tZ1).cell 2,(k1.below hB' tZ1).cell 3,(k1.below hB' tZ1).cell 4,(k2.below hB' tZ1).cell 0,(k2.below hB' tZ1).cell 1,(k2.below hB' tZ1).cell 2,(k2.below hB' tZ1).cell 3,(k2.below hB' tZ1).cell 4⟩:W'.cell? ⟨w.heap.size,0,none⟩=some (.string ⟨pa.toArray⟩)∧W'.cell? ⟨w.heap.size,1,none⟩=some (.string ⟨og.toArray⟩)∧W'.cell? ⟨w.heap.size,2,none⟩=some (.slice b1 bn b3)∧W'.cell? ⟨w.heap.size,3,none⟩=some (.slice s1 sn s3)∧W'.cell? ⟨w.heap.size,4,none⟩=some (.slice o1 on o3)∧W'.cell? ⟨w.heap.size+1,0,none⟩=some (.string ⟨pa.toArray⟩)∧W'.cell? ⟨w.heap.size+1,1,none⟩=some (.string ⟨og.toArray⟩)∧W'.cell? ⟨w.heap.size+1,2,none⟩=some (.slice b1' bn b3')∧W'.cell? ⟨w.heap.size+1,3,none⟩=some (.slice s1' sn s3')∧W'.cell? ⟨w.heap.size+1,4,none⟩=some (.slice o1' on o3')))
 have HSZ:=Lib.hid hsz
 have HB2:=Lib.hid hb2
 have hmv:∀ W',Below W2.heap.size W2 W'→Below B w W':=fun W' hB'=>(hb2.trans (hB'.mono tZ1)).mono hB
 have hBd:Hid (∀ W,Below W2.heap.size W2 W→Calls Tryz.prog 118 #[.slice b1 bn b3,.slice b1' bn b3'] W fun e W'=>e=.returned (.bool true)∧Below W.heap.size W W'):=fun W h=>rsameT_any bl bn hbn b1 b1' b3 b3' W B (hb.below (hmv W h)) (hb'.below (hmv W h)) hbm
 have hPr:Hid (∀ W,Below W2.heap.size W2 W→Calls Tryz.prog 119 #[.slice o1 on o3,.slice o1' on o3'] W fun e W'=>e=.returned (.bool true)∧Below W.heap.size W W'):=fun W h=>samePropsT_any ol on hon o1 o1' o3 o3' W B (ho.below (hmv W h)) (ho'.below (hmv W h)) hom
 have hTg:Hid (∀ W,Below W2.heap.size W2 W→Reads W B 5 s1 sn (cellsK encSnap sl)∧Reads W B 5 s1' sn (cellsK encSnap sl')∧B≤W.heap.size∧(∀ y∈sl,y.rd W B)∧∀ y∈sl',y.rd W B):=fun W h=>⟨ht.below (hmv W h),ht'.below (hmv W h),by have:=h.size;omega,fun y hy=>⟨(he y hy).body.below (hmv W h),(he y hy).tags.below (hmv W h),(he y hy).own.below (hmv W h)⟩,fun y hy=>⟨(he' y hy).body.below (hmv W h),(he' y hy).tags.below (hmv W h),(he' y hy).own.below (hmv W h)⟩⟩
 have HSN:=Lib.hid hsn
 have HSN':=Lib.hid hsn'
 have HEQ:=Lib.hid heq
 have HZ:=Lib.hid hz
 clear hb1 hb2 k1 k2 hsz hmv hb hb' ht ht' ho ho' hbn hsn hsn' hon he he' heq hz
 have hW0:=Below.refl W2.heap.size W2
 go_enter Tryz.func63,Tryz.ntmps63
 go_wp2_with fail
 rw [← hW2]
 clear hW2
 refine (hBd.out _ hW0).mono ?_
 rintro e w3 ⟨rfl,hb3⟩
 have hW3:=hW0.trans (hb3.mono hW0.size)
 clear hb3 hBd
 obtain ⟨p0,p1,p2,p3,p4,q0,q1,q2,q3,q4⟩:=hS.out _ hW3
 go_wp2_with fail
 refine (hPr.out _ hW3).mono ?_
 rintro e w4 ⟨rfl,hb4⟩
 have hW4:=hW3.trans (hb4.mono hW3.size)
 clear hb4 hPr p0 p1 p2 p3 p4 q0 q1 q2 q3 q4
 obtain ⟨p0,p1,p2,p3,p4,q0,q1,q2,q3,q4⟩:=hS.out _ hW4
 go_wp2_with fail
 clear p0 p1 p2 p3 p4 q0 q1 q2 q3 q4
 go_loopw [5] (fun j wr=>∃ k:Nat,k≤sn∧j=.int .i64 (k:Int)∧Below W2.heap.size W2 wr) (fun j _=>sn-(intOf j).toNat)
 case atStart=>exact ⟨0,Nat.zero_le _,rfl,hW4⟩
 case round =>
  clear hW4 hW3 hW0
  obtain ⟨k,hk,rfl,hWr⟩:=hrel
  obtain ⟨p0,p1,p2,p3,p4,q0,q1,q2,q3,q4⟩:=hS.out _ hWr
  by_cases hlt:k<sn
  ·have hki:(k:Int)<(sn:Int):=tZ1
   obtain ⟨r1,r2,-⟩:=hTg.out _ hWr
   obtain ⟨ad,rfl,-⟩:=snap_at r1 HSN.out hlt
   obtain ⟨ad2,rfl,-⟩:=snap_at r2 HSN'.out hlt
   have hkl:k<sl.length:=tZ79
   have hkl':k<sl'.length:=by have:=HSN'.out;omega
   have hev:=HEQ.out k hkl hkl'
   have hxm:sl[k]'hkl∈sl:=List.getElem_mem _
   have hym:sl'[k]'hkl'∈sl':=List.getElem_mem _
   have hX:Hid (∀ W,Below W2.heap.size W2 W→(W.cell? (ad.add (k*5))=some (.string ⟨(sl[k]'hkl).nm.toArray⟩)∧W.cell? ⟨(ad.add (k*5)).block,(ad.add (k*5)).off+1,none⟩=some (.int .i64 (sl[k]'hkl).gd)∧W.cell? ⟨(ad.add (k*5)).block,(ad.add (k*5)).off+2,none⟩=some (.slice (sl[k]'hkl).body.A (sl[k]'hkl).body.n (sl[k]'hkl).body.c)∧W.cell? ⟨(ad.add (k*5)).block,(ad.add (k*5)).off+3,none⟩=some (.slice (sl[k]'hkl).tags.A (sl[k]'hkl).tags.n (sl[k]'hkl).tags.c)∧W.cell? ⟨(ad.add (k*5)).block,(ad.add (k*5)).off+4,none⟩=some (.slice (sl[k]'hkl).own.A (sl[k]'hkl).own.n (sl[k]'hkl).own.c))∧(W.cell? (ad2.add (k*5))=some (.string ⟨(sl'[k]'hkl').nm.toArray⟩)∧W.cell? ⟨(ad2.add (k*5)).block,(ad2.add (k*5)).off+1,none⟩=some (.int .i64 (sl'[k]'hkl').gd)∧W.cell? ⟨(ad2.add (k*5)).block,(ad2.add (k*5)).off+2,none⟩=some (.slice (sl'[k]'hkl').body.A (sl'[k]'hkl').body.n (sl'[k]'hkl').body.c)∧W.cell? ⟨(ad2.add (k*5)).block,(ad2.add (k*5)).off+3,none⟩=some (.slice (sl'[k]'hkl').tags.A (sl'[k]'hkl').tags.n (sl'[k]'hkl').tags.c)∧W.cell? ⟨(ad2.add (k*5)).block,(ad2.add (k*5)).off+4,none⟩=some (.slice (sl'[k]'hkl').own.A (sl'[k]'hkl').own.n (sl'[k]'hkl').own.c))):=by
    show ∀ W,_→_
    intro W hb
    obtain ⟨u1,u2,-⟩:=hTg.out _ hb
    obtain ⟨ad3,e3,-,c⟩:=snap_at u1 HSN.out hlt
    obtain ⟨ad4,e4,-,d⟩:=snap_at u2 HSN'.out hlt
    injection e3 with e3
    injection e4 with e4
    subst e3 e4
    exact ⟨c,d⟩
   have hSS:Hid (∀ W,Below W2.heap.size W2 W→Calls Tryz.prog 120 #[.agg #[.string ⟨(sl[k]'hkl).nm.toArray⟩,.int .i64 (sl[k]'hkl).gd,.slice (sl[k]'hkl).body.A (sl[k]'hkl).body.n (sl[k]'hkl).body.c,.slice (sl[k]'hkl).tags.A (sl[k]'hkl).tags.n (sl[k]'hkl).tags.c,.slice (sl[k]'hkl).own.A (sl[k]'hkl).own.n (sl[k]'hkl).own.c],.agg #[.string ⟨(sl'[k]'hkl').nm.toArray⟩,.int .i64 (sl'[k]'hkl').gd,.slice (sl'[k]'hkl').body.A (sl'[k]'hkl').body.n (sl'[k]'hkl').body.c,.slice (sl'[k]'hkl').tags.A (sl'[k]'hkl').tags.n (sl'[k]'hkl').tags.c,.slice (sl'[k]'hkl').own.A (sl'[k]'hkl').own.n (sl'[k]'hkl').own.c]] W fun e W'=>e=.returned (.bool true)∧Below W.heap.size W W'):=fun W hb=>by
    obtain ⟨-,-,u3,u4,u5⟩:=hTg.out _ hb
    exact sameSnapR_any _ _ hev W B u3 (u4 _ hxm) (u5 _ hym) (HZ.out _ hxm)
   obtain ⟨x,hx⟩:∃ x,x=sl[k]'hkl:=⟨_,rfl⟩
   obtain ⟨y,hy⟩:∃ y,y=sl'[k]'hkl':=⟨_,rfl⟩
   rw [← hx,← hy] at hX hSS
   obtain ⟨nm,gd,⟨f1,f2,f3,fl⟩,⟨t1,t2,t3,tl⟩,⟨u1,u2,u3,ul⟩⟩:=x
   obtain ⟨nm',gd',⟨f1',f2',f3',fl'⟩,⟨t1',t2',t3',tl'⟩,⟨u1',u2',u3',ul'⟩⟩:=y
   simp only at hX hSS
   clear hx hy hev hxm hym r1 r2 hTg HEQ HZ
   go_wp2_with fail
   clear p0 p1 p2 p3 p4 q0 q1 q2 q3 q4
   refine wpC_regionH (fun W'=>Below W2.heap.size W2 W') (hWr.drew) (fun OPS D QQ HO HD HD2 HQQ=>?_)
   clear HO
   refine zX ?_
   refine wpC_readS (v:=?_) rfl rfl (fun W hW=>?_) ?_
   rotate_left
   ·replace hW:=HD.out W hW
    skip
    obtain ⟨-,-,-,p3,-⟩:=hS.out _ hW
    exact mZ66
   dsimp only [zB,zC]
   iterate 2 refine zX ?_
   refine zM hX.out ?_
   refine zX ?_
   refine wpC_readS (v:=?_) rfl rfl (fun W hW=>?_) ?_
   rotate_left
   ·replace hW:=HD.out W hW
    skip
    obtain ⟨-,-,-,-,-,-,-,-,q3,-⟩:=hS.out _ hW
    exact mZ66
   dsimp only [zB,zC]
   iterate 2 refine zX ?_
   refine zM hX.out ?_
   exact mZ104
  ·clear hTg
   exact mZ103
/-- sets of one content -/
structure SetR.eqv (x y:SetR):Prop where
 path:x.path=y.path
 org:x.org=y.org
 body:x.body.l=y.body.l
 len:x.snaps.l.length=y.snaps.l.length
 each:∀ i (h:i<x.snaps.l.length) (h':i<y.snaps.l.length),(x.snaps.l[i]'h).eqv (y.snaps.l[i]'h')
 own:x.own.l=y.own.l
theorem sameSetR_any (x y:SetR) (h:x.eqv y) (w:World) (B:Nat) (hB:B≤w.heap.size) (hx:x.rd w B) (hy:y.rd w B) (hz:x.sz) :
  Calls Tryz.prog 63 #[.agg #[.string ⟨x.path.toArray⟩,.string ⟨x.org.toArray⟩,.slice x.body.A x.body.n x.body.c,.slice x.snaps.A x.snaps.n x.snaps.c,.slice x.own.A x.own.n x.own.c],.agg #[.string ⟨y.path.toArray⟩,.string ⟨y.org.toArray⟩,.slice y.body.A y.body.n y.body.c,.slice y.snaps.A y.snaps.n y.snaps.c,.slice y.own.A y.own.n y.own.c]] w fun e w'=>e=.returned (.bool true)∧Below w.heap.size w w':=by
 obtain ⟨h1,h2,h3,h4,h5,h6⟩:=h
 obtain ⟨pa,og,⟨b1,bn,b3,bl⟩,⟨s1,sn,s3,sl⟩,⟨o1,on,o3,ol⟩⟩:=x
 obtain ⟨pa',og',⟨b1',bn',b3',bl'⟩,⟨s1',sn',s3',sl'⟩,⟨o1',on',o3',ol'⟩⟩:=y
 simp only at h1 h2 h3 h4 h5 h6
 subst h1 h2 h3 h6
 have e1:bn'=bn:=hy.body.1.trans hx.body.1.symm
 have e2:sn'=sn:=by rw [show sn'=sl'.length from hy.snaps.1,show sn=sl.length from hx.snaps.1,h4]
 have e3:on'=on:=hy.own.1.trans hx.own.1.symm
 subst e1 e2 e3
 exact sameSetT_any pa og bl sl sl' ol b1 b1' bn' b3 b3' s1 s1' sn' s3 s3' o1 o1' on' o3 o3' w B hB hx.body.1 hx.snaps.1 hy.snaps.1 hx.own.1 hx.body.2.2 hy.body.2.2 hx.snaps.2.2 hy.snaps.2.2 hx.own.2.2 hy.own.2.2 hx.each hy.each h5 hz.each hz.body hz.snaps hz.own
end Go.Proofs.YtiojfffgiejibaaGreatDoor
