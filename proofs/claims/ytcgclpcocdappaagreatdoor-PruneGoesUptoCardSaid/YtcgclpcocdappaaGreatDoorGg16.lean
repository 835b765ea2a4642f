/-
  perms.Check, by its contract.
-/
import Derived.WalkKit
import Derived.WalkSpells
import Derived.Below
import Derived.Laws.OwnMore
import Derived.Deep.AppendLies
import Derived.Deep.Draws
import Derived.Laws.Rows
import Derived.Maps.AppendAt
import Derived.RegionTactic
import Derived.OwnWalk
import Derived.Deep.QuietTactic
import Derived.BigQuiet
import Derived.Lib.Hide
import Derived.Laws.CopyOwn
import Derived.IntWalk
import Derived.Deep.Quiet
import Derived.Handy
import Derived.Test.YtcgclpcocdappaaGreatDoorRows
import Derived.Orders
import Derived.Lib.SplitLaws
import Derived.Lib.LastIndexByte
import Derived.Lib.Strings
import Derived.ShutString
import Derived.Sort.Walk0
import Derived.Sort.KeysCollected
import Derived.Shelf.Strings.Search1
import Derived.Shelf.Strings.Search2
import Derived.Shelf.Strings.Search3
import Derived.Shelf.Strings.Cut
import Derived.Shelf.Strings.Count
import Derived.Shelf.LaysM
import Derived.Shelf.Strings.Shaped
import Derived.Shelf.Strings.LastIndex
import Derived.Shelf.Strings.Split
import Derived.Shelf.Strings.SplitShaped
import Derived.Shelf.Unicode.Decode
import Derived.Shelf.Strings.RuneCount
import Derived.Shelf.Strings.Explode
import Derived.Shelf.Unicode.DecodeSlow
import Derived.Test.YtcgclpcocdappaaGreatDoorProg
import Derived.Laws.BytesString
import Derived.Laws.IdiomStrings
import Derived.Lib.ConvBytes
import Derived.Test.YtcgclpcocdappaaGreatDoorG0
import Derived.Test.YtcgclpcocdappaaGreatDoorGg1
import Derived.Test.YtcgclpcocdappaaGreatDoorGg3
import Derived.Test.YtcgclpcocdappaaGreatDoorGg4
import Derived.Test.YtcgclpcocdappaaGreatDoorGg5
import Derived.Test.YtcgclpcocdappaaGreatDoorGg7
import Derived.Test.YtcgclpcocdappaaGreatDoorGg9
import Derived.Test.YtcgclpcocdappaaGreatDoorGg13
namespace Go.Proofs.YtcgclpcocdappaaGreatDoor
open Go.RowKit
def gcells (l:GL):List Value:=cellsK (fun x:GT=>[.string ⟨x.1.toArray⟩,.string ⟨x.2.1.toArray⟩,.int .i64 x.2.2]) l
def prevG (l:GL) (k:Nat):Option GT:=match k with
 | 0=>none
 | j+1=>l[j]?
/-- no text of a grant is longer than this -/
def lenG (l:GL):Prop:=∀ x∈l,x.1.length≤4000000000∧x.2.1.length≤4000000000
set_option maxRecDepth 100000 in
set_option maxHeartbeats 4000000 in
theorem checkG_any (l:GL) (n:Nat) (hnl:n=l.length) (A:Option Addr) (c:Nat) (w:World) (B:Nat) (hr:Reads w B 3 A n (gcells l)) (hB:B≤w.heap.size) (hn:n≤5000000000000) (hv:lenG l) (hmx:HasMax w) :
  Calls Tryz.prog 126 #[.slice A n c] w fun e w'=>e=.returned (.int .i64 (grantsE l))∧Below w.heap.size w w':=by
 have HN:=Lib.hid hnl
 clear hnl
 go_enter Tryz.func126,Tryz.ntmps126
 by_cases hn16:16<n
 ·have hi:(16:Int)<(n:Int):=by omega
  have HE:Hid (grantsE l=9):=by
   show _=_
   unfold grantsE grantsB
   rw [if_neg]
   rw [Bool.and_eq_true,decide_eq_true_eq]
   have:=HN.out
   omega
  clear hr hv
  go_wp2_with fail
  go_ret
  exact ⟨by rw [HE.out];rfl,Below.refl _ _⟩
 have hi:¬ (16:Int)<(n:Int):=by omega
 have hPE:Hid (∀ b,grantsFrom none l=b→grantsE l=if b=true then 0 else 9):=by
  show ∀ b,_→_
  rintro b rfl
  unfold grantsE grantsB
  rw [decide_eq_true (show l.length≤16 by have:=HN.out;omega),Bool.true_and]
 go_wp2_with fail
 go_loopw [10] (fun j wr=>∃ k:Nat,k≤n∧j=.int .i64 (k:Int)∧Hid (grantsFrom none l=grantsFrom (prevG l k) (l.drop k))∧Below w.heap.size w wr) (fun j _=>n-(intOf j).toNat)
 case atStart=>exact ⟨0,Nat.zero_le _,rfl,rfl,Below.refl _ _⟩
 case round =>
  obtain ⟨k,hk,rfl,hok,hbw⟩:=hrel
  by_cases hlt:k<n
  ·have hrw:=hr.below (hbw.mono hB)
   obtain ⟨ad,rfl,hadB,c0,c1,c2⟩:=hrw.el3 HN.out hlt
   have hki:(k:Int)<(n:Int):=by omega
   have hkl:k<l.length:=by have:=HN.out;omega
   obtain ⟨x,hx⟩:∃ x,x=l[k]'hkl:=⟨_,rfl⟩
   have hxl:=hv x (by rw [hx];exact List.getElem_mem _)
   rw [← hx] at c0 c1 c2
   have hdr:=List.drop_eq_getElem_cons hkl
   rw [← hx] at hdr
   have HX:=Lib.hid hx
   have HDR:=Lib.hid hdr
   obtain ⟨xu,xp,xz⟩:=x
   simp only at c0 c1 c2 hxl
   obtain ⟨W0,hW0⟩:∃ W0,W0=wr.alloc (.cells #[.string ⟨xu.toArray⟩,.string ⟨xp.toArray⟩,.int .i64 xz] 147):=⟨_,rfl⟩
   have k0:W0.cell? ⟨wr.heap.size,0,none⟩=some (.string ⟨xu.toArray⟩):=by rw [hW0];exact (Blk.new wr _ _).cell 0
   have k1:W0.cell? ⟨wr.heap.size,1,none⟩=some (.string ⟨xp.toArray⟩):=by rw [hW0];exact (Blk.new wr _ _).cell 1
   have k2:W0.cell? ⟨wr.heap.size,2,none⟩=some (.int .i64 xz):=by rw [hW0];exact (Blk.new wr _ _).cell 2
   have hszW:W0.heap.size=wr.heap.size+1:=by rw [hW0];show (wr.heap.push _).size=_;rw [Array.size_push]
   have hlt0:wr.heap.size<W0.heap.size:=by omega
   have HSZ:=Lib.hid hszW
   have hwr:=hbw.size
   have hbW:Below w.heap.size w W0:=by rw [hW0];exact hbw.alloc hbw.size _
   have hmW0:HasMax W0:=hmx.below hbW
   have hS0:=(Below.refl W0.heap.size W0).drew
   have hbad:Hid ((nameB xu=false∨pathB xp=false∨xz<1∨255<xz∨(∃ y,prevG l k=some y∧¬ cmpG y.1 y.2.1 xu xp<0))→grantsE l=9):=by
    show _→_
    intro h
    rw [hPE.out false]
    ·rfl
    rw [hok.out,HDR.out,grantsFrom_cons]
    unfold grantB
    rcases h with h | h | h | h | ⟨y,hy,h⟩
    ·simp only [h];rfl
    ·simp only [h];simp
    ·simp only [decide_eq_false (show ¬ 1≤xz by omega)];simp
    ·simp only [decide_eq_false (show ¬ xz≤255 by omega)];simp
    ·rw [hy];simp only [decide_eq_false h];simp
   have hgood:Hid (nameB xu=true→pathB xp=true→1≤xz→xz≤255→(∀ y,prevG l k=some y→cmpG y.1 y.2.1 xu xp<0)→grantsFrom none l=grantsFrom (prevG l (k+1)) (l.drop (k+1))):=by
    show _→_→_→_→_→_
    intro h1 h2 h4 h5 h3
    rw [hok.out,HDR.out]
    have hp:prevG l (k+1)=some (xu,xp,xz):=by
     show l[k]?=_
     rw [List.getElem?_eq_getElem hkl,← HX.out]
    rw [hp,grantsFrom_cons]
    unfold grantB
    simp only [h1,h2,decide_eq_true h4,decide_eq_true h5]
    cases hq:prevG l k with
    | none=>rfl
    | some y=>simp only [decide_eq_true (h3 y hq)];rfl
   have hN:∀ W,Calls Tryz.prog 83 #[.string ⟨xu.toArray⟩] W fun e W'=>e=.returned (.bool (nameB xu))∧Below W.heap.size W W':=fun W=>name_any ⟨xu.toArray⟩ W
   have hV:∀ W,HasMax W→Calls Tryz.prog 80 #[.string ⟨xp.toArray⟩] W fun e W'=>e=.returned (.bool (pathB xp))∧Below W.heap.size W W':=fun W hm=>path_any ⟨xp.toArray⟩ W (by show xp.length≤_;exact hxl.2) hm
   clear hx hdr hok hxl
   obtain ⟨bn,hbn0⟩:∃ b,b=nameB xu:=⟨_,rfl⟩
   obtain ⟨bp,hbp0⟩:∃ b,b=pathB xp:=⟨_,rfl⟩
   rw [← hbn0] at hbad hgood hN
   rw [← hbp0] at hbad hgood hV
   clear hbn0 hbp0
   cases bn with
   | false =>
    have HB:=Lib.hid (hbad.out (.inl rfl))
    have hS:=Lib.hid (fun (W':World) (hB:Below W0.heap.size W0 W')=>(⟨(hB.cell (p:=⟨wr.heap.size,0,none⟩) hlt0).trans k0,(hB.cell (p:=⟨wr.heap.size,1,none⟩) hlt0).trans k1,(hB.cell (p:=⟨wr.heap.size,2,none⟩) hlt0).trans k2,hmW0.below hB,hB⟩:W'.cell? ⟨wr.heap.size,0,none⟩=some (.string ⟨xu.toArray⟩)∧W'.cell? ⟨wr.heap.size,1,none⟩=some (.string ⟨xp.toArray⟩)∧W'.cell? ⟨wr.heap.size,2,none⟩=some (.int .i64 xz)∧HasMax W'∧Below W0.heap.size W0 W'))
    clear hr hrw hbad hgood hV
    go_wp2_with fail
    rw [← hW0]
    clear hW0 hszW
    refine wpC_regionH (fun W'=>W'.cell? ⟨wr.heap.size,0,none⟩=some (.string ⟨xu.toArray⟩)∧W'.cell? ⟨wr.heap.size,1,none⟩=some (.string ⟨xp.toArray⟩)∧W'.cell? ⟨wr.heap.size,2,none⟩=some (.int .i64 xz)∧HasMax W'∧Below W0.heap.size W0 W') (hS.out _ hS0) (fun OPS D QQ HO HD HD2 HQQ=>?_)
    have hgo4:=hgoL HO 4 19 rfl
    have hgo10:=hgoL HO 10 25 rfl
    have hgo15:=hgoL HO 15 30 rfl
    have hgo20:=hgoL HO 20 35 rfl
    have hgo23:=hgoL HO 23 38 rfl
    clear HO
    refine zX ?_
    refine zY ?_
    refine zN hN ?_
    iterate 31 refine zX ?_
    refine wpQuiet_nil (HQQ.out _ (fun W hW=>?_))
    obtain ⟨q0,q1,q2,hmW,hcW⟩:=hW
    go_wp2_with fail
    go_ret
    exact ⟨by rw [HB.out];rfl,hbW.trans (hcW.mono (by have:=HSZ.out;omega))⟩
   | true =>
    cases bp with
    | false =>
     have HB:=Lib.hid (hbad.out (.inr (.inl rfl)))
     have hS:=Lib.hid (fun (W':World) (hB:Below W0.heap.size W0 W')=>(⟨(hB.cell (p:=⟨wr.heap.size,0,none⟩) hlt0).trans k0,(hB.cell (p:=⟨wr.heap.size,1,none⟩) hlt0).trans k1,(hB.cell (p:=⟨wr.heap.size,2,none⟩) hlt0).trans k2,hmW0.below hB,hB⟩:W'.cell? ⟨wr.heap.size,0,none⟩=some (.string ⟨xu.toArray⟩)∧W'.cell? ⟨wr.heap.size,1,none⟩=some (.string ⟨xp.toArray⟩)∧W'.cell? ⟨wr.heap.size,2,none⟩=some (.int .i64 xz)∧HasMax W'∧Below W0.heap.size W0 W'))
     clear hr hrw hbad hgood
     go_wp2_with fail
     rw [← hW0]
     clear hW0 hszW
     refine wpC_regionH (fun W'=>W'.cell? ⟨wr.heap.size,0,none⟩=some (.string ⟨xu.toArray⟩)∧W'.cell? ⟨wr.heap.size,1,none⟩=some (.string ⟨xp.toArray⟩)∧W'.cell? ⟨wr.heap.size,2,none⟩=some (.int .i64 xz)∧HasMax W'∧Below W0.heap.size W0 W') (hS.out _ hS0) (fun OPS D QQ HO HD HD2 HQQ=>?_)
     have hgo4:=hgoL HO 4 19 rfl
     have hgo10:=hgoL HO 10 25 rfl
     have hgo15:=hgoL HO 15 30 rfl
     have hgo20:=hgoL HO 20 35 rfl
     have hgo23:=hgoL HO 23 38 rfl
     clear HO
     refine zX ?_
     refine zY ?_
     refine zN hN ?_
     iterate 3 refine zX ?_
     refine zY ?_
     refine wpC_greadS (v:=.bool false) rfl rfl hgo4.out rfl (fun W hW=>?_) ?_
     ·replace hW:=HD.out W hW
      obtain ⟨q0,q1,q2,hmW,hcW⟩:=hW
      go_simp
      refine (hV _ hmW).mono ?_
      rintro e w4 ⟨rfl,hbn⟩
      exact ⟨rfl,HD2.out _ (hS.out _ (below_step hcW hbn))⟩
     dsimp only [zB,zC]
     iterate 26 refine zX ?_
     refine wpQuiet_nil (HQQ.out _ (fun W hW=>?_))
     obtain ⟨q0,q1,q2,hmW,hcW⟩:=hW
     go_wp2_with fail
     go_ret
     exact ⟨by rw [HB.out];rfl,hbW.trans (hcW.mono (by have:=HSZ.out;omega))⟩
    | true =>
     by_cases z1:xz<1
     ·have z1':decide (xz<1)=true:=by simpa using z1
      have HB:=Lib.hid (hbad.out (.inr (.inr (.inl z1))))
      have hS:=Lib.hid (fun (W':World) (hB:Below W0.heap.size W0 W')=>(⟨(hB.cell (p:=⟨wr.heap.size,0,none⟩) hlt0).trans k0,(hB.cell (p:=⟨wr.heap.size,1,none⟩) hlt0).trans k1,(hB.cell (p:=⟨wr.heap.size,2,none⟩) hlt0).trans k2,hmW0.below hB,hB⟩:W'.cell? ⟨wr.heap.size,0,none⟩=some (.string ⟨xu.toArray⟩)∧W'.cell? ⟨wr.heap.size,1,none⟩=some (.string ⟨xp.toArray⟩)∧W'.cell? ⟨wr.heap.size,2,none⟩=some (.int .i64 xz)∧HasMax W'∧Below W0.heap.size W0 W'))
      clear hr hrw hbad hgood
      go_wp2_with fail
      rw [← hW0]
      clear hW0 hszW
      refine wpC_regionH (fun W'=>W'.cell? ⟨wr.heap.size,0,none⟩=some (.string ⟨xu.toArray⟩)∧W'.cell? ⟨wr.heap.size,1,none⟩=some (.string ⟨xp.toArray⟩)∧W'.cell? ⟨wr.heap.size,2,none⟩=some (.int .i64 xz)∧HasMax W'∧Below W0.heap.size W0 W') (hS.out _ hS0) (fun OPS D QQ HO HD HD2 HQQ=>?_)
      have hgo4:=hgoL HO 4 19 rfl
      have hgo10:=hgoL HO 10 25 rfl
      have hgo15:=hgoL HO 15 30 rfl
      have hgo20:=hgoL HO 20 35 rfl
      have hgo23:=hgoL HO 23 38 rfl
      clear HO
      refine zX ?_
      refine zY ?_
      refine zN hN ?_
      iterate 3 refine zX ?_
      refine zY ?_
      refine wpC_greadS (v:=.bool true) rfl rfl hgo4.out rfl (fun W hW=>?_) ?_
      ·replace hW:=HD.out W hW
       obtain ⟨q0,q1,q2,hmW,hcW⟩:=hW
       go_simp
       refine (hV _ hmW).mono ?_
       rintro e w4 ⟨rfl,hbn⟩
       exact ⟨rfl,HD2.out _ (hS.out _ (below_step hcW hbn))⟩
      dsimp only [zB,zC]
      iterate 4 refine zX ?_
      refine zY ?_
      iterate 21 refine zX ?_
      refine wpQuiet_nil (HQQ.out _ (fun W hW=>?_))
      obtain ⟨q0,q1,q2,hmW,hcW⟩:=hW
      go_wp2_with fail
      go_ret
      exact ⟨by rw [HB.out];rfl,hbW.trans (hcW.mono (by have:=HSZ.out;omega))⟩
     by_cases z2:255<xz
     ·have z1':decide (xz<1)=false:=by simpa using z1
      have z2':decide (255<xz)=true:=by simpa using z2
      have HB:=Lib.hid (hbad.out (.inr (.inr (.inr (.inl z2)))))
      have hS:=Lib.hid (fun (W':World) (hB:Below W0.heap.size W0 W')=>(⟨(hB.cell (p:=⟨wr.heap.size,0,none⟩) hlt0).trans k0,(hB.cell (p:=⟨wr.heap.size,1,none⟩) hlt0).trans k1,(hB.cell (p:=⟨wr.heap.size,2,none⟩) hlt0).trans k2,hmW0.below hB,hB⟩:W'.cell? ⟨wr.heap.size,0,none⟩=some (.string ⟨xu.toArray⟩)∧W'.cell? ⟨wr.heap.size,1,none⟩=some (.string ⟨xp.toArray⟩)∧W'.cell? ⟨wr.heap.size,2,none⟩=some (.int .i64 xz)∧HasMax W'∧Below W0.heap.size W0 W'))
      clear hr hrw hbad hgood
      go_wp2_with fail
      rw [← hW0]
      clear hW0 hszW
      refine wpC_regionH (fun W'=>W'.cell? ⟨wr.heap.size,0,none⟩=some (.string ⟨xu.toArray⟩)∧W'.cell? ⟨wr.heap.size,1,none⟩=some (.string ⟨xp.toArray⟩)∧W'.cell? ⟨wr.heap.size,2,none⟩=some (.int .i64 xz)∧HasMax W'∧Below W0.heap.size W0 W') (hS.out _ hS0) (fun OPS D QQ HO HD HD2 HQQ=>?_)
      have hgo4:=hgoL HO 4 19 rfl
      have hgo10:=hgoL HO 10 25 rfl
      have hgo15:=hgoL HO 15 30 rfl
      have hgo20:=hgoL HO 20 35 rfl
      have hgo23:=hgoL HO 23 38 rfl
      clear HO
      refine zX ?_
      refine zY ?_
      refine zN hN ?_
      iterate 3 refine zX ?_
      refine zY ?_
      refine wpC_greadS (v:=.bool true) rfl rfl hgo4.out rfl (fun W hW=>?_) ?_
      ·replace hW:=HD.out W hW
       obtain ⟨q0,q1,q2,hmW,hcW⟩:=hW
       go_simp
       refine (hV _ hmW).mono ?_
       rintro e w4 ⟨rfl,hbn⟩
       exact ⟨rfl,HD2.out _ (hS.out _ (below_step hcW hbn))⟩
      dsimp only [zB,zC]
      iterate 4 refine zX ?_
      refine zY ?_
      iterate 4 refine zX ?_
      refine zY ?_
      iterate 16 refine zX ?_
      refine wpQuiet_nil (HQQ.out _ (fun W hW=>?_))
      obtain ⟨q0,q1,q2,hmW,hcW⟩:=hW
      go_wp2_with fail
      go_ret
      exact ⟨by rw [HB.out];rfl,hbW.trans (hcW.mono (by have:=HSZ.out;omega))⟩
     have z1':decide (xz<1)=false:=by simpa using z1
     have z2':decide (255<xz)=false:=by simpa using z2
     rcases Nat.eq_zero_or_pos k with h0 | h0
     ·have HG:=Lib.hid (hgood.out rfl rfl (by omega) (by omega) (fun y hy=>by subst h0;cases hy))
      have d4:decide ((0:Int)<(k:Int))=false:=by simp;omega
      have d4':decide (0<k)=false:=by simp;omega
      clear h0
      have hS:=Lib.hid (fun (W':World) (hB:Below W0.heap.size W0 W')=>(⟨(hB.cell (p:=⟨wr.heap.size,0,none⟩) hlt0).trans k0,(hB.cell (p:=⟨wr.heap.size,1,none⟩) hlt0).trans k1,(hB.cell (p:=⟨wr.heap.size,2,none⟩) hlt0).trans k2,hmW0.below hB,hB⟩:W'.cell? ⟨wr.heap.size,0,none⟩=some (.string ⟨xu.toArray⟩)∧W'.cell? ⟨wr.heap.size,1,none⟩=some (.string ⟨xp.toArray⟩)∧W'.cell? ⟨wr.heap.size,2,none⟩=some (.int .i64 xz)∧HasMax W'∧Below W0.heap.size W0 W'))
      clear hr hrw hbad hgood
      go_wp2_with fail
      rw [← hW0]
      clear hW0 hszW
      refine wpC_regionH (fun W'=>W'.cell? ⟨wr.heap.size,0,none⟩=some (.string ⟨xu.toArray⟩)∧W'.cell? ⟨wr.heap.size,1,none⟩=some (.string ⟨xp.toArray⟩)∧W'.cell? ⟨wr.heap.size,2,none⟩=some (.int .i64 xz)∧HasMax W'∧Below W0.heap.size W0 W') (hS.out _ hS0) (fun OPS D QQ HO HD HD2 HQQ=>?_)
      have hgo4:=hgoL HO 4 19 rfl
      have hgo10:=hgoL HO 10 25 rfl
      have hgo15:=hgoL HO 15 30 rfl
      have hgo20:=hgoL HO 20 35 rfl
      have hgo23:=hgoL HO 23 38 rfl
      clear HO
      refine zX ?_
      refine zY ?_
      refine zN hN ?_
      iterate 3 refine zX ?_
      refine zY ?_
      refine wpC_greadS (v:=.bool true) rfl rfl hgo4.out rfl (fun W hW=>?_) ?_
      ·replace hW:=HD.out W hW
       obtain ⟨q0,q1,q2,hmW,hcW⟩:=hW
       go_simp
       refine (hV _ hmW).mono ?_
       rintro e w4 ⟨rfl,hbn⟩
       exact ⟨rfl,HD2.out _ (hS.out _ (below_step hcW hbn))⟩
      dsimp only [zB,zC]
      iterate 4 refine zX ?_
      refine zY ?_
      iterate 4 refine zX ?_
      refine zY ?_
      iterate 16 refine zX ?_
      refine wpQuiet_nil (HQQ.out _ (fun W hW=>?_))
      obtain ⟨q0,q1,q2,hmW,hcW⟩:=hW
      go_wp2_with fail
      go_roundw
      case rel=>exact ⟨k+1,by omega,by go_num,HG,hbW.trans (hcW.mono (by have:=HSZ.out;omega))⟩
      case measure=>simp [intOf];omega
     ·have d4:decide ((0:Int)<(k:Int))=true:=by simp;omega
      have d4':decide (0<k)=true:=by simp;omega
      have hk1l:k-1<l.length:=by omega
      obtain ⟨y,hy⟩:∃ y,y=l[k-1]'hk1l:=⟨_,rfl⟩
      have hpv:prevG l k=some y:=by
       obtain ⟨j,rfl⟩:∃ j,k=j+1:=⟨k-1,by omega⟩
       show l[j]?=_
       have hj:j<l.length:=by simpa using hk1l
       rw [List.getElem?_eq_getElem hj,hy]
       rfl
      obtain ⟨ad2,e2,-,p0,p1,p2⟩:=(hrw.el3 HN.out (i:=k-1) (by omega))
      injection e2 with e2
      subst e2
      rw [← hy] at p0 p1 p2
      obtain ⟨yu,yp,yz⟩:=y
      simp only at p0 p1 p2
      have hltp:(ad.add ((k-1)*3)).block<W0.heap.size:=by rw [block_of_add];omega
      have hltw:(ad.add ((k-1)*3)).block<wr.heap.size:=by rw [block_of_add];omega
      have kp0:W0.cell? (ad.add ((k-1)*3))=some (.string ⟨yu.toArray⟩):=by rw [hW0];exact (World.cell?_alloc_lt wr _ _ hltw).trans p0
      have kp1:W0.cell? ⟨(ad.add ((k-1)*3)).block,(ad.add ((k-1)*3)).off+1,none⟩=some (.string ⟨yp.toArray⟩):=by rw [hW0];exact (World.cell?_alloc_lt wr _ ⟨(ad.add ((k-1)*3)).block,(ad.add ((k-1)*3)).off+1,none⟩ hltw).trans p1
      have kp2:W0.cell? ⟨(ad.add ((k-1)*3)).block,(ad.add ((k-1)*3)).off+2,none⟩=some (.int .i64 yz):=by rw [hW0];exact (World.cell?_alloc_lt wr _ ⟨(ad.add ((k-1)*3)).block,(ad.add ((k-1)*3)).off+2,none⟩ hltw).trans p2
      have i1:(1:Int)≤(k:Int):=by omega
      have i2:(k:Int)-1<(n:Int):=by omega
      have i3:IntKind.i64.wrap ((k:Int)-1)=(k:Int)-1:=IntWalk.i64_in _ (by omega)
      have i4:((k:Int)-1).toNat=k-1:=by omega
      have hO:=fun W=>orderG_any yu yp xu xp yz xz W
      have hbadO:=fun (h:¬ cmpG yu yp xu xp<0)=>hbad.out (.inr (.inr (.inr (.inr ⟨_,hpv,h⟩))))
      have hgoodO:=fun (h:cmpG yu yp xu xp<0)=>hgood.out rfl rfl (by omega) (by omega) (fun y' hy'=>by rw [hpv] at hy';cases hy';exact h)
      obtain ⟨z,hz⟩:∃ z,z=cmpG yu yp xu xp:=⟨_,rfl⟩
      rw [← hz] at hO hbadO hgoodO
      clear hz
      by_cases hcmp:z<0
      ·have HG:=Lib.hid (hgoodO hcmp)
       have z3:decide (0≤z)=false:=by simp;omega
       clear h0 hpv hy p0 p1 p2 hbadO hgoodO
       have hS:=Lib.hid (fun (W':World) (hB:Below W0.heap.size W0 W')=>(⟨(hB.cell (p:=⟨wr.heap.size,0,none⟩) hlt0).trans k0,(hB.cell (p:=⟨wr.heap.size,1,none⟩) hlt0).trans k1,(hB.cell (p:=⟨wr.heap.size,2,none⟩) hlt0).trans k2,(hB.cell (p:=ad.add ((k-1)*3)) hltp).trans kp0,(hB.cell (p:=⟨(ad.add ((k-1)*3)).block,(ad.add ((k-1)*3)).off+1,none⟩) hltp).trans kp1,(hB.cell (p:=⟨(ad.add ((k-1)*3)).block,(ad.add ((k-1)*3)).off+2,none⟩) hltp).trans kp2,hmW0.below hB,hB⟩:W'.cell? ⟨wr.heap.size,0,none⟩=some (.string ⟨xu.toArray⟩)∧W'.cell? ⟨wr.heap.size,1,none⟩=some (.string ⟨xp.toArray⟩)∧W'.cell? ⟨wr.heap.size,2,none⟩=some (.int .i64 xz)∧W'.cell? (ad.add ((k-1)*3))=some (.string ⟨yu.toArray⟩)∧W'.cell? ⟨(ad.add ((k-1)*3)).block,(ad.add ((k-1)*3)).off+1,none⟩=some (.string ⟨yp.toArray⟩)∧W'.cell? ⟨(ad.add ((k-1)*3)).block,(ad.add ((k-1)*3)).off+2,none⟩=some (.int .i64 yz)∧HasMax W'∧Below W0.heap.size W0 W'))
       clear hr hrw hbad hgood
       go_wp2_with fail
       rw [← hW0]
       clear hW0 hszW
       refine wpC_regionH (fun W'=>W'.cell? ⟨wr.heap.size,0,none⟩=some (.string ⟨xu.toArray⟩)∧W'.cell? ⟨wr.heap.size,1,none⟩=some (.string ⟨xp.toArray⟩)∧W'.cell? ⟨wr.heap.size,2,none⟩=some (.int .i64 xz)∧W'.cell? (ad.add ((k-1)*3))=some (.string ⟨yu.toArray⟩)∧W'.cell? ⟨(ad.add ((k-1)*3)).block,(ad.add ((k-1)*3)).off+1,none⟩=some (.string ⟨yp.toArray⟩)∧W'.cell? ⟨(ad.add ((k-1)*3)).block,(ad.add ((k-1)*3)).off+2,none⟩=some (.int .i64 yz)∧HasMax W'∧Below W0.heap.size W0 W') (hS.out _ hS0) (fun OPS D QQ HO HD HD2 HQQ=>?_)
       have hgo4:=hgoL HO 4 19 rfl
       have hgo10:=hgoL HO 10 25 rfl
       have hgo15:=hgoL HO 15 30 rfl
       have hgo20:=hgoL HO 20 35 rfl
       have hgo23:=hgoL HO 23 38 rfl
       clear HO
       refine zX ?_
       refine zY ?_
       refine zN hN ?_
       iterate 3 refine zX ?_
       refine zY ?_
       refine wpC_greadS (v:=.bool true) rfl rfl hgo4.out rfl (fun W hW=>?_) ?_
       ·replace hW:=HD.out W hW
        obtain ⟨q0,q1,q2,q3,q4,q5,hmW,hcW⟩:=hW
        go_simp
        refine (hV _ hmW).mono ?_
        rintro e w4 ⟨rfl,hbn⟩
        exact ⟨rfl,HD2.out _ (hS.out _ (below_step hcW hbn))⟩
       dsimp only [zB,zC]
       iterate 4 refine zX ?_
       refine zY ?_
       iterate 4 refine zX ?_
       refine zY ?_
       iterate 10 refine zX ?_
       iterate 2 refine zY ?_
       refine zN hO ?_
       iterate 3 refine zX ?_
       refine wpQuiet_nil (HQQ.out _ (fun W hW=>?_))
       obtain ⟨q0,q1,q2,q3,q4,q5,hmW,hcW⟩:=hW
       go_wp2_with fail
       go_roundw
       case rel=>exact ⟨k+1,by omega,by go_num,HG,hbW.trans (hcW.mono (by have:=HSZ.out;omega))⟩
       case measure=>simp [intOf];omega
      ·have HB:=Lib.hid (hbadO hcmp)
       have z3:decide (0≤z)=true:=by simp;omega
       clear h0 hpv hy p0 p1 p2 hbadO hgoodO
       have hS:=Lib.hid (fun (W':World) (hB:Below W0.heap.size W0 W')=>(⟨(hB.cell (p:=⟨wr.heap.size,0,none⟩) hlt0).trans k0,(hB.cell (p:=⟨wr.heap.size,1,none⟩) hlt0).trans k1,(hB.cell (p:=⟨wr.heap.size,2,none⟩) hlt0).trans k2,(hB.cell (p:=ad.add ((k-1)*3)) hltp).trans kp0,(hB.cell (p:=⟨(ad.add ((k-1)*3)).block,(ad.add ((k-1)*3)).off+1,none⟩) hltp).trans kp1,(hB.cell (p:=⟨(ad.add ((k-1)*3)).block,(ad.add ((k-1)*3)).off+2,none⟩) hltp).trans kp2,hmW0.below hB,hB⟩:W'.cell? ⟨wr.heap.size,0,none⟩=some (.string ⟨xu.toArray⟩)∧W'.cell? ⟨wr.heap.size,1,none⟩=some (.string ⟨xp.toArray⟩)∧W'.cell? ⟨wr.heap.size,2,none⟩=some (.int .i64 xz)∧W'.cell? (ad.add ((k-1)*3))=some (.string ⟨yu.toArray⟩)∧W'.cell? ⟨(ad.add ((k-1)*3)).block,(ad.add ((k-1)*3)).off+1,none⟩=some (.string ⟨yp.toArray⟩)∧W'.cell? ⟨(ad.add ((k-1)*3)).block,(ad.add ((k-1)*3)).off+2,none⟩=some (.int .i64 yz)∧HasMax W'∧Below W0.heap.size W0 W'))
       clear hr hrw hbad hgood
       go_wp2_with fail
       rw [← hW0]
       clear hW0 hszW
       refine wpC_regionH (fun W'=>W'.cell? ⟨wr.heap.size,0,none⟩=some (.string ⟨xu.toArray⟩)∧W'.cell? ⟨wr.heap.size,1,none⟩=some (.string ⟨xp.toArray⟩)∧W'.cell? ⟨wr.heap.size,2,none⟩=some (.int .i64 xz)∧W'.cell? (ad.add ((k-1)*3))=some (.string ⟨yu.toArray⟩)∧W'.cell? ⟨(ad.add ((k-1)*3)).block,(ad.add ((k-1)*3)).off+1,none⟩=some (.string ⟨yp.toArray⟩)∧W'.cell? ⟨(ad.add ((k-1)*3)).block,(ad.add ((k-1)*3)).off+2,none⟩=some (.int .i64 yz)∧HasMax W'∧Below W0.heap.size W0 W') (hS.out _ hS0) (fun OPS D QQ HO HD HD2 HQQ=>?_)
       have hgo4:=hgoL HO 4 19 rfl
       have hgo10:=hgoL HO 10 25 rfl
       have hgo15:=hgoL HO 15 30 rfl
       have hgo20:=hgoL HO 20 35 rfl
       have hgo23:=hgoL HO 23 38 rfl
       clear HO
       refine zX ?_
       refine zY ?_
       refine zN hN ?_
       iterate 3 refine zX ?_
       refine zY ?_
       refine wpC_greadS (v:=.bool true) rfl rfl hgo4.out rfl (fun W hW=>?_) ?_
       ·replace hW:=HD.out W hW
        obtain ⟨q0,q1,q2,q3,q4,q5,hmW,hcW⟩:=hW
        go_simp
        refine (hV _ hmW).mono ?_
        rintro e w4 ⟨rfl,hbn⟩
        exact ⟨rfl,HD2.out _ (hS.out _ (below_step hcW hbn))⟩
       dsimp only [zB,zC]
       iterate 4 refine zX ?_
       refine zY ?_
       iterate 4 refine zX ?_
       refine zY ?_
       iterate 10 refine zX ?_
       iterate 2 refine zY ?_
       refine zN hO ?_
       iterate 3 refine zX ?_
       refine wpQuiet_nil (HQQ.out _ (fun W hW=>?_))
       obtain ⟨q0,q1,q2,q3,q4,q5,hmW,hcW⟩:=hW
       go_wp2_with fail
       go_ret
       exact ⟨by rw [HB.out];rfl,hbW.trans (hcW.mono (by have:=HSZ.out;omega))⟩
  ·obtain rfl:k=n:=by omega
   have HF:Hid (grantsE l=0):=by
    show _=_
    rw [hPE.out true]
    ·rfl
    rw [hok.out,List.drop_of_length_le (by rw [HN.out];exact Nat.le_refl _)]
    rfl
   clear hok hr
   go_wp2_with fail
   go_ret
   exact ⟨by rw [HF.out];rfl,hbw⟩
end Go.Proofs.YtcgclpcocdappaaGreatDoor
