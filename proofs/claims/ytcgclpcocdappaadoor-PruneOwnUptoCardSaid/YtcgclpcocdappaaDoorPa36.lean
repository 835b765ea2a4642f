/-
  godownplain.Tenant: a tenant's rows, written over in themselves: nothing else changes. 'copy' at elements of several cells into a row that is known whole; the plain facts of what slices.Insert and slices.Delete make of a row.
-/
import Derived.WalkKit
import Derived.WalkSpells
import Derived.Below
import Derived.Laws.OwnMore
import Derived.Deep.AppendLies
import Derived.Deep.Draws
import Derived.Laws.Rows
import Derived.Maps.AppendAt
import Derived.RegionTactic
import Derived.OwnWalk
import Derived.Deep.QuietTactic
import Derived.BigQuiet
import Derived.Lib.Hide
import Derived.Laws.CopyOwn
import Derived.IntWalk
import Derived.Test.YtcgclpcocdappaaDoorRows
import Derived.Handy
import Derived.Deep.Quiet
import Derived.Orders
import Derived.Lib.SplitLaws
import Derived.Lib.LastIndexByte
import Derived.Lib.Strings
import Derived.ShutString
import Derived.Sort.Walk0
import Derived.Sort.KeysCollected
import Derived.Deep.MidRow
import Derived.Shelf.Strings.Search1
import Derived.Shelf.Strings.Search2
import Derived.Shelf.Strings.Search3
import Derived.Shelf.Strings.Cut
import Derived.Shelf.Strings.Count
import Derived.Shelf.LaysM
import Derived.Shelf.Strings.Shaped
import Derived.Shelf.Strings.LastIndex
import Derived.Shelf.Strings.Split
import Derived.Shelf.Strings.SplitShaped
import Derived.Shelf.Unicode.Decode
import Derived.Shelf.Strings.RuneCount
import Derived.Shelf.Strings.Explode
import Derived.Shelf.Unicode.DecodeSlow
import Derived.Shelf.Slices.Turned
import Derived.Test.YtcgclpcocdappaaDoorProg
import Derived.Laws.BytesString
import Derived.Laws.IdiomStrings
import Derived.Lib.ConvBytes
import Derived.Lib.Overlaps
import Derived.Lib.AppendZerosOnto
import Derived.Deep.RegionLaw
import Derived.Test.YtcgclpcocdappaaDoorP0
import Derived.Test.YtcgclpcocdappaaDoorPa1
import Derived.Test.YtcgclpcocdappaaDoorPa5
import Derived.Test.YtcgclpcocdappaaDoorPa7
import Derived.Test.YtcgclpcocdappaaDoorPa10
import Derived.Test.YtcgclpcocdappaaDoorPa23
import Derived.Test.YtcgclpcocdappaaDoorPa24
import Derived.Test.YtcgclpcocdappaaDoorPa27
namespace Go.Proofs.YtcgclpcocdappaaDoor
open Go.RowKit
def BoxW (b:Nat) (S G T L:Value) (w:World):Prop:=w.cell? ⟨b,3,none⟩=some S∧w.cell? ⟨b,4,none⟩=some G∧w.cell? ⟨b,5,none⟩=some T∧w.cell? ⟨b,6,none⟩=some L
set_option maxRecDepth 100000 in
set_option maxHeartbeats 4000000 in
theorem spoilT_any (nm:BS) (qu nx:Int) (s1:Option Addr) (s2 s3:Nat) (g1:Option Addr) (g2 g3:Nat) (t1:Option Addr) (t2 t3:Nat) (l1:Option Addr) (l2 l3:Nat) (w:World) (lo hi:Nat) (hhi:hi≤w.heap.size) (hlo:lo≤w.heap.size) (hs2:s2≤5000000000000)
  (hS:SetsW w lo hi (.slice s1 s2 s3)) (hG:RowX w lo hi 70 3 (.slice g1 g2 g3)) (hT:RowX w lo hi 53 21 (.slice t1 t2 t3)) (hL:RowX w lo hi 72 4 (.slice l1 l2 l3)) :
  Calls Tryd.prog 8 #[.agg #[.string ⟨nm.toArray⟩,.int .i64 qu,.int .i64 nx,.slice s1 s2 s3,.slice g1 g2 g3,.slice t1 t2 t3,.slice l1 l2 l3]] w fun e w'=>e=.returned (.tuple #[])∧OnlyIn lo hi w w':=by
 have hb1:=(Below.refl w.heap.size w).alloc (Nat.le_refl _) (.cells #[.string ⟨nm.toArray⟩,.int .i64 qu,.int .i64 nx,.slice s1 s2 s3,.slice g1 g2 g3,.slice t1 t2 t3,.slice l1 l2 l3] 27)
 have kT:=Blk.new w 27 #[.string ⟨nm.toArray⟩,.int .i64 qu,.int .i64 nx,.slice s1 s2 s3,.slice g1 g2 g3,.slice t1 t2 t3,.slice l1 l2 l3]
 obtain ⟨W0,hW0⟩:∃ W,W=w.alloc (.cells #[.string ⟨nm.toArray⟩,.int .i64 qu,.int .i64 nx,.slice s1 s2 s3,.slice g1 g2 g3,.slice t1 t2 t3,.slice l1 l2 l3] 27):=⟨_,rfl⟩
 have hsz:W0.heap.size=w.heap.size+1:=by rw [hW0];simp
 rw [← hW0] at hb1 kT
 have hBX:Hid (∀ W',OnlyIn lo hi W0 W'→W'.cell? ⟨w.heap.size,3,none⟩=some (.slice s1 s2 s3)∧W'.cell? ⟨w.heap.size,4,none⟩=some (.slice g1 g2 g3)∧W'.cell? ⟨w.heap.size,5,none⟩=some (.slice t1 t2 t3)∧W'.cell? ⟨w.heap.size,6,none⟩=some (.slice l1 l2 l3)):=by
  show ∀ W',_→_
  intro W' h
  have hk:Blk W' w.heap.size 27 #[.string ⟨nm.toArray⟩,.int .i64 qu,.int .i64 nx,.slice s1 s2 s3,.slice g1 g2 g3,.slice t1 t2 t3,.slice l1 l2 l3]:=(h.high _ hhi (by omega)).trans kT
  exact ⟨hk.cell 3,hk.cell 4,hk.cell 5,hk.cell 6⟩
 have HI:Hid (SpI lo hi (.slice s1 s2 s3) (.slice g1 g2 g3) (.slice t1 t2 t3) (.slice l1 l2 l3) W0 W0):=⟨hS.below hb1,hG.below hb1,hT.below hb1,hL.below hb1,OnlyIn.refl _ _ _⟩
 have HB0:=Lib.hid hb1
 have hlo0:lo≤W0.heap.size:=by omega
 clear hb1 kT hsz hS hG hT hL
 go_enter Tryd.func8,Tryd.ntmps8
 go_wp2_with fail
 rw [← hW0]
 clear hW0
 go_loopw [2] (fun a wr=>∃ i:Nat,i≤s2∧a=.int .i64 (i:Int)∧Hid (SpI lo hi (.slice s1 s2 s3) (.slice g1 g2 g3) (.slice t1 t2 t3) (.slice l1 l2 l3) W0 wr)) (fun a _=>s2-(intOf a).toNat)
 case atStart=>exact ⟨0,Nat.zero_le _,rfl,HI.out⟩
 case round =>
  clear HI
  obtain ⟨i,hi',rfl,HI⟩:=hrel
  obtain ⟨c3,c4,c5,c6⟩:=hBX.out _ HI.out.only
  by_cases hlt:i<s2
  ·obtain ⟨g,bA,bn,bc,sA,sn,sc,oA,on,oc,xs,hSe,hglo,hghi,p2,p3,p4,hth,hrow,⟨byr,hBr⟩,hSn,⟨oyr,hOr⟩⟩:=HI.out.sets.at hlt
   obtain ⟨g0,hg0⟩:∃ g0,g0=g:=⟨_,rfl⟩
   subst hg0
   subst hSe
   have hki:(i:Int)<(s2:Int):=by omega
   clear hBr hOr hSn hrow hth
   go_wp2_with fail
   go_loopw [3] (fun a wr=>∃ m:Nat,m≤maxLen∧a=.int .i64 (m:Int)∧Hid (SpI lo hi (.slice (some ⟨g0,0,none⟩) s2 s3) (.slice g1 g2 g3) (.slice t1 t2 t3) (.slice l1 l2 l3) W0 wr)) (fun a _=>maxLen-(intOf a).toNat)
   case atStart=>exact ⟨0,Nat.zero_le _,rfl,HI.out⟩
   case round =>
    clear HI
    obtain ⟨m,hm,rfl,HI⟩:=hrel
    obtain ⟨c3,c4,c5,c6⟩:=hBX.out _ HI.out.only
    obtain ⟨g,bA,bn,bc,sA,sn,sc,oA,on,oc,xs,hSe,hglo,hghi,p2,p3,p4,hth,hrow,⟨byr,hBr⟩,hSn,⟨oyr,hOr⟩⟩:=HI.out.sets.at hlt
    injection hSe with hSe
    injection hSe with hSe
    subst hSe
    have hWl:lo≤wr.heap.size:=Nat.le_trans hlo0 HI.out.only.low.size
    by_cases hmn:m<bn
    ·obtain ⟨gb,cb,hbe,hb1,hb2,hb3,-,hbt,hbo⟩:=hBr.el hmn
     injection hbe with hbe _ hbe2
     subst hbe hbe2
     have hmi:(m:Int)<(bn:Int):=by omega
     have HI2:=Lib.hid (HI.out.store hbo hb1 hb2 hWl (by decide) (by decide) (m*2) [.int .i64 77,.string ⟨#[]⟩])
     have HTH:=Lib.hid hbt
     have hm9:m<9223372036854775807:=by unfold maxLen at hb3;omega
     clear hBr hOr hSn hrow hth hbt hbo HI
     obtain ⟨W5,hW5⟩:∃ W,W=wr.setCells gb (m*2) (#[.int .i64 77,.string ⟨#[]⟩]:Array Value).toList:=⟨_,rfl⟩
     rw [show ([.int .i64 77,.string ⟨#[]⟩]:List Value)=(#[.int .i64 77,.string ⟨#[]⟩]:Array Value).toList from rfl,← hW5] at HI2
     go_wp2_with (refine wpList_store_mid rfl 66 (.tmp 36) (.tmp 35) rfl gb (m*2) #[.int .i64 77,.string ⟨#[]⟩] (by simp [go_sem]) rfl HTH.out (by kernel_rfl) (by simp [Value.oneCell']) ?_;rw [← hW5];clear hW5)
     go_roundw
     case rel=>exact ⟨m+1,by omega,by go_num,HI2.out⟩
     case measure=>simp [intOf];unfold maxLen at hb3 ⊢;omega
    ·have hmi:¬ (m:Int)<(bn:Int):=by omega
     clear hBr hOr hSn hrow hth hm
     go_wp2_with fail
     go_loopw [4] (fun a wr=>∃ m:Nat,m≤maxLen∧a=.int .i64 (m:Int)∧Hid (SpI lo hi (.slice (some ⟨g0,0,none⟩) s2 s3) (.slice g1 g2 g3) (.slice t1 t2 t3) (.slice l1 l2 l3) W0 wr)) (fun a _=>maxLen-(intOf a).toNat)
     case atStart=>exact ⟨0,Nat.zero_le _,rfl,HI.out⟩
     case round =>
      clear HI
      obtain ⟨m,hm,rfl,HI⟩:=hrel
      obtain ⟨c3,c4,c5,c6⟩:=hBX.out _ HI.out.only
      obtain ⟨g,bA,bn,bc,sA,sn,sc,oA,on,oc,xs,hSe,hglo,hghi,p2,p3,p4,hth,hrow,⟨byr,hBr⟩,hSn,⟨oyr,hOr⟩⟩:=HI.out.sets.at hlt
      injection hSe with hSe
      injection hSe with hSe
      subst hSe
      have hWl:lo≤wr.heap.size:=Nat.le_trans hlo0 HI.out.only.low.size
      by_cases hmn:m<on
      ·obtain ⟨gb,cb,hbe,hb1,hb2,hb3,-,hbt,hbo⟩:=hOr.el hmn
       injection hbe with hbe _ hbe2
       subst hbe hbe2
       have hmi:(m:Int)<(on:Int):=by omega
       have HI2:=Lib.hid (HI.out.store hbo hb1 hb2 hWl (by decide) (by decide) (m*2) [.string ⟨#[115,112,111,105,108,116]⟩,.string ⟨#[]⟩])
       have HTH:=Lib.hid hbt
       have hm9:m<9223372036854775807:=by unfold maxLen at hb3;omega
       clear hBr hOr hSn hrow hth hbt hbo HI
       obtain ⟨W5,hW5⟩:∃ W,W=wr.setCells gb (m*2) (#[.string ⟨#[115,112,111,105,108,116]⟩,.string ⟨#[]⟩]:Array Value).toList:=⟨_,rfl⟩
       rw [show ([.string ⟨#[115,112,111,105,108,116]⟩,.string ⟨#[]⟩]:List Value)=(#[.string ⟨#[115,112,111,105,108,116]⟩,.string ⟨#[]⟩]:Array Value).toList from rfl,← hW5] at HI2
       go_wp2_with (refine wpList_store_mid rfl 68 (.tmp 56) (.tmp 55) rfl gb (m*2) #[.string ⟨#[115,112,111,105,108,116]⟩,.string ⟨#[]⟩] (by simp [go_sem]) rfl HTH.out (by kernel_rfl) (by simp [Value.oneCell']) ?_;rw [← hW5];clear hW5)
       go_roundw
       case rel=>exact ⟨m+1,by omega,by go_num,HI2.out⟩
       case measure=>simp [intOf];unfold maxLen at hb3 ⊢;omega
      ·have hmi:¬ (m:Int)<(on:Int):=by omega
       clear hBr hOr hSn hrow hth hm
       go_wp2_with fail
       obtain ⟨sA0,sn0,sc0,HF⟩:∃ sA0 sn0 sc0,Hid (wr.cell? ⟨g0,i*5+3,none⟩=some (.slice sA0 sn0 sc0)):=by
        obtain ⟨g,bA,bn,bc,sA,sn,sc,oA,on,oc,xs,hSe,hglo,hghi,p2,p3,p4,hth,hrow,⟨byr,hBr⟩,hSn,⟨oyr,hOr⟩⟩:=HI.out.sets.at hlt
        injection hSe with hSe
        injection hSe with hSe
        subst hSe
        exact ⟨_,_,_,p3⟩
       go_loopw [5] (fun a wr=>∃ m:Nat,m≤sn0∧a=.int .i64 (m:Int)∧Hid (SpI lo hi (.slice (some ⟨g0,0,none⟩) s2 s3) (.slice g1 g2 g3) (.slice t1 t2 t3) (.slice l1 l2 l3) W0 wr)∧Hid (wr.cell? ⟨g0,i*5+3,none⟩=some (.slice sA0 sn0 sc0))) (fun a _=>sn0-(intOf a).toNat)
       case atStart=>exact ⟨0,Nat.zero_le _,rfl,HI.out,HF.out⟩
       case round =>
        clear HI HF
        obtain ⟨kk,hkk,rfl,HI,HF⟩:=hrel
        obtain ⟨c3,c4,c5,c6⟩:=hBX.out _ HI.out.only
        obtain ⟨g,bA,bn,bc,sA,sn,sc,oA,on,oc,xs,hSe,hglo,hghi,p2,p3,p4,hth,hrow,⟨byr,hBr⟩,hSn,⟨oyr,hOr⟩⟩:=HI.out.sets.at hlt
        injection hSe with hSe
        injection hSe with hSe
        subst hSe
        rw [HF.out] at p3
        injection p3 with p3
        injection p3 with p3 p3b p3c
        subst p3 p3b p3c
        have p3:=HF.out
        have hWl:lo≤wr.heap.size:=Nat.le_trans hlo0 HI.out.only.low.size
        by_cases hkn:kk<sn0
        ·have hmi:(kk:Int)<(sn0:Int):=by omega
         clear hBr hOr hSn hrow hth hkk
         go_wp2_with fail
         go_loopw [6] (fun a wr=>∃ m:Nat,m≤maxLen∧a=.int .i64 (m:Int)∧Hid (SpI lo hi (.slice (some ⟨g0,0,none⟩) s2 s3) (.slice g1 g2 g3) (.slice t1 t2 t3) (.slice l1 l2 l3) W0 wr)∧Hid (wr.cell? ⟨g0,i*5+3,none⟩=some (.slice sA0 sn0 sc0))) (fun a _=>maxLen-(intOf a).toNat)
         case atStart=>exact ⟨0,Nat.zero_le _,rfl,HI.out,HF.out⟩
         case round =>
          clear HI HF
          obtain ⟨m,hm,rfl,HI,HF⟩:=hrel
          obtain ⟨c3,c4,c5,c6⟩:=hBX.out _ HI.out.only
          obtain ⟨g,bA,bn,bc,sA,sn,sc,oA,on,oc,xs,hSe,hglo,hghi,p2,p3,p4,hth,hrow,⟨byr,hBr⟩,hSn,⟨oyr,hOr⟩⟩:=HI.out.sets.at hlt
          injection hSe with hSe
          injection hSe with hSe
          subst hSe
          rw [HF.out] at p3
          injection p3 with p3
          injection p3 with p3 p3b p3c
          subst p3 p3b p3c
          have p3:=HF.out
          have hWl:lo≤wr.heap.size:=Nat.le_trans hlo0 HI.out.only.low.size
          obtain ⟨g',xA,xn,xc,zs,he',hlo',hhi',hsm',q2,hth',hrow',⟨xyr,hXr⟩⟩:=hSn.at hkn
          subst he'
          by_cases hmn:m<xn
          ·obtain ⟨gb,cb,hbe,hb1,hb2,hb3,-,hbt,hbo⟩:=hXr.el hmn
           injection hbe with hbe _ hbe2
           subst hbe hbe2
           have hmi:(m:Int)<(xn:Int):=by omega
           have HI2:=Lib.hid (HI.out.store hbo hb1 hb2 hWl (by decide) (by decide) (m*2) [.int .i64 78,.string ⟨#[]⟩])
           have hne:¬ g0=gb:=by
            intro hh
            obtain ⟨_,k1⟩:=own_blk hbo
            obtain ⟨_,k2⟩:=own_blk hrow
            unfold Blk at k1 k2
            rw [hh,k1] at k2
            injection k2 with k2
            injection k2 with _ k2
            exact absurd k2 (by decide)
           have HF2:=Lib.hid ((World.cell?_setCells_out gb [.int .i64 78,.string ⟨#[]⟩] (m*2) wr ⟨g0,i*5+3,none⟩ (fun h=>absurd h hne)).trans HF.out)
           have HTH:=Lib.hid hbt
           have hm9:m<9223372036854775807:=by unfold maxLen at hb3;omega
           clear hBr hOr hSn hrow hth hbt hbo HI hXr hrow' hth' HF hne
           obtain ⟨W5,hW5⟩:∃ W,W=wr.setCells gb (m*2) (#[.int .i64 78,.string ⟨#[]⟩]:Array Value).toList:=⟨_,rfl⟩
           rw [show ([.int .i64 78,.string ⟨#[]⟩]:List Value)=(#[.int .i64 78,.string ⟨#[]⟩]:Array Value).toList from rfl,← hW5] at HI2 HF2
           go_wp2_with (refine wpList_store_mid rfl 66 (.tmp 95) (.tmp 94) rfl gb (m*2) #[.int .i64 78,.string ⟨#[]⟩] (by simp [go_sem]) rfl HTH.out (by kernel_rfl) (by simp [Value.oneCell']) ?_;rw [← hW5];clear hW5)
           go_roundw
           case rel=>exact ⟨m+1,by omega,by go_num,HI2.out,HF2.out⟩
           case measure=>simp [intOf];unfold maxLen at hb3 ⊢;omega
          ·have hmi:¬ (m:Int)<(xn:Int):=by omega
           have HI2:=Lib.hid (HI.out.storeSnap hrow' hlo' hhi' hWl kk hkn (.string ⟨#[115,112,111,105,108,116]⟩) (.int .i64 0) (.slice none 0 0) (.slice none 0 0))
           have hne:¬ g0=g':=by
            intro hh
            obtain ⟨_,k1⟩:=own_blk hrow'
            obtain ⟨_,k2⟩:=own_blk hrow
            unfold Blk at k1 k2
            rw [hh,k1] at k2
            injection k2 with k2
            injection k2 with _ k2
            exact absurd k2 (by decide)
           have HF2:=Lib.hid ((World.cell?_setCells_out g' [.string ⟨#[115,112,111,105,108,116]⟩,.int .i64 0,.slice none 0 0,.slice none 0 0,.slice none 0 0] (kk*5) wr ⟨g0,i*5+3,none⟩ (fun h=>absurd h hne)).trans HF.out)
           have HTH:=Lib.hid hth'
           have hk9:kk<9223372036854775807:=by unfold maxLen at hsm';omega
           clear hBr hOr hSn hrow hth HI hXr hrow' hth' hm HF hne
           obtain ⟨W5,hW5⟩:∃ W,W=wr.setCells g' (kk*5) (#[.string ⟨#[115,112,111,105,108,116]⟩,.int .i64 0,.slice none 0 0,.slice none 0 0,.slice none 0 0]:Array Value).toList:=⟨_,rfl⟩
           rw [show ([.string ⟨#[115,112,111,105,108,116]⟩,.int .i64 0,.slice none 0 0,.slice none 0 0,.slice none 0 0]:List Value)=(#[.string ⟨#[115,112,111,105,108,116]⟩,.int .i64 0,.slice none 0 0,.slice none 0 0,.slice none 0 0]:Array Value).toList from rfl,← hW5] at HI2 HF2
           go_wp2_with (refine wpList_store_mid rfl 42 (.tmp 104) (.tmp 103) rfl g' (kk*5) #[.string ⟨#[115,112,111,105,108,116]⟩,.int .i64 0,.slice none 0 0,.slice none 0 0,.slice none 0 0] (by simp [go_sem]) rfl HTH.out (by kernel_rfl) (by simp [Value.oneCell']) ?_;rw [← hW5];clear hW5)
           go_roundw
           case rel=>exact ⟨kk+1,by omega,by go_num,HI2.out,HF2.out⟩
           case measure=>simp [intOf];omega
        ·have hmi:¬ (kk:Int)<(sn0:Int):=by omega
         clear hBr hOr hSn hrow hth hkk
         obtain ⟨g,bA,bn,bc,sA,sn,sc,oA,on,oc,xs,hSe,hglo,hghi,p2,p3,p4,hth,hrow,⟨byr,hBr⟩,hSn,⟨oyr,hOr⟩⟩:=HI.out.sets.at hlt
         injection hSe with hSe
         injection hSe with hSe
         subst hSe
         rw [HF.out] at p3
         injection p3 with p3
         injection p3 with p3 p3b p3c
         subst p3 p3b p3c
         have p3:=HF.out
         have hWl:lo≤wr.heap.size:=Nat.le_trans hlo0 HI.out.only.low.size
         have HI2:=Lib.hid (HI.out.storeSet hrow hglo hghi hWl i hlt (.string ⟨#[115,112,111,105,108,116]⟩) (.string ⟨#[]⟩))
         have HTH:=Lib.hid hth
         obtain ⟨d3,-⟩:=hBX.out _ HI.out.only
         clear hBr hOr hSn hrow hth HI HF
         obtain ⟨W5,hW5⟩:∃ W,W=wr.setCells g0 (i*5) (#[.string ⟨#[115,112,111,105,108,116]⟩,.string ⟨#[]⟩,.slice none 0 0,.slice none 0 0,.slice none 0 0]:Array Value).toList:=⟨_,rfl⟩
         rw [show ([.string ⟨#[115,112,111,105,108,116]⟩,.string ⟨#[]⟩,.slice none 0 0,.slice none 0 0,.slice none 0 0]:List Value)=(#[.string ⟨#[115,112,111,105,108,116]⟩,.string ⟨#[]⟩,.slice none 0 0,.slice none 0 0,.slice none 0 0]:Array Value).toList from rfl,← hW5] at HI2
         go_wp2_with (refine wpList_store_mid rfl 45 (.tmp 109) (.tmp 108) rfl g0 (i*5) #[.string ⟨#[115,112,111,105,108,116]⟩,.string ⟨#[]⟩,.slice none 0 0,.slice none 0 0,.slice none 0 0] (by simp [go_sem]) rfl HTH.out (by kernel_rfl) (by simp [Value.oneCell']) ?_;rw [← hW5];clear hW5)
         go_roundw
         case rel=>exact ⟨i+1,by omega,by go_num,HI2.out⟩
         case measure=>simp [intOf];omega
  ·have hki:¬ (i:Int)<(s2:Int):=by omega
   obtain ⟨S,hS⟩:∃ S,S=Value.slice s1 s2 s3:=⟨_,rfl⟩
   rw [← hS] at HI hBX c3
   go_wp2_with fail
   go_loopw [7] (fun a wr=>∃ m:Nat,m≤g2∧a=.int .i64 (m:Int)∧Hid (SpI lo hi S (.slice g1 g2 g3) (.slice t1 t2 t3) (.slice l1 l2 l3) W0 wr)) (fun a _=>g2-(intOf a).toNat)
   case atStart=>exact ⟨0,Nat.zero_le _,rfl,HI.out⟩
   case round =>
    clear HI
    obtain ⟨m,hm,rfl,HI⟩:=hrel
    obtain ⟨c3,c4,c5,c6⟩:=hBX.out _ HI.out.only
    have hWl:lo≤wr.heap.size:=Nat.le_trans hlo0 HI.out.only.low.size
    obtain ⟨nn,yr,hrw⟩:=HI.out.gr
    have he2:g2=nn:=by
     obtain ⟨_,_,he,_⟩:=own_form hrw.1
     injection he
    subst he2
    by_cases hmn:m<g2
    ·obtain ⟨gb,cb,hbe,hb1,hb2,hb3,-,hbt,hbo⟩:=hrw.el hmn
     injection hbe with hbe _ hbe2
     subst hbe hbe2
     have hmi:(m:Int)<(g2:Int):=by omega
     have HI2:=Lib.hid (HI.out.store hbo hb1 hb2 hWl (by decide) (by decide) (m*3) [.string ⟨#[115,112,111,105,108,116]⟩,.string ⟨#[]⟩,.int .i64 0])
     have HTH:=Lib.hid hbt
     have hm9:m<9223372036854775807:=by unfold maxLen at hb3;omega
     clear hrw hbt hbo HI
     obtain ⟨W5,hW5⟩:∃ W,W=wr.setCells gb (m*3) (#[.string ⟨#[115,112,111,105,108,116]⟩,.string ⟨#[]⟩,.int .i64 0]:Array Value).toList:=⟨_,rfl⟩
     rw [show ([.string ⟨#[115,112,111,105,108,116]⟩,.string ⟨#[]⟩,.int .i64 0]:List Value)=(#[.string ⟨#[115,112,111,105,108,116]⟩,.string ⟨#[]⟩,.int .i64 0]:Array Value).toList from rfl,← hW5] at HI2
     go_wp2_with (refine wpList_store_mid rfl 70 (.tmp 121) (.tmp 120) rfl gb (m*3) #[.string ⟨#[115,112,111,105,108,116]⟩,.string ⟨#[]⟩,.int .i64 0] (by simp [go_sem]) rfl HTH.out (by kernel_rfl) (by simp [Value.oneCell']) ?_;rw [← hW5];clear hW5)
     go_roundw
     case rel=>exact ⟨m+1,by omega,by go_num,HI2.out⟩
     case measure=>simp [intOf];omega
    ·have hmi:¬ (m:Int)<(g2:Int):=by omega
     clear hrw hm
     go_wp2_with fail
     go_loopw [8] (fun a wr=>∃ m:Nat,m≤t2∧a=.int .i64 (m:Int)∧Hid (SpI lo hi S (.slice g1 g2 g3) (.slice t1 t2 t3) (.slice l1 l2 l3) W0 wr)) (fun a _=>t2-(intOf a).toNat)
     case atStart=>exact ⟨0,Nat.zero_le _,rfl,HI.out⟩
     case round =>
      clear HI
      obtain ⟨m,hm,rfl,HI⟩:=hrel
      obtain ⟨c3,c4,c5,c6⟩:=hBX.out _ HI.out.only
      have hWl:lo≤wr.heap.size:=Nat.le_trans hlo0 HI.out.only.low.size
      obtain ⟨nn,yr,hrw⟩:=HI.out.st
      have he2:t2=nn:=by
       obtain ⟨_,_,he,_⟩:=own_form hrw.1
       injection he
      subst he2
      by_cases hmn:m<t2
      ·obtain ⟨gb,cb,hbe,hb1,hb2,hb3,-,hbt,hbo⟩:=hrw.el hmn
       injection hbe with hbe _ hbe2
       subst hbe hbe2
       have hmi:(m:Int)<(t2:Int):=by omega
       have HI2:=Lib.hid (HI.out.store hbo hb1 hb2 hWl (by decide) (by decide) (m*21) [.string ⟨#[115,112,111,105,108,116]⟩,.int .i64 0,.string ⟨#[]⟩,.int .i64 0,.int .i64 0,.slice none 0 0,.int .i64 0,.int .i64 0,.string ⟨#[]⟩,.int .u64 0,.int .u64 0,.int .u64 0,.int .u64 0,.slice none 0 0,.int .i64 0,.int .i64 0,.int .u64 0,.int .u64 0,.int .u64 0,.int .u64 0,.bool false])
       have HTH:=Lib.hid hbt
       have hm9:m<9223372036854775807:=by unfold maxLen at hb3;omega
       clear hrw hbt hbo HI
       obtain ⟨W5,hW5⟩:∃ W,W=wr.setCells gb (m*21) (#[.string ⟨#[115,112,111,105,108,116]⟩,.int .i64 0,.string ⟨#[]⟩,.int .i64 0,.int .i64 0,.slice none 0 0,.int .i64 0,.int .i64 0,.string ⟨#[]⟩,.int .u64 0,.int .u64 0,.int .u64 0,.int .u64 0,.slice none 0 0,.int .i64 0,.int .i64 0,.int .u64 0,.int .u64 0,.int .u64 0,.int .u64 0,.bool false]:Array Value).toList:=⟨_,rfl⟩
       rw [show ([.string ⟨#[115,112,111,105,108,116]⟩,.int .i64 0,.string ⟨#[]⟩,.int .i64 0,.int .i64 0,.slice none 0 0,.int .i64 0,.int .i64 0,.string ⟨#[]⟩,.int .u64 0,.int .u64 0,.int .u64 0,.int .u64 0,.slice none 0 0,.int .i64 0,.int .i64 0,.int .u64 0,.int .u64 0,.int .u64 0,.int .u64 0,.bool false]:List Value)=(#[.string ⟨#[115,112,111,105,108,116]⟩,.int .i64 0,.string ⟨#[]⟩,.int .i64 0,.int .i64 0,.slice none 0 0,.int .i64 0,.int .i64 0,.string ⟨#[]⟩,.int .u64 0,.int .u64 0,.int .u64 0,.int .u64 0,.slice none 0 0,.int .i64 0,.int .i64 0,.int .u64 0,.int .u64 0,.int .u64 0,.int .u64 0,.bool false]:Array Value).toList from rfl,← hW5] at HI2
       go_wp2_with (refine wpList_store_mid rfl 53 (.tmp 133) (.tmp 132) rfl gb (m*21) #[.string ⟨#[115,112,111,105,108,116]⟩,.int .i64 0,.string ⟨#[]⟩,.int .i64 0,.int .i64 0,.slice none 0 0,.int .i64 0,.int .i64 0,.string ⟨#[]⟩,.int .u64 0,.int .u64 0,.int .u64 0,.int .u64 0,.slice none 0 0,.int .i64 0,.int .i64 0,.int .u64 0,.int .u64 0,.int .u64 0,.int .u64 0,.bool false] (by simp [go_sem]) rfl HTH.out (by kernel_rfl) (by simp [Value.oneCell']) ?_;rw [← hW5];clear hW5)
       go_roundw
       case rel=>exact ⟨m+1,by omega,by go_num,HI2.out⟩
       case measure=>simp [intOf];omega
      ·have hmi:¬ (m:Int)<(t2:Int):=by omega
       clear hrw hm
       go_wp2_with fail
       go_loopw [9] (fun a wr=>∃ m:Nat,m≤l2∧a=.int .i64 (m:Int)∧Hid (SpI lo hi S (.slice g1 g2 g3) (.slice t1 t2 t3) (.slice l1 l2 l3) W0 wr)) (fun a _=>l2-(intOf a).toNat)
       case atStart=>exact ⟨0,Nat.zero_le _,rfl,HI.out⟩
       case round =>
        clear HI
        obtain ⟨m,hm,rfl,HI⟩:=hrel
        obtain ⟨c3,c4,c5,c6⟩:=hBX.out _ HI.out.only
        have hWl:lo≤wr.heap.size:=Nat.le_trans hlo0 HI.out.only.low.size
        obtain ⟨nn,yr,hrw⟩:=HI.out.lg
        have he2:l2=nn:=by
         obtain ⟨_,_,he,_⟩:=own_form hrw.1
         injection he
        subst he2
        by_cases hmn:m<l2
        ·obtain ⟨gb,cb,hbe,hb1,hb2,hb3,-,hbt,hbo⟩:=hrw.el hmn
         injection hbe with hbe _ hbe2
         subst hbe hbe2
         have hmi:(m:Int)<(l2:Int):=by omega
         have HI2:=Lib.hid (HI.out.store hbo hb1 hb2 hWl (by decide) (by decide) (m*4) [.string ⟨#[115,112,111,105,108,116]⟩,.int .i64 0,.string ⟨#[]⟩,.int .i64 0])
         have HTH:=Lib.hid hbt
         have hm9:m<9223372036854775807:=by unfold maxLen at hb3;omega
         clear hrw hbt hbo HI
         obtain ⟨W5,hW5⟩:∃ W,W=wr.setCells gb (m*4) (#[.string ⟨#[115,112,111,105,108,116]⟩,.int .i64 0,.string ⟨#[]⟩,.int .i64 0]:Array Value).toList:=⟨_,rfl⟩
         rw [show ([.string ⟨#[115,112,111,105,108,116]⟩,.int .i64 0,.string ⟨#[]⟩,.int .i64 0]:List Value)=(#[.string ⟨#[115,112,111,105,108,116]⟩,.int .i64 0,.string ⟨#[]⟩,.int .i64 0]:Array Value).toList from rfl,← hW5] at HI2
         go_wp2_with (refine wpList_store_mid rfl 72 (.tmp 145) (.tmp 144) rfl gb (m*4) #[.string ⟨#[115,112,111,105,108,116]⟩,.int .i64 0,.string ⟨#[]⟩,.int .i64 0] (by simp [go_sem]) rfl HTH.out (by kernel_rfl) (by simp [Value.oneCell']) ?_;rw [← hW5];clear hW5)
         go_roundw
         case rel=>exact ⟨m+1,by omega,by go_num,HI2.out⟩
         case measure=>simp [intOf];omega
        ·have hmi:¬ (m:Int)<(l2:Int):=by omega
         clear hrw hm
         go_wp2_with fail
         go_end0
         exact ⟨rfl,(OnlyIn.of_below HB0.out hlo).trans HI.out.only⟩
end Go.Proofs.YtcgclpcocdappaaDoor
namespace Go.Proofs.YtcgclpcocdappaaDoor
open Go.RowKit
section
variable {P:Program}
theorem run_copy_rowK (w:World) (dT sT ty elem:TypeId) (k:Nat) (g o dLen dCap:Nat) (a:Addr) (sLen sCap m:Nat) (cur:Array Value) (t:TypeId) (cs:List Value)
  (hu:P.underlying dT=some (.slice elem)) (hs:(P.info? elem).map (·.size)=some k)
  (hg:w.heap[g]?=some (.cells cur t (0,0))) (hm:m=Nat.min sLen dLen) (hn:cs.length=m*k)
  (hsrc:∀ j v,cs[j]?=some v→w.cell? (a.add j)=some v) (hfit:o+cs.length≤cur.size) (h1:∀ v∈cs,v.oneCell'=true) :
  (Builtin.copy_ #[dT,sT] ty #[.slice (some ⟨g,o,none⟩) dLen dCap,.slice (some a) sLen sCap]).run P w =
   .ok (goInt m) (w.setRow g (cur.toList.take o++cs++cur.toList.drop (o+cs.length)).toArray):=by
 have hl:=run_loadCells_list (P:=P) w a cs hsrc
 have hst:=run_storeCells_at P g o t cs 0 cur w hg (by simpa using hfit) h1
 cases hq:P.info? elem with
 | none=>simp [hq] at hs
 | some i =>
  have hi:i.size=k:=by simpa [hq] using hs
  simp [Builtin.copy_,run_underlying hu,Builtin.lenOf,Builtin.firstCells,sizeOf,typeInfo,hq,hi,← hm,← hn,hl,hst]
theorem grown_setRow {w:World} {g:Nat} (cs:Array Value):w.grownBy (w.setRow g cs) (some g) :=
 ⟨rfl,rfl,rfl,by simp [World.setRow],fun k hk hne=>setRow_other w g k cs (by intro e;exact hne (by rw [e]))⟩
theorem grown_drew {w w':World} {r:Option Nat} (h:w.drew.grownBy w' r):w.grownBy w' r:=⟨h.os,h.tape,h.output,h.size,h.block⟩
theorem wp_copyK {o:Oper} {a:Act} {w:World} {K:Act→World→Prop} {Q:Exit→Act→World→Prop} (d s:Operand) (dT sT:TypeId)
  (ho:o.op=.call { callee:=.builtin .copy,args:=#[d,s],argTypes:=#[dT,sT] }) (elem:TypeId) (k:Nat) (hu:P.underlying dT=some (.slice elem)) (hsz:(P.info? elem).map (·.size)=some k)
  (g off dLen dCap:Nat) (ad:Addr) (sLen sCap m:Nat) (hd:a.eval d=.slice (some ⟨g,off,none⟩) dLen dCap) (hs:a.eval s=.slice (some ad) sLen sCap)
  (cur:List Value) (t:TypeId) (hg:w.heap[g]?=some (.cells cur.toArray t (0,0))) (cs:List Value) (hm:m=Nat.min sLen dLen) (hn:cs.length=m*k)
  (hsrc:∀ j v,cs[j]?=some v→w.cell? (ad.add j)=some v) (hfit:off+cs.length≤cur.length) (h1:∀ v∈cs,v.oneCell'=true)
  (h:∀ w',Hid (w'.heap[g]?=some (.cells (splice cur off cs).toArray t (0,0)))→w.grownBy w' (some g)→K (a.put o.dst (goInt m)) w'):o.wp P a w K Q:=by
 have hrun:=run_copy_rowK (P:=P) w dT sT o.type elem k g off dLen dCap ad sLen sCap m cur.toArray t cs hu hsz hg hm hn hsrc (by simpa using hfit) h1
 unfold Oper.wp
 simp [execOp,ho,resolve,invoke,builtin,hd,hs,hrun,Result.andThen]
 exact h _ (show _=_ by simpa [splice] using setRow_heap w g _ _ t _ hg) (grown_setRow _)
theorem wpList_copyK {w:World} {ops:Array Oper} {rest:List Oper} {o:Oper} {a:Act} {Q:Exit→Act→World→Prop} (hgd:o.guard=none) (d s:Operand) (dT sT:TypeId)
  (ho:o.op=.call { callee:=.builtin .copy,args:=#[d,s],argTypes:=#[dT,sT] }) (elem:TypeId) (k:Nat) (hu:P.underlying dT=some (.slice elem)) (hsz:(P.info? elem).map (·.size)=some k)
  (g off dLen dCap:Nat) (ad:Addr) (sLen sCap m:Nat) (hd:a.eval d=.slice (some ⟨g,off,none⟩) dLen dCap) (hs:a.eval s=.slice (some ad) sLen sCap)
  (cur:List Value) (t:TypeId) (hg:w.heap[g]?=some (.cells cur.toArray t (0,0))) (cs:List Value) (hm:m=Nat.min sLen dLen) (hn:cs.length=m*k)
  (hsrc:∀ j v,cs[j]?=some v→w.cell? (ad.add j)=some v) (hfit:off+cs.length≤cur.length) (h1:∀ v∈cs,v.oneCell'=true)
  (h:∀ w',Hid (w'.heap[g]?=some (.cells (splice cur off cs).toArray t (0,0)))→w.grownBy w' (some g)→wpList P ops Q rest (a.put o.dst (goInt m)) w'):wpList P ops Q (o :: rest) a w :=
 wpList_plain hgd fun _ hK=>wp_copyK d s dT sT ho elem k hu hsz g off dLen dCap ad sLen sCap m hd hs cur t hg cs hm hn hsrc hfit h1 (fun w' h1 h2=>hK _ _ (h w' h1 h2))
theorem step_copyK {ops:Array Oper} {o:Oper} {a:Act} {w:World} {K:Act→World→Prop} {Q:Exit→Act→World→Prop} {E:Prop} (hgd:o.guard=none) (d s:Operand) (dT sT:TypeId)
  (ho:o.op=.call { callee:=.builtin .copy,args:=#[d,s],argTypes:=#[dT,sT] }) (elem:TypeId) (k:Nat) (hu:P.underlying dT=some (.slice elem)) (hsz:(P.info? elem).map (·.size)=some k)
  (g off dLen dCap:Nat) (ad:Addr) (sLen sCap m:Nat) (hd:a.eval d=.slice (some ⟨g,off,none⟩) dLen dCap) (hs:a.eval s=.slice (some ad) sLen sCap)
  (cur:List Value) (t:TypeId) (hg:w.heap[g]?=some (.cells cur.toArray t (0,0))) (cs:List Value) (hm:m=Nat.min sLen dLen) (hn:cs.length=m*k)
  (hsrc:∀ j v,cs[j]?=some v→w.cell? (ad.add j)=some v) (hfit:off+cs.length≤cur.length) (h1:∀ v∈cs,v.oneCell'=true)
  (h:∀ w',Hid (w'.heap[g]?=some (.cells (splice cur off cs).toArray t (0,0)))→w.grownBy w' (some g)→K (a.put o.dst (goInt m)) w') :
  if Region.wanted o (yielded ops a.tmps)=true then Oper.wp P o a w K Q else E:=by
 have hw:Region.wanted o (yielded ops a.tmps)=true:=by simp [Region.wanted,hgd]
 rw [if_pos hw]
 exact wp_copyK d s dT sT ho elem k hu hsz g off dLen dCap ad sLen sCap m hd hs cur t hg cs hm hn hsrc hfit h1 h
end
/-! ### what becomes of a row -/
theorem take_shift {cur xs N:List Value} {a b c:Nat} (hx:cur.take c=xs) (ha:a≤c) (hN:N.length=b) (hl:c+b≤cur.length) :
  (splice (splice cur (a+b) (xs.drop a)) a N).take (c+b)=xs.take a++N++xs.drop a:=by
 have hxl:xs.length=c:=by rw [← hx,List.length_take];omega
 have e1:splice cur (a+b) (xs.drop a)=cur.take (a+b)++(xs.drop a++cur.drop (c+b)):=by
  unfold splice
  rw [List.length_drop,hxl,show a+b+(c-a)=c+b by omega]
 have e2:(splice cur (a+b) (xs.drop a)).take a=xs.take a:=by
  rw [e1,List.take_append_of_le_length (by rw [List.length_take];omega),List.take_take,Nat.min_eq_left (by omega),← hx,List.take_take,Nat.min_eq_left ha]
 have e3:(splice cur (a+b) (xs.drop a)).drop (a+N.length)=xs.drop a++cur.drop (c+b):=by
  rw [e1,hN,List.drop_append_of_le_length (by rw [List.length_take];omega),List.drop_eq_nil_of_le (by rw [List.length_take];omega),List.nil_append]
 have e4:splice (splice cur (a+b) (xs.drop a)) a N=(xs.take a++N++xs.drop a)++cur.drop (c+b):=by
  show _++(N++_)=_
  rw [e2,e3]
  simp
 rw [e4,List.take_append_of_le_length (by simp;omega),List.take_of_length_le (by simp;omega)]
theorem take_grow {ROW X1 N X2:List Value} {a b c:Nat} (h1:ROW.take a=X1) (ha:X1.length=a) (hN:N.length=b) (h2:X2.length=c) :
  (splice (splice ROW a N) (a+b) X2).take (a+b+c)=X1++N++X2:=by
 have e1:splice ROW a N=(X1++N)++ROW.drop (a+b):=by
  show _++(N++_)=_
  rw [h1,hN];simp
 have e2:splice (splice ROW a N) (a+b) X2=(X1++N++X2)++(ROW.drop (a+b)).drop c:=by
  show _++(X2++_)=_
  rw [e1,h2,List.take_append_of_le_length (by simp;omega),List.take_of_length_le (by simp;omega),List.drop_append,List.drop_eq_nil_of_le (by simp;omega),List.nil_append]
  simp only [List.length_append,ha,hN]
  rw [show a+b+c-(a+b)=c by omega]
  simp
 rw [e2,List.take_append_of_le_length (by simp;omega),List.take_of_length_le (by simp;omega)]
theorem own_of_row {w:World} {base g n cap sz:Nat} {E:TypeId} {cur:List Value} {xs:List Value} (hg:w.heap[g]?=some (.cells cur.toArray E (0,0))) (hb:base≤g) (hn:n≤cap) (hm:cap≤maxLen) (hl:cur.length=cap*sz) (hx:cur.take (n*sz)=xs) :
  w.ownsRow base E sz (.slice (some ⟨g,0,none⟩) n cap) n xs:=by
 refine ⟨?_,.inr ⟨g,cap,cur.toArray,rfl,hb,hg,hn,hm,by simpa using hl,by simpa using hx⟩⟩
 rw [← hx,List.length_take,hl]
 exact Nat.min_eq_left (Nat.mul_le_mul_right _ hn)
theorem grown_fresh {w W w':World} {k:Nat} {r:Option Nat} (h:w.grownBy W r) (h2:W.grownBy w' (some k)) (hk:w.heap.size≤k):w.grownBy w' r :=
 ⟨h2.os.trans h.os,h2.tape.trans h.tape,h2.output.trans h.output,Nat.le_trans h.size h2.size,fun j hj hne=>(h2.block j (Nat.lt_of_lt_of_le hj h.size) (by intro e;injection e with e;omega)).trans (h.block j hj hne)⟩
theorem heap_lt {w:World} {g:Nat} {o:Obj} (h:w.heap[g]?=some o):g<w.heap.size:=(Array.getElem?_eq_some_iff.1 h).1
theorem shape_of {w:World} {g:Nat} {cs:Array Value} {t:TypeId} (h:w.heap[g]?=some (.cells cs t (0,0))):w.shape? g=some (t,cs.size):=by simp [World.shape?,h]
end Go.Proofs.YtcgclpcocdappaaDoor
