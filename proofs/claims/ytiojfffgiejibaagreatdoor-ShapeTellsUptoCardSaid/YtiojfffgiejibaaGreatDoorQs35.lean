/-
  The page's Check of a tenant, by its contract. A set that was made and is destroyed: the content is as it was (plain law). What snapshots, clones and rollbacks that are told are; sizes; the plain law of clones.
-/
import Derived.Test.YtiojfffgiejibaaGreatDoorQsM1
import Derived.WalkKit
import Derived.WalkSpells
import Derived.Below
import Derived.Laws.OwnMore
import Derived.Deep.AppendLies
import Derived.Deep.Draws
import Derived.Laws.Rows
import Derived.Maps.AppendAt
import Derived.RegionTactic
import Derived.OwnWalk
import Derived.Deep.QuietTactic
import Derived.BigQuiet
import Derived.Lib.Hide
import Derived.Laws.CopyOwn
import Derived.IntWalk
import Derived.Test.YtiojfffgiejibaaGreatDoorRows
import Derived.Handy
import Derived.Deep.Quiet
import Derived.Orders
import Derived.Lib.SplitLaws
import Derived.Lib.LastIndexByte
import Derived.Lib.Strings
import Derived.ShutString
import Derived.Sort.Walk0
import Derived.Sort.KeysCollected
import Derived.Shelf.Strings.Search1
import Derived.Shelf.Strings.Search2
import Derived.Shelf.Strings.Search3
import Derived.Shelf.Strings.Cut
import Derived.Shelf.Strings.Count
import Derived.Shelf.LaysM
import Derived.Shelf.Strings.Shaped
import Derived.Shelf.Strings.LastIndex
import Derived.Shelf.Strings.Split
import Derived.Shelf.Strings.SplitShaped
import Derived.Shelf.Unicode.Decode
import Derived.Shelf.Strings.RuneCount
import Derived.Shelf.Strings.Explode
import Derived.Shelf.Unicode.DecodeSlow
import Derived.Shelf.Slices.Turned
import Derived.Test.YtiojfffgiejibaaGreatDoorProg
import Derived.Laws.BytesString
import Derived.Laws.IdiomStrings
import Derived.Lib.ConvBytes
import Derived.Deep.MidRow
import Derived.ProofKit
import Derived.OpenShut
import Derived.ChangeOld
import Derived.Carry
import Derived.SizedLaws
import Derived.JoinedCond
import Derived.Deep.CondSized
import Derived.Deep.Slices
import Derived.Deep.Fields
import Derived.Lib.SmallJoins
import Derived.Deep.RegionLaw
import Derived.Lib.AppendZeros
import Derived.Lib.Overlaps
import Derived.Lib.AppendZerosOnto
import Derived.Deep.DeepCutAuto
import Derived.Great.BuildSlice
import Derived.Test.YtiojfffgiejibaaGreatDoorQ0
import Derived.Test.YtiojfffgiejibaaGreatDoorQs1
import Derived.Test.YtiojfffgiejibaaGreatDoorQs2
import Derived.Test.YtiojfffgiejibaaGreatDoorQs3
import Derived.Test.YtiojfffgiejibaaGreatDoorQs4
import Derived.Test.YtiojfffgiejibaaGreatDoorQs5
import Derived.Test.YtiojfffgiejibaaGreatDoorQs7
import Derived.Test.YtiojfffgiejibaaGreatDoorQs10
import Derived.Test.YtiojfffgiejibaaGreatDoorQs11
import Derived.Test.YtiojfffgiejibaaGreatDoorQs12
import Derived.Test.YtiojfffgiejibaaGreatDoorQs14
import Derived.Test.YtiojfffgiejibaaGreatDoorQs16
import Derived.Test.YtiojfffgiejibaaGreatDoorQs19
import Derived.Test.YtiojfffgiejibaaGreatDoorQs20
import Derived.Test.YtiojfffgiejibaaGreatDoorQs21
import Derived.Test.YtiojfffgiejibaaGreatDoorQs25
import Derived.Test.YtiojfffgiejibaaGreatDoorQs27
import Derived.Test.YtiojfffgiejibaaGreatDoorQs28
import Derived.Test.YtiojfffgiejibaaGreatDoorQs29
import Derived.Test.YtiojfffgiejibaaGreatDoorQs34
import Derived.Test.YtiojfffgiejibaaGreatDoorQs36
namespace Go.Proofs.YtiojfffgiejibaaGreatDoor
open Go.RowKit
theorem leq_of_lt {x y:BS} (h:Op.bytesLess y x=true):(Op.bytesLess x y || x == y)=false:=by
 rw [Bool.or_eq_false_iff]
 exact ⟨bl_asym _ _ h,by simpa using (bl_ne h).symm⟩
theorem leq_of_not {x y:BS} (h:Op.bytesLess y x=false):(Op.bytesLess x y || x == y)=true:=by
 by_cases e:x=y
 ·simp [e]
 ·rw [bl_tri y x h (fun h=>e h.symm)];rfl
set_option maxRecDepth 100000 in
set_option maxHeartbeats 8000000 in
theorem rcheck14_any (t:TenR) (w:World) (B:Nat) (hr:t.rd w B) (hB:B≤w.heap.size) (hz:t.sz) :
  Calls Tryz.prog 60 #[t.val] w fun e w'=>e=.returned (.int .i64 (tenE t))∧Below w.heap.size w w':=by
 obtain ⟨nm,quota,next,⟨s1,s2,s3,sl⟩,⟨g1,g2,g3,gl⟩,⟨t1,t2,t3,tl⟩,⟨l1,l2,l3,ll⟩⟩:=t
 show Calls Tryz.prog 60 #[.agg #[.string ⟨nm.toArray⟩,.int .i64 quota,.int .i64 next,.slice s1 s2 s3,.slice g1 g2 g3,.slice t1 t2 t3,.slice l1 l2 l3]] w _
 have hb1:=(Below.refl w.heap.size w).alloc (Nat.le_refl _) (.cells #[.string ⟨nm.toArray⟩,.int .i64 quota,.int .i64 next,.slice s1 s2 s3,.slice g1 g2 g3,.slice t1 t2 t3,.slice l1 l2 l3] 27)
 have kT:=Blk.new w 27 #[.string ⟨nm.toArray⟩,.int .i64 quota,.int .i64 next,.slice s1 s2 s3,.slice g1 g2 g3,.slice t1 t2 t3,.slice l1 l2 l3]
 obtain ⟨W1,hW1⟩:∃ W,W=w.alloc (.cells #[.string ⟨nm.toArray⟩,.int .i64 quota,.int .i64 next,.slice s1 s2 s3,.slice g1 g2 g3,.slice t1 t2 t3,.slice l1 l2 l3] 27):=⟨_,rfl⟩
 have hsz1:W1.heap.size=w.heap.size+1:=tZ32
 rw [← hW1] at hb1 kT
 have hT:=Lib.hid (fun (W':World) (hB':Below W1.heap.size W1 W')=>(⟨(kT.below hB' tZ1).cell 0,(kT.below hB' tZ1).cell 1,(kT.below hB' tZ1).cell 2,(kT.below hB' tZ1).cell 3,(kT.below hB' tZ1).cell 4,(kT.below hB' tZ1).cell 5,(kT.below hB' tZ1).cell 6⟩:W'.cell? ⟨w.heap.size,0,none⟩=some (.string ⟨nm.toArray⟩)∧W'.cell? ⟨w.heap.size,1,none⟩=some (.int .i64 quota)∧W'.cell? ⟨w.heap.size,2,none⟩=some (.int .i64 next)∧W'.cell? ⟨w.heap.size,3,none⟩=some (.slice s1 s2 s3)∧W'.cell? ⟨w.heap.size,4,none⟩=some (.slice g1 g2 g3)∧W'.cell? ⟨w.heap.size,5,none⟩=some (.slice t1 t2 t3)∧W'.cell? ⟨w.heap.size,6,none⟩=some (.slice l1 l2 l3)))
 have hrw:Hid (∀ W',Below W1.heap.size W1 W'→TenR.rd W' B ⟨nm,quota,next,⟨s1,s2,s3,sl⟩,⟨g1,g2,g3,gl⟩,⟨t1,t2,t3,tl⟩,⟨l1,l2,l3,ll⟩⟩):=fun W' hb=>hr.below ((hb1.trans (hb.mono tZ1)).mono hB)
 have hN:Hid (∀ W,Below W1.heap.size W1 W→Calls Tryz.prog 79 #[.string ⟨nm.toArray⟩] W fun e W'=>e=.returned (.bool (nameB nm))∧Below W.heap.size W W'):=fun W _=>refNameB_any nm W hz.nm
 have hQ:Hid (∀ W,Below W1.heap.size W1 W→Calls Tryz.prog 113 #[.int .i64 quota,.int .i64 0] W fun e W'=>e=.returned (.bool (amt quota 0))∧Below W.heap.size W W'):=fun W _=>refAmountB_any quota 0 W
 have hX:Hid (∀ W,Below W1.heap.size W1 W→Calls Tryz.prog 113 #[.int .i64 next,.int .i64 1] W fun e W'=>e=.returned (.bool (amt next 1))∧Below W.heap.size W W'):=fun W _=>refAmountB_any next 1 W
 have hFi:Hid (∀ W,Below W1.heap.size W1 W→Calls Tryz.prog 33 #[.agg #[.string ⟨nm.toArray⟩,.int .i64 quota,.int .i64 next,.slice s1 s2 s3,.slice g1 g2 g3,.slice t1 t2 t3,.slice l1 l2 l3],.string ⟨#[]⟩] W fun e W'=>e=.returned (.int .i64 (findS sl []))∧Below W.heap.size W W'):=fun W hb =>
  refFind_any _ _ _ _ _ _ sl s2 (hrw.out W hb).sets.1 s1 s3 [] W B (hrw.out W hb).sets.2.2 tZ20 tZ17
 have hG:Hid (∀ W,Below W1.heap.size W1 W→Calls Tryz.prog 114 #[.slice g1 g2 g3] W fun e W'=>e=.returned (.int .i64 (if grantsB gl=true then 0 else 9))∧Below W.heap.size W W'):=fun W hb =>
  refGrants_any gl g2 (hrw.out W hb).grants.1 g1 g3 W B (hrw.out W hb).grants.2.2 tZ20 tZ64 hz.eachG
 have HSL:=Lib.hid (show s2=sl.length from hr.sets.1)
 have HTL:=Lib.hid (show t2=tl.length from hr.stages.1)
 have HLL:=Lib.hid (show l2=ll.length from hr.log.1)
 have HSZ:=Lib.hid hz
 have HZR:Hid ((findS sl []<0→(sl.any fun x=>x.path == [])=false)∧(0≤findS sl []→(sl.any fun x=>x.path == [])=true)):=by
  show _∧_
  rw [← firstI_any (fun y:SetR=>y.path == []) sl]
  exact ⟨fun h=>decide_eq_false (by show ¬ (0:Int)≤findS sl [];omega),fun h=>decide_eq_true h⟩
 have HV:Hid (tenE ⟨nm,quota,next,⟨s1,s2,s3,sl⟩,⟨g1,g2,g3,gl⟩,⟨t1,t2,t3,tl⟩,⟨l1,l2,l3,ll⟩⟩=if (nameB nm && (amt quota 0 && (amt next 1 && (decide (s2≤32) && ((sl.any fun x=>x.path == []) && (grantsB gl && (decide (t2≤4) && (decide (l2≤16) && (setsFrom sl none sl && (stagesFrom none tl && ll.all entryB))))))))))=true then 0 else 9):=by
  show _=_
  rw [HSL.out,HTL.out,HLL.out]
  unfold tenE tenB logB setsB stagesB
  simp only
  generalize nameB nm=a1
  generalize amt quota 0=a2
  generalize amt next 1=a3
  generalize decide (sl.length≤32)=a4
  generalize (sl.any fun x=>x.path == [])=a5
  generalize setsFrom sl none sl=a6
  generalize grantsB gl=a7
  generalize decide (tl.length≤4)=a8
  generalize stagesFrom none tl=a9
  generalize decide (ll.length≤16)=b1
  generalize ll.all entryB=b2
  cases a1 <;> cases a2 <;> cases a3 <;> cases a4 <;> cases a5 <;> (try rfl) <;> cases a6 <;> cases a7 <;> cases a8 <;> cases a9 <;> cases b1 <;> cases b2 <;> rfl
 obtain ⟨E,hE⟩:∃ V,V=tenE ⟨nm,quota,next,⟨s1,s2,s3,sl⟩,⟨g1,g2,g3,gl⟩,⟨t1,t2,t3,tl⟩,⟨l1,l2,l3,ll⟩⟩:=⟨_,rfl⟩
 obtain ⟨bN,hbN⟩:∃ V,V=nameB nm:=⟨_,rfl⟩
 obtain ⟨bQ,hbQ⟩:∃ V,V=amt quota 0:=⟨_,rfl⟩
 obtain ⟨bX,hbX⟩:∃ V,V=amt next 1:=⟨_,rfl⟩
 obtain ⟨bG,hbG⟩:∃ V,V=grantsB gl:=⟨_,rfl⟩
 obtain ⟨z,hz0⟩:∃ V,V=findS sl []:=⟨_,rfl⟩
 rw [← hE] at HV ⊢
 rw [← hbN] at HV hN
 rw [← hbQ] at HV hQ
 rw [← hbX] at HV hX
 rw [← hbG] at HV hG
 rw [← hz0] at hFi HZR
 have HB1:=Lib.hid hb1
 have HSZ1:=Lib.hid hsz1
 have hW0:=Below.refl W1.heap.size W1
 have hn1:s2≤1000000000000:=hz.sets
 have hn2:t2≤1000000000000:=hz.stages
 have hn3:l2≤1000000000000:=hz.log
 clear hE hbN hbQ hbX hbG hz0 hb1 hsz1 kT hr hz
 go_enter Tryz.func60,Tryz.ntmps60
 have hc:=hN.out _ hW0
 cases bN with
 | false =>
  exact mZ122
 | true =>
  go_wp2_with fail
  rw [← hW1]
  refine hc.mono ?_
  clear hc
  rintro e w11 ⟨rfl,hbw11⟩
  have hWw11:=hW0.trans (hbw11.mono hW0.size)
  clear hbw11
  obtain ⟨c0,c1,c2,c3,c4,c5,c6⟩:=hT.out _ hWw11
  have hc:=hQ.out _ hWw11
  cases bQ with
  | false =>
   exact mZ123
  | true =>
   go_wp2_with fail
   refine hc.mono ?_
   clear hc
   rintro e w12 ⟨rfl,hbw12⟩
   have hWw12:=hWw11.trans (hbw12.mono hWw11.size)
   clear hbw12
   obtain ⟨c0,c1,c2,c3,c4,c5,c6⟩:=hT.out _ hWw12
   have hc:=hX.out _ hWw12
   cases bX with
   | false =>
    exact mZ124
   | true =>
    go_wp2_with fail
    refine hc.mono ?_
    clear hc
    rintro e w13 ⟨rfl,hbw13⟩
    have hWw13:=hWw12.trans (hbw13.mono hWw12.size)
    clear hbw13
    obtain ⟨c0,c1,c2,c3,c4,c5,c6⟩:=hT.out _ hWw13
    by_cases hn32:32<s2
    ·have hi:(32:Int)<(s2:Int):=tZ1
     have HB:Hid (E=9):=by show _=_;rw [HV.out,decide_eq_false (show ¬ s2≤32 by omega)];simp
     exact mZ52
    have hi:¬ (32:Int)<(s2:Int):=tZ1
    have hc:=hFi.out _ hWw13
    go_wp2_with fail
    refine hc.mono ?_
    clear hc
    rintro e w8 ⟨rfl,hb8⟩
    have hW8:=hWw13.trans (hb8.mono hWw13.size)
    clear hb8 c0 c1 c2 c3 c4 c5 c6
    obtain ⟨c0,c1,c2,c3,c4,c5,c6⟩:=hT.out _ hW8
    by_cases hz:z<0
    ·have HB:Hid (E=9):=by show _=_;rw [HV.out,(HZR.out.1 hz)];simp
     go_wp2_with fail
     go_ret
     exact ⟨by rw [HB.out];rfl,HB1.out.trans (hW8.mono tZ13)⟩
    have HV:Hid (E=if (bG && ((decide (t2≤4) && (decide (l2≤16) && (setsFrom sl none sl && (stagesFrom none tl && ll.all entryB))))))=true then 0 else 9):=by
     show _=_
     rw [HV.out,HZR.out.2 tZ1,decide_eq_true (show s2≤32 by omega)]
     simp only [Bool.true_and]
    clear HZR
    have hc:=hG.out _ hW8
    cases bG with
    | false =>
     rw [if_neg tZ4] at hc
     go_wp2_with fail
     refine hc.mono ?_
     clear hc
     rintro e w11 ⟨rfl,hbw11⟩
     have hWw11:=hW8.trans (hbw11.mono hW8.size)
     clear hbw11 c0 c1 c2 c3 c4 c5 c6
     exact mZ121
    | true =>
     rw [if_pos rfl] at hc
     go_wp2_with fail
     refine hc.mono ?_
     clear hc
     rintro e w11 ⟨rfl,hbw11⟩
     have hWw11:=hW8.trans (hbw11.mono hW8.size)
     clear hbw11 c0 c1 c2 c3 c4 c5 c6
     obtain ⟨c0,c1,c2,c3,c4,c5,c6⟩:=hT.out _ hWw11
     by_cases ht:4<t2
     ·have hi2:(4:Int)<(t2:Int):=tZ1
      have HB:Hid (E=9):=by show _=_;rw [HV.out,decide_eq_false (show ¬ t2≤4 by omega)];simp
      exact mZ48
     have hi2:¬ (4:Int)<(t2:Int):=tZ1
     by_cases hlg:16<l2
     ·have hi3:(16:Int)<(l2:Int):=tZ1
      have HB:Hid (E=9):=by show _=_;rw [HV.out,decide_eq_false (show ¬ l2≤16 by omega)];simp
      exact mZ48
     have hi3:¬ (16:Int)<(l2:Int):=tZ1
     have HE:Hid (E=if (setsFrom sl none sl && (stagesFrom none tl && ll.all entryB))=true then 0 else 9):=by
      show _=_
      rw [HV.out,decide_eq_true (show t2≤4 by omega),decide_eq_true (show l2≤16 by omega)]
      simp only [Bool.true_and]
     have hWq:=hWw11
     clear HV
     go_wp2_with fail
     go_loopw [3] (fun j wr=>∃ k:Nat,k≤s2∧j=.int .i64 (k:Int)∧Hid (setsFrom sl none sl=setsFrom sl (prevT sl k) (sl.drop k))∧Below W1.heap.size W1 wr) (fun j _=>s2-(intOf j).toNat)
     case atStart=>exact ⟨0,Nat.zero_le _,rfl,rfl,hWq⟩
     case round =>
      clear hWq c0 c1 c2 c3 c4 c5 c6
      obtain ⟨k,hk,rfl,hok,hWr⟩:=hrel
      have hr3:=hrw.out _ hWr
      obtain ⟨c0,c1,c2,c3,c4,c5,c6⟩:=hT.out _ hWr
      by_cases hlt:k<s2
      ·obtain ⟨ad,rfl,hadB,-⟩:=set_at hr3.sets.2.2 HSL.out hlt
       have hki:(k:Int)<(s2:Int):=tZ1
       have hkl:k<sl.length:=tZ98
       obtain ⟨x,hx⟩:∃ x,x=sl[k]'hkl:=⟨_,rfl⟩
       have hxm:x∈sl:=tZ12
       have hxs:=HSZ.out.eachS x hxm
       have hdr:=List.drop_eq_getElem_cons hkl
       rw [← hx] at hdr
       have hQ5:Hid (∀ W,Below W1.heap.size W1 W→W.cell? (ad.add (k*5))=some (.string ⟨x.path.toArray⟩)∧W.cell? ⟨(ad.add (k*5)).block,(ad.add (k*5)).off+1,none⟩=some (.string ⟨x.org.toArray⟩)∧W.cell? ⟨(ad.add (k*5)).block,(ad.add (k*5)).off+2,none⟩=some (.slice x.body.A x.body.n x.body.c)∧W.cell? ⟨(ad.add (k*5)).block,(ad.add (k*5)).off+3,none⟩=some (.slice x.snaps.A x.snaps.n x.snaps.c)∧W.cell? ⟨(ad.add (k*5)).block,(ad.add (k*5)).off+4,none⟩=some (.slice x.own.A x.own.n x.own.c)):=by
        show ∀ W,_→_
        intro W hb
        obtain ⟨ad2,e2,-,hce⟩:=set_at (hrw.out _ hb).sets.2.2 HSL.out hlt
        injection e2 with e2
        subst e2
        rw [← hx] at hce
        exact hce
       have hSp:Hid (∀ W,Below W1.heap.size W1 W→∀ yp,(∃ h:k-1<sl.length,yp=(sl[k-1]'h).path)→W.cell? (ad.add ((k-1)*5))=some (.string ⟨yp.toArray⟩)):=by
        show ∀ W,_→_
        intro W hb
        rintro yp ⟨h,rfl⟩
        obtain ⟨ad2,e2,-,p1,-⟩:=set_at (hrw.out _ hb).sets.2.2 HSL.out (i:=k-1) (show k-1<s2 by omega)
        injection e2 with e2
        subst e2
        exact p1
       have hbad:Hid ((setB sl x=false∨(∃ y,prevT sl k=some y∧Op.bytesLess y x.path=false))→E=9):=by
        show _→_
        intro h
        rw [HE.out,hok.out,hdr,setsFrom_cons]
        rcases h with h | ⟨y,hy,h⟩
        ·rw [h];simp
        ·rw [hy];simp only [h];simp
       have hgood:Hid (setB sl x=true→(∀ y,prevT sl k=some y→Op.bytesLess y x.path=true)→Hid (setsFrom sl none sl=setsFrom sl (prevT sl (k+1)) (sl.drop (k+1)))):=by
        show _→_→_
        intro h1 h2
        show _=_
        rw [hok.out,hdr,setsFrom_cons]
        have hp:prevT sl (k+1)=some x.path:=by
         show (sl[k]?).map _=_
         rw [List.getElem?_eq_getElem hkl,← hx]
         rfl
        rw [hp,h1]
        cases hq:prevT sl k with
        | none=>rfl
        | some y=>simp only [h2 y hq];rfl
       have hprev:(decide ((0:Int)<(k:Int))=false∧decide (0<k)=false∧Hid (∀ y,prevT sl k=some y→Op.bytesLess y x.path=true))∨(decide ((0:Int)<(k:Int))=true∧decide (0<k)=true∧(1:Int)≤(k:Int)∧(k:Int)-1<(s2:Int)∧IntKind.i64.wrap ((k:Int)-1)=(k:Int)-1∧((k:Int)-1).toNat=k-1∧∃ yp,Hid ((Op.bytesLess yp x.path=true→∀ y,prevT sl k=some y→Op.bytesLess y x.path=true)∧(Op.bytesLess yp x.path=false→∃ y,prevT sl k=some y∧Op.bytesLess y x.path=false))∧Hid (∃ h:k-1<sl.length,yp=(sl[k-1]'h).path)):=by
        rcases Nat.eq_zero_or_pos k with h0 | h0
        ·exact mZ70
        ·have hk1l:k-1<sl.length:=tZ1
         have hpv:prevT sl k=some (sl[k-1]'hk1l).path:=by
          obtain ⟨j,rfl⟩:∃ j,k=j+1:=⟨k-1,by omega⟩
          show (sl[j]?).map _=_
          have hj:j<sl.length:=tZ92
          rw [List.getElem?_eq_getElem hj]
          rfl
         refine .inr ⟨by simp;omega,by simp;omega,by omega,by omega,IntWalk.i64_in _ tZ1,by omega,(sl[k-1]'hk1l).path,?_,⟨hk1l,rfl⟩⟩
         exact mZ68
       have hCl:Hid (∀ W,Below W1.heap.size W1 W→Calls Tryz.prog 115 #[.agg #[.string ⟨nm.toArray⟩,.int .i64 quota,.int .i64 next,.slice (some ad) s2 s3,.slice g1 g2 g3,.slice t1 t2 t3,.slice l1 l2 l3],.agg #[.string ⟨x.path.toArray⟩,.string ⟨x.org.toArray⟩,.slice x.body.A x.body.n x.body.c,.slice x.snaps.A x.snaps.n x.snaps.c,.slice x.own.A x.own.n x.own.c]] W fun e W'=>e=.returned (.bool (setB sl x))∧Below W.heap.size W W'):=fun W hb=>by
        have r:=hrw.out _ hb
        exact refSet_any _ _ _ _ _ _ sl s2 HSL.out (some ad) s3 x W B r.sets.2.2 r.eachS (r.eachS x hxm) tZ117 HSZ.out.sets HSZ.out.eachS hxs
       obtain ⟨bC,hbC⟩:∃ b,b=setB sl x:=⟨_,rfl⟩
       rw [← hbC] at hbad hgood hCl
       obtain ⟨xp,xo,⟨b1,b2,b3,bl⟩,⟨u1,u2,u3,ul⟩,⟨o1,o2,o3,ol⟩⟩:=x
       simp only at hbad hgood hprev hQ5 hCl
       clear hx hdr hok hxm hxs hr3 hbC
       go_wp2_with fail
       as_aux_lemma =>
        refine wpC_regionH (fun W'=>Below W1.heap.size W1 W') (hWr.drew) (fun OPS D QQ HO HD HD2 HQQ=>?_)
        have hgo8:=hgoL HO 8 66 rfl
        have hgo11:=hgoL HO 11 69 rfl
        clear HO
        refine zM hT.out ?_
        refine zX ?_
        refine zM hT.out ?_
        iterate 2 refine zX ?_
        refine zM hQ5.out ?_
        cases bC with
        | false =>
         exact mZ195
        | true =>
         as_aux_lemma =>
          refine zN hCl.out ?_
          iterate 3 refine zX ?_
          rcases hprev with ⟨d4,d4',d5⟩ | ⟨d4,d4',i1,i2,i3,i4,yp,d5,d6⟩
          ·exact mZ199
          ·as_aux_lemma =>
            have hle:=leqS 9 xp yp
            iterate 3 refine zX ?_
            refine zM hT.out ?_
            iterate 3 refine zX ?_
            refine zM hQ5.out ?_
            refine zX ?_
            refine zM hT.out ?_
            iterate 4 refine zX ?_
            refine wpC_greadS (v:=?_) rfl rfl hgo11.out rfl (fun W hW=>?_) ?_
            rotate_left
            ·exact mZ67
            dsimp only [zB,zC]
            cases hbl:Op.bytesLess yp xp with
            | false =>
             exact mZ196
            | true =>
             exact mZ198
      ·have HSF:Hid (setsFrom sl none sl=true):=by
        show _=_
        rw [hok.out,List.drop_of_length_le tZ98]
        rfl
       have HE:Hid (E=if (stagesFrom none tl && ll.all entryB)=true then 0 else 9):=by
        show _=_
        rw [HE.out,HSF.out,Bool.true_and]
       have hWq:=hWr
       clear hok hWr hr3 HSF
       as_aux_lemma =>
        go_wp2_with fail
        go_loopw [4] (fun j wr=>∃ k:Nat,k≤t2∧j=.int .i64 (k:Int)∧Hid (stagesFrom none tl=stagesFrom (prevI tl k) (tl.drop k))∧Below W1.heap.size W1 wr) (fun j _=>t2-(intOf j).toNat)
        case atStart=>exact ⟨0,Nat.zero_le _,rfl,rfl,hWq⟩
        case round =>
         clear hWq c0 c1 c2 c3 c4 c5 c6
         obtain ⟨k,hk,rfl,hok,hWr⟩:=hrel
         have hr3:=hrw.out _ hWr
         obtain ⟨c0,c1,c2,c3,c4,c5,c6⟩:=hT.out _ hWr
         by_cases hlt:k<t2
         ·obtain ⟨ad,rfl,hadB,-⟩:=Reads.elK (k:=21) (fun _=>rfl) hr3.stages.2.2 HTL.out hlt
          have hki:(k:Int)<(t2:Int):=tZ1
          have hkl:k<tl.length:=by have:=HTL.out;omega
          obtain ⟨x,hx⟩:∃ x,x=tl[k]'hkl:=⟨_,rfl⟩
          have hxm:x∈tl:=tZ12
          have hxs:=HSZ.out.eachT x hxm
          have hdr:=List.drop_eq_getElem_cons hkl
          rw [← hx] at hdr
          have hL:Hid (∀ W,Below W1.heap.size W1 W→∀ (j:Nat) (v:Value),([.string ⟨x.into.toArray⟩,.int .i64 x.kind,.string ⟨x.nm.toArray⟩,.int .i64 x.frm,.int .i64 x.gd,.slice x.own.A x.own.n x.own.c,.int .i64 x.ix,.int .i64 x.ct,.string ⟨x.dt.toArray⟩,.int .u64 x.sm.a,.int .u64 x.sm.b,.int .u64 x.sm.c,.int .u64 x.sm.d,.slice x.body.A x.body.n x.body.c,.int .i64 x.at_,.int .i64 x.nx,.int .u64 x.sum.a,.int .u64 x.sum.b,.int .u64 x.sum.c,.int .u64 x.sum.d,.bool x.done])[j]?=some v→W.cell? ((ad.add (k*21)).add j)=some v):=by
           show ∀ W,_→∀ j v,_→_
           intro W hb j v hv
           obtain ⟨ad2,e2,-,hce⟩:=Reads.elK (k:=21) (fun _=>rfl) (hrw.out _ hb).stages.2.2 HTL.out hlt
           injection e2 with e2
           subst e2
           rw [← hx] at hce
           exact mZ72
          have hQ0:Hid (∀ W,Below W1.heap.size W1 W→W.cell? (ad.add (k*21))=some (.string ⟨x.into.toArray⟩)):=by
           show ∀ W,_→_
           intro W hb
           have:=hL.out W hb 0 _ rfl
           rwa [add_zero] at this
          have hSp:Hid (∀ W,Below W1.heap.size W1 W→∀ yp,(∃ h:k-1<tl.length,yp=(tl[k-1]'h).into)→W.cell? (ad.add ((k-1)*21))=some (.string ⟨yp.toArray⟩)):=by
           show ∀ W,_→_
           intro W hb
           rintro yp ⟨h,rfl⟩
           obtain ⟨ad2,e2,-,hce⟩:=Reads.elK (k:=21) (fun _=>rfl) (hrw.out _ hb).stages.2.2 HTL.out (i:=k-1) (show k-1<t2 by omega)
           injection e2 with e2
           subst e2
           have:=hce 0 tZ1
           rw [add_zero] at this
           exact this
          have hbad:Hid ((stageB x=false∨(∃ y,prevI tl k=some y∧Op.bytesLess y x.into=false))→E=9):=by
           show _→_
           intro h
           rw [HE.out,hok.out,hdr,stagesFrom_cons]
           rcases h with h | ⟨y,hy,h⟩
           ·rw [h];simp
           ·rw [hy];simp only [h];simp
          have hgood:Hid (stageB x=true→(∀ y,prevI tl k=some y→Op.bytesLess y x.into=true)→Hid (stagesFrom none tl=stagesFrom (prevI tl (k+1)) (tl.drop (k+1)))):=by
           show _→_→_
           intro h1 h2
           show _=_
           rw [hok.out,hdr,stagesFrom_cons]
           have hp:prevI tl (k+1)=some x.into:=by
            show (tl[k]?).map _=_
            rw [List.getElem?_eq_getElem hkl,← hx]
            rfl
           rw [hp,h1]
           cases hq:prevI tl k with
           | none=>rfl
           | some y=>simp only [h2 y hq];rfl
          have hprev:(decide ((0:Int)<(k:Int))=false∧decide (0<k)=false∧Hid (∀ y,prevI tl k=some y→Op.bytesLess y x.into=true))∨(decide ((0:Int)<(k:Int))=true∧decide (0<k)=true∧(1:Int)≤(k:Int)∧(k:Int)-1<(t2:Int)∧IntKind.i64.wrap ((k:Int)-1)=(k:Int)-1∧((k:Int)-1).toNat=k-1∧∃ yp,Hid ((Op.bytesLess yp x.into=true→∀ y,prevI tl k=some y→Op.bytesLess y x.into=true)∧(Op.bytesLess yp x.into=false→∃ y,prevI tl k=some y∧Op.bytesLess y x.into=false))∧Hid (∃ h:k-1<tl.length,yp=(tl[k-1]'h).into)):=by
           rcases Nat.eq_zero_or_pos k with h0 | h0
           ·exact mZ70
           ·have hk1l:k-1<tl.length:=tZ1
            have hpv:prevI tl k=some (tl[k-1]'hk1l).into:=by
             obtain ⟨j,rfl⟩:∃ j,k=j+1:=⟨k-1,by omega⟩
             show (tl[j]?).map _=_
             have hj:j<tl.length:=tZ92
             rw [List.getElem?_eq_getElem hj]
             rfl
            refine .inr ⟨by simp;omega,by simp;omega,by omega,by omega,IntWalk.i64_in _ tZ1,by omega,(tl[k-1]'hk1l).into,?_,⟨hk1l,rfl⟩⟩
            exact mZ68
          obtain ⟨G,hG⟩:∃ G,G=Value.agg #[.string ⟨x.into.toArray⟩,.int .i64 x.kind,.string ⟨x.nm.toArray⟩,.int .i64 x.frm,.int .i64 x.gd,.slice x.own.A x.own.n x.own.c,.int .i64 x.ix,.int .i64 x.ct,.string ⟨x.dt.toArray⟩,.int .u64 x.sm.a,.int .u64 x.sm.b,.int .u64 x.sm.c,.int .u64 x.sm.d,.slice x.body.A x.body.n x.body.c,.int .i64 x.at_,.int .i64 x.nx,.int .u64 x.sum.a,.int .u64 x.sum.b,.int .u64 x.sum.c,.int .u64 x.sum.d,.bool x.done]:=⟨_,rfl⟩
          have HG0:=Lib.hid hG
          have hCl:Hid (∀ W,Below W1.heap.size W1 W→Calls Tryz.prog 116 #[G] W fun e W'=>e=.returned (.bool (stageB x))∧Below W.heap.size W W'):=fun W hb=>by
           have hxr:=(hrw.out _ hb).eachG x hxm
           rw [hG,stageB_eq]
           exact refStage_any x.into x.kind x.nm x.frm x.gd x.own.A x.own.n x.own.c x.own.l x.ix x.ct x.dt x.sm.a x.sm.b x.sm.c x.sm.d x.body.A x.body.n x.body.c x.body.l x.at_ x.nx x.sum.a x.sum.b x.sum.c x.sum.d x.done W B hxr.own.2.2 hxr.own.1 hxr.body.2.2 hxr.body.1 tZ117 hxs.into hxs.nm hxs.own hxs.body hxs.props
          obtain ⟨bC,hbC⟩:∃ b,b=stageB x:=⟨_,rfl⟩
          rw [← hbC] at hbad hgood hCl
          obtain ⟨into,kind,snm,frm,gd,⟨o1,o2,o3,ol⟩,ix,ct,dt,⟨sa,sb,sc,sd⟩,⟨b1,b2,b3,bl⟩,at_,nx,⟨ua,ub,uc,ud⟩,done⟩:=x
          simp only at hbad hgood hprev HG0 hL hQ0
          clear hx hdr hok hxm hxs hr3 hG hbC
          go_wp2_with fail
          as_aux_lemma =>
           refine wpC_regionH (fun W'=>Below W1.heap.size W1 W') (hWr.drew) (fun OPS D QQ HO HD HD2 HQQ=>?_)
           have hgo7:=hgoL HO 7 100 rfl
           have hgo10:=hgoL HO 10 103 rfl
           clear HO
           refine zX ?_
           refine zM hT.out ?_
           iterate 2 refine zX ?_
           refine wpC_readS (v:=G) rfl rfl (fun W hW=>?_) ?_
           ·replace hW:=HD.out W hW
            rw [HG0.out]
            exact quiet_load_at 77 _ rfl (ad.add (k*21)) rfl [.string ⟨into.toArray⟩,.int .i64 kind,.string ⟨snm.toArray⟩,.int .i64 frm,.int .i64 gd,.slice o1 o2 o3,.int .i64 ix,.int .i64 ct,.string ⟨dt.toArray⟩,.int .u64 sa,.int .u64 sb,.int .u64 sc,.int .u64 sd,.slice b1 b2 b3,.int .i64 at_,.int .i64 nx,.int .u64 ua,.int .u64 ub,.int .u64 uc,.int .u64 ud,.bool done] _ (hL.out W hW) Tryz.underlying77 rfl tZ2
           dsimp only [zB,zC]
           cases bC with
           | false =>
            exact mZ195
           | true =>
            as_aux_lemma =>
             refine zN hCl.out ?_
             iterate 3 refine zX ?_
             rcases hprev with ⟨d4,d4',d5⟩ | ⟨d4,d4',i1,i2,i3,i4,yp,d5,d6⟩
             ·exact mZ199
             ·as_aux_lemma =>
               have hle:=leqS 9 into yp
               iterate 3 refine zX ?_
               refine zM hT.out ?_
               iterate 3 refine zX ?_
               refine wpC_greadS (v:=?_) rfl rfl hgo10.out rfl (fun W hW=>?_) ?_
               rotate_left
               ·replace hW:=HD.out W hW
                skip
                have q0:=hQ0.out W hW
                exact mZ66
               dsimp only [zB,zC]
               refine zX ?_
               refine zM hT.out ?_
               iterate 4 refine zX ?_
               refine wpC_greadS (v:=?_) rfl rfl hgo10.out rfl (fun W hW=>?_) ?_
               rotate_left
               ·exact mZ67
               dsimp only [zB,zC]
               cases hbl:Op.bytesLess yp into with
               | false =>
                exact mZ196
               | true =>
                exact mZ198
         ·have HSF:Hid (stagesFrom none tl=true):=by
           show _=_
           rw [hok.out,List.drop_of_length_le (by have:=HTL.out;omega)]
           rfl
          have HE:Hid (E=if ll.all entryB=true then 0 else 9):=by
           show _=_
           rw [HE.out,HSF.out,Bool.true_and]
          have hWq:=hWr
          clear hok hWr hr3 HSF
          go_wp2_with fail
          go_loopw [5] (fun j wr=>∃ k:Nat,k≤l2∧j=.int .i64 (k:Int)∧Hid ((ll.take k).all entryB=true)∧Below W1.heap.size W1 wr) (fun j _=>l2-(intOf j).toNat)
          case atStart=>exact ⟨0,Nat.zero_le _,rfl,rfl,hWq⟩
          case round =>
           clear hWq c0 c1 c2 c3 c4 c5 c6
           obtain ⟨k,hk,rfl,hok,hWr⟩:=hrel
           have hr3:=hrw.out _ hWr
           obtain ⟨c0,c1,c2,c3,c4,c5,c6⟩:=hT.out _ hWr
           by_cases hlt:k<l2
           ·obtain ⟨ad,rfl,-,p0,p1,p2,p3⟩:=Reads.el4 (f0:=fun x:EntryR=>.string ⟨x.user.toArray⟩) (f1:=fun x=>.int .i64 x.kind) (f2:=fun x=>.string ⟨x.path.toArray⟩) (f3:=fun x=>.int .i64 x.err) hr3.log.2.2 HLL.out hlt
            have hki:(k:Int)<(l2:Int):=tZ1
            have hkl:k<ll.length:=by have:=HLL.out;omega
            obtain ⟨x,hx⟩:∃ x,x=ll[k]'hkl:=⟨_,rfl⟩
            have hxs:=HSZ.out.eachL x tZ12
            rw [← hx] at p0 p1 p2 p3
            have htk:=List.take_succ_eq_append_getElem hkl
            rw [← hx] at htk
            have HTK:=Lib.hid htk
            have HXM:Hid (x∈ll):=by show _∈_;rw [hx];exact List.getElem_mem _
            have hc:=refEntry_any x.user x.kind x.path x.err wr hxs.user hxs.path
            rw [← entryB_P x] at hc
            obtain ⟨bC,hbC⟩:∃ b,b=entryB x:=⟨_,rfl⟩
            rw [← hbC] at hc
            have HBC:=Lib.hid hbC
            obtain ⟨xu,xk,xp,xe⟩:=x
            simp only at p0 p1 p2 p3 hc
            clear hx htk hbC hxs hr3
            go_wp2_with fail
            refine hc.mono ?_
            clear hc
            rintro e w9 ⟨rfl,hb9⟩
            have hW:=hWr.trans (hb9.mono hWr.size)
            clear hb9 hWr
            cases bC with
            | false =>
             have HB:Hid (E=9):=by
              show _=_
              rw [HE.out,if_neg]
              intro h
              have:=List.all_eq_true.1 h _ HXM.out
              rw [← HBC.out] at this
              cases this
             go_wp2_with fail
             go_ret
             exact ⟨by rw [HB.out];rfl,HB1.out.trans (hW.mono tZ13)⟩
            | true =>
             go_wp2_with fail
             go_roundw
             case rel=>exact ⟨k+1,by omega,by go_num,by show List.all _ _=_;rw [HTK.out,List.all_append,hok.out];simp [← HBC.out],hW⟩
             case measure=>simp [intOf];omega
           ·have HB:Hid (E=0):=by
             show _=_
             rw [HE.out,if_pos]
             have:=hok.out
             rwa [List.take_of_length_le (by have:=HLL.out;omega)] at this
            clear hok
            go_wp2_with fail
            go_ret
            exact ⟨by rw [HB.out];rfl,HB1.out.trans (hWr.mono tZ13)⟩
end Go.Proofs.YtiojfffgiejibaaGreatDoor
namespace Go.Proofs.YtiojfffgiejibaaGreatDoor
open Go.RowKit
theorem upL_lt0 (p:BS) (h:p≠[]):(upL p).length<p.length:=by
 unfold upL
 rw [List.length_take]
 cases hl:lastS p with
 | none=>simp;exact List.length_pos_iff.2 h
 | some k=>have:=(lastS_some p k hl).1;simp;omega
theorem parB_len0 {p u:BS} (h:parB p=some u):u.length<p.length∧p≠[]∧pathB p=true∧u=upL p:=by
 unfold parB at h
 split at h
 ·cases h
 ·rename_i hh
  cases h
  have hne:p≠[]:=fun e=>hh (.inl e)
  exact ⟨upL_lt0 p hne,hne,by simpa using fun e=>hh (.inr e),rfl⟩
theorem TenC.find_lt (c:TenC) (p:BS) (h:c.find p<0):∀ s∈c.sets,s.path≠p:=by
 have h1:=firstI_any (fun s:SetC=>s.path == p) c.sets
 rw [show decide ((0:Int)≤firstI (fun s:SetC=>s.path == p) c.sets)=false from decide_eq_false (by unfold TenC.find at h;omega)] at h1
 intro s hs e
 have:=List.any_eq_false.1 h1.symm s hs
 simp [e] at this
theorem TenC.find_ge (c:TenC) (p:BS) (h:¬ c.find p<0):∃ s∈c.sets,s.path=p:=by
 have h1:=firstI_any (fun s:SetC=>s.path == p) c.sets
 rw [show decide ((0:Int)≤firstI (fun s:SetC=>s.path == p) c.sets)=true from decide_eq_true (by unfold TenC.find at h;omega)] at h1
 obtain ⟨s,hs,e⟩:=List.any_eq_true.1 h1.symm
 exact ⟨s,hs,by simpa using e⟩
/-- where a set was put -/
theorem TenC.withS_at (c:TenC) (s:SetC):∃ i,i≤c.sets.length∧(c.withS s).sets=c.sets.take i++s :: c.sets.drop i:=by
 refine ⟨posF (fun x:SetC=>cmpS x.path s.path) c.sets,posF_le _ _,?_⟩
 show c.sets.take _++[s]++c.sets.drop _=_
 rw [List.append_assoc]
 rfl
theorem mem_at {α:Type} {l:List α} {i:Nat} {x y:α} (h:y∈l.take i++x :: l.drop i):y=x∨y∈l:=by
 rcases List.mem_append.1 h with h | h
 ·exact .inr (List.mem_of_mem_take h)
 ·rcases List.mem_cons.1 h with h | h
  ·exact .inl h
  ·exact .inr (List.mem_of_mem_drop h)
theorem withS_len (c:TenC) (s:SetC):(c.withS s).sets.length=c.sets.length+1:=by
 obtain ⟨i,hi,hw⟩:=c.withS_at s
 rw [hw,List.length_append,List.length_cons,List.length_take,List.length_drop]
 omega
/-- what a set that could be made tells -/
theorem create_ok (c:TenC) (p:BS) (c2:TenC) (h:(0,c2)=c.create p):c.E=0∧pathB p=true∧c.find p<0∧c2=c.withS (set0C p)∧c2.E=0:=by
 unfold TenC.create at h
 by_cases h1:c.ask p≠0
 ·rw [if_pos h1] at h
  injection h with h _
  exact absurd h.symm h1
 rw [if_neg h1] at h
 by_cases h2:0≤c.find p
 ·rw [if_pos h2] at h
  exact mZ201
 rw [if_neg h2] at h
 by_cases h3:c.find (upL p)<0
 ·rw [if_pos h3] at h
  exact mZ201
 rw [if_neg h3] at h
 by_cases h4:c.sets.length=32
 ·rw [if_pos h4] at h
  exact mZ201
 rw [if_neg h4] at h
 unfold TenC.settle at h
 by_cases h5:(c.withS (set0C p)).E=9
 ·rw [if_pos h5] at h
  exact mZ201
 rw [if_neg h5] at h
 split at h
 ·exact mZ201
 ·injection h with _ h
  unfold TenC.ask at h1
  have hE:c.E=0:=by
   exact mZ200
  rw [if_neg (by rw [hE];decide)] at h1
  have hp:pathB p=true:=by
   cases hp:pathB p with
   | true=>rfl
   | false=>rw [if_pos hp] at h1;exact absurd tZ4 h1
  refine ⟨hE,hp,by omega,h,?_⟩
  rw [h]
  rcases (c.withS (set0C p)).E_two with h6 | h6
  ·exact h6
  ·exact absurd h6 h5
end Go.Proofs.YtiojfffgiejibaaGreatDoor
namespace Go.Proofs.YtiojfffgiejibaaGreatDoor
open Go.RowKit
theorem AtS.ok {c:TenC} {p n:BS} {bad:Bool} {k:Nat} (h:AtS c p n bad k):SetOk c.sets (c.sets[k]'h.lt):=((TenC.E_ok c).1 h.E).sets.each _ (List.getElem_mem h.lt)
theorem AtS.snaps {c:TenC} {p n:BS} {bad:Bool} {k:Nat} (h:AtS c p n bad k):SnapsOk (c.sets[k]'h.lt).snaps:=(snapsB_iff _).1 h.ok.snaps
/-! ### clones -/
theorem withS_old (c:TenC) (s x:SetC) (hx:x∈c.sets):x∈(c.withS s).sets:=by
 obtain ⟨i,hi,hw⟩:=c.withS_at s
 rw [hw]
 rw [← List.take_append_drop i c.sets] at hx
 rcases List.mem_append.1 hx with h | h
 ·exact List.mem_append_left _ h
 ·exact List.mem_append_right _ (List.mem_cons_of_mem _ h)
end Go.Proofs.YtiojfffgiejibaaGreatDoor
