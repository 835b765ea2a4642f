/-
  The page's Check of a tenant, by its contract. 'clear' of a piece of a row that is known whole. slices.Delete of one element, at elements of 5 cells, by its contract.
-/
import Derived.Test.YtiojfffgiejibaaGreatDoorTtM1
import Derived.WalkKit
import Derived.WalkSpells
import Derived.Below
import Derived.Laws.OwnMore
import Derived.Deep.AppendLies
import Derived.Deep.Draws
import Derived.Laws.Rows
import Derived.Maps.AppendAt
import Derived.RegionTactic
import Derived.OwnWalk
import Derived.Deep.QuietTactic
import Derived.BigQuiet
import Derived.Lib.Hide
import Derived.Laws.CopyOwn
import Derived.IntWalk
import Derived.Test.YtiojfffgiejibaaGreatDoorRows
import Derived.Handy
import Derived.Deep.Quiet
import Derived.Orders
import Derived.Lib.SplitLaws
import Derived.Lib.LastIndexByte
import Derived.Lib.Strings
import Derived.ShutString
import Derived.Sort.Walk0
import Derived.Sort.KeysCollected
import Derived.Shelf.Strings.Search1
import Derived.Shelf.Strings.Search2
import Derived.Shelf.Strings.Search3
import Derived.Shelf.Strings.Cut
import Derived.Shelf.Strings.Count
import Derived.Shelf.LaysM
import Derived.Shelf.Strings.Shaped
import Derived.Shelf.Strings.LastIndex
import Derived.Shelf.Strings.Split
import Derived.Shelf.Strings.SplitShaped
import Derived.Shelf.Unicode.Decode
import Derived.Shelf.Strings.RuneCount
import Derived.Shelf.Strings.Explode
import Derived.Shelf.Unicode.DecodeSlow
import Derived.Shelf.Slices.Turned
import Derived.Test.YtiojfffgiejibaaGreatDoorProg
import Derived.Laws.BytesString
import Derived.Laws.IdiomStrings
import Derived.Lib.ConvBytes
import Derived.Deep.MidRow
import Derived.Lib.Overlaps
import Derived.Lib.AppendZerosOnto
import Derived.Deep.RegionLaw
import Derived.Test.YtiojfffgiejibaaGreatDoorT0
import Derived.Test.YtiojfffgiejibaaGreatDoorTt1
import Derived.Test.YtiojfffgiejibaaGreatDoorTt2
import Derived.Test.YtiojfffgiejibaaGreatDoorTt3
import Derived.Test.YtiojfffgiejibaaGreatDoorTt4
import Derived.Test.YtiojfffgiejibaaGreatDoorTt5
import Derived.Test.YtiojfffgiejibaaGreatDoorTt7
import Derived.Test.YtiojfffgiejibaaGreatDoorTt10
import Derived.Test.YtiojfffgiejibaaGreatDoorTt11
import Derived.Test.YtiojfffgiejibaaGreatDoorTt12
import Derived.Test.YtiojfffgiejibaaGreatDoorTt14
import Derived.Test.YtiojfffgiejibaaGreatDoorTt16
import Derived.Test.YtiojfffgiejibaaGreatDoorTt19
import Derived.Test.YtiojfffgiejibaaGreatDoorTt20
import Derived.Test.YtiojfffgiejibaaGreatDoorTt27
import Derived.Test.YtiojfffgiejibaaGreatDoorTt29
import Derived.Test.YtiojfffgiejibaaGreatDoorTt33
import Derived.Test.YtiojfffgiejibaaGreatDoorTt34
import Derived.Test.YtiojfffgiejibaaGreatDoorTt35
namespace Go.Proofs.YtiojfffgiejibaaGreatDoor
open Go.RowKit
theorem leq_of_lt {x y:BS} (h:Op.bytesLess y x=true):(Op.bytesLess x y || x == y)=false:=by
 rw [Bool.or_eq_false_iff]
 exact ⟨bl_asym _ _ h,by simpa using (bl_ne h).symm⟩
theorem leq_of_not {x y:BS} (h:Op.bytesLess y x=false):(Op.bytesLess x y || x == y)=true:=by
 by_cases e:x=y
 ·simp [e]
 ·rw [bl_tri y x h (fun h=>e h.symm)];rfl
set_option maxRecDepth 100000 in
set_option maxHeartbeats 8000000 in
theorem rcheck14_any (t:TenR) (w:World) (B:Nat) (hr:t.rd w B) (hB:B≤w.heap.size) (hz:t.sz) :
  Calls Tryz.prog 60 #[t.val] w fun e w'=>e=.returned (.int .i64 (tenE t))∧Below w.heap.size w w':=by
 obtain ⟨nm,quota,next,⟨s1,s2,s3,sl⟩,⟨g1,g2,g3,gl⟩,⟨t1,t2,t3,tl⟩,⟨l1,l2,l3,ll⟩⟩:=t
 show Calls Tryz.prog 60 #[.agg #[.string ⟨nm.toArray⟩,.int .i64 quota,.int .i64 next,.slice s1 s2 s3,.slice g1 g2 g3,.slice t1 t2 t3,.slice l1 l2 l3]] w _
 have hb1:=(Below.refl w.heap.size w).alloc (Nat.le_refl _) (.cells #[.string ⟨nm.toArray⟩,.int .i64 quota,.int .i64 next,.slice s1 s2 s3,.slice g1 g2 g3,.slice t1 t2 t3,.slice l1 l2 l3] 27)
 have kT:=Blk.new w 27 #[.string ⟨nm.toArray⟩,.int .i64 quota,.int .i64 next,.slice s1 s2 s3,.slice g1 g2 g3,.slice t1 t2 t3,.slice l1 l2 l3]
 obtain ⟨W1,hW1⟩:∃ W,W=w.alloc (.cells #[.string ⟨nm.toArray⟩,.int .i64 quota,.int .i64 next,.slice s1 s2 s3,.slice g1 g2 g3,.slice t1 t2 t3,.slice l1 l2 l3] 27):=⟨_,rfl⟩
 have hsz1:W1.heap.size=w.heap.size+1:=tZ35
 rw [← hW1] at hb1 kT
 have hT:=Lib.hid (fun (W':World) (hB':Below W1.heap.size W1 W')=>(⟨(kT.below hB' tZ1).cell 0,(kT.below hB' tZ1).cell 1,(kT.below hB' tZ1).cell 2,(kT.below hB' tZ1).cell 3,(kT.below hB' tZ1).cell 4,(kT.below hB' tZ1).cell 5,(kT.below hB' tZ1).cell 6⟩:W'.cell? ⟨w.heap.size,0,none⟩=some (.string ⟨nm.toArray⟩)∧W'.cell? ⟨w.heap.size,1,none⟩=some (.int .i64 quota)∧W'.cell? ⟨w.heap.size,2,none⟩=some (.int .i64 next)∧W'.cell? ⟨w.heap.size,3,none⟩=some (.slice s1 s2 s3)∧W'.cell? ⟨w.heap.size,4,none⟩=some (.slice g1 g2 g3)∧W'.cell? ⟨w.heap.size,5,none⟩=some (.slice t1 t2 t3)∧W'.cell? ⟨w.heap.size,6,none⟩=some (.slice l1 l2 l3)))
 have hrw:Hid (∀ W',Below W1.heap.size W1 W'→TenR.rd W' B ⟨nm,quota,next,⟨s1,s2,s3,sl⟩,⟨g1,g2,g3,gl⟩,⟨t1,t2,t3,tl⟩,⟨l1,l2,l3,ll⟩⟩):=fun W' hb=>hr.below ((hb1.trans (hb.mono tZ1)).mono hB)
 have hN:Hid (∀ W,Below W1.heap.size W1 W→Calls Tryz.prog 79 #[.string ⟨nm.toArray⟩] W fun e W'=>e=.returned (.bool (nameB nm))∧Below W.heap.size W W'):=fun W _=>refNameB_any nm W hz.nm
 have hQ:Hid (∀ W,Below W1.heap.size W1 W→Calls Tryz.prog 113 #[.int .i64 quota,.int .i64 0] W fun e W'=>e=.returned (.bool (amt quota 0))∧Below W.heap.size W W'):=fun W _=>refAmountB_any quota 0 W
 have hX:Hid (∀ W,Below W1.heap.size W1 W→Calls Tryz.prog 113 #[.int .i64 next,.int .i64 1] W fun e W'=>e=.returned (.bool (amt next 1))∧Below W.heap.size W W'):=fun W _=>refAmountB_any next 1 W
 have hFi:Hid (∀ W,Below W1.heap.size W1 W→Calls Tryz.prog 33 #[.agg #[.string ⟨nm.toArray⟩,.int .i64 quota,.int .i64 next,.slice s1 s2 s3,.slice g1 g2 g3,.slice t1 t2 t3,.slice l1 l2 l3],.string ⟨#[]⟩] W fun e W'=>e=.returned (.int .i64 (findS sl []))∧Below W.heap.size W W'):=fun W hb =>
  refFind_any _ _ _ _ _ _ sl s2 (hrw.out W hb).sets.1 s1 s3 [] W B (hrw.out W hb).sets.2.2 tZ19 tZ29
 have hG:Hid (∀ W,Below W1.heap.size W1 W→Calls Tryz.prog 114 #[.slice g1 g2 g3] W fun e W'=>e=.returned (.int .i64 (if grantsB gl=true then 0 else 9))∧Below W.heap.size W W'):=fun W hb =>
  refGrants_any gl g2 (hrw.out W hb).grants.1 g1 g3 W B (hrw.out W hb).grants.2.2 tZ19 tZ75 hz.eachG
 have HSL:=Lib.hid (show s2=sl.length from hr.sets.1)
 have HTL:=Lib.hid (show t2=tl.length from hr.stages.1)
 have HLL:=Lib.hid (show l2=ll.length from hr.log.1)
 have HSZ:=Lib.hid hz
 have HZR:Hid ((findS sl []<0→(sl.any fun x=>x.path == [])=false)∧(0≤findS sl []→(sl.any fun x=>x.path == [])=true)):=by
  show _∧_
  rw [← firstI_any (fun y:SetR=>y.path == []) sl]
  exact ⟨fun h=>decide_eq_false (by show ¬ (0:Int)≤findS sl [];omega),fun h=>decide_eq_true h⟩
 have HV:Hid (tenE ⟨nm,quota,next,⟨s1,s2,s3,sl⟩,⟨g1,g2,g3,gl⟩,⟨t1,t2,t3,tl⟩,⟨l1,l2,l3,ll⟩⟩=if (nameB nm && (amt quota 0 && (amt next 1 && (decide (s2≤32) && ((sl.any fun x=>x.path == []) && (grantsB gl && (decide (t2≤4) && (decide (l2≤16) && (setsFrom sl none sl && (stagesFrom none tl && ll.all entryB))))))))))=true then 0 else 9):=by
  show _=_
  rw [HSL.out,HTL.out,HLL.out]
  unfold tenE tenB logB setsB stagesB
  simp only
  generalize nameB nm=a1
  generalize amt quota 0=a2
  generalize amt next 1=a3
  generalize decide (sl.length≤32)=a4
  generalize (sl.any fun x=>x.path == [])=a5
  generalize setsFrom sl none sl=a6
  generalize grantsB gl=a7
  generalize decide (tl.length≤4)=a8
  generalize stagesFrom none tl=a9
  generalize decide (ll.length≤16)=b1
  generalize ll.all entryB=b2
  cases a1 <;> cases a2 <;> cases a3 <;> cases a4 <;> cases a5 <;> (try rfl) <;> cases a6 <;> cases a7 <;> cases a8 <;> cases a9 <;> cases b1 <;> cases b2 <;> rfl
 obtain ⟨E,hE⟩:∃ V,V=tenE ⟨nm,quota,next,⟨s1,s2,s3,sl⟩,⟨g1,g2,g3,gl⟩,⟨t1,t2,t3,tl⟩,⟨l1,l2,l3,ll⟩⟩:=⟨_,rfl⟩
 obtain ⟨bN,hbN⟩:∃ V,V=nameB nm:=⟨_,rfl⟩
 obtain ⟨bQ,hbQ⟩:∃ V,V=amt quota 0:=⟨_,rfl⟩
 obtain ⟨bX,hbX⟩:∃ V,V=amt next 1:=⟨_,rfl⟩
 obtain ⟨bG,hbG⟩:∃ V,V=grantsB gl:=⟨_,rfl⟩
 obtain ⟨z,hz0⟩:∃ V,V=findS sl []:=⟨_,rfl⟩
 rw [← hE] at HV ⊢
 rw [← hbN] at HV hN
 rw [← hbQ] at HV hQ
 rw [← hbX] at HV hX
 rw [← hbG] at HV hG
 rw [← hz0] at hFi HZR
 have HB1:=Lib.hid hb1
 have HSZ1:=Lib.hid hsz1
 have hW0:=Below.refl W1.heap.size W1
 have hn1:s2≤1000000000000:=hz.sets
 have hn2:t2≤1000000000000:=hz.stages
 have hn3:l2≤1000000000000:=hz.log
 clear hE hbN hbQ hbX hbG hz0 hb1 hsz1 kT hr hz
 go_enter Tryz.func60,Tryz.ntmps60
 have hc:=hN.out _ hW0
 cases bN with
 | false =>
  exact mZ129
 | true =>
  go_wp2_with fail
  rw [← hW1]
  refine hc.mono ?_
  clear hc
  rintro e w11 ⟨rfl,hbw11⟩
  have hWw11:=hW0.trans (hbw11.mono hW0.size)
  clear hbw11
  obtain ⟨c0,c1,c2,c3,c4,c5,c6⟩:=hT.out _ hWw11
  have hc:=hQ.out _ hWw11
  cases bQ with
  | false =>
   exact mZ130
  | true =>
   go_wp2_with fail
   refine hc.mono ?_
   clear hc
   rintro e w12 ⟨rfl,hbw12⟩
   have hWw12:=hWw11.trans (hbw12.mono hWw11.size)
   clear hbw12
   obtain ⟨c0,c1,c2,c3,c4,c5,c6⟩:=hT.out _ hWw12
   have hc:=hX.out _ hWw12
   cases bX with
   | false =>
    exact mZ131
   | true =>
    go_wp2_with fail
    refine hc.mono ?_
    clear hc
    rintro e w13 ⟨rfl,hbw13⟩
    have hWw13:=hWw12.trans (hbw13.mono hWw12.size)
    clear hbw13
    obtain ⟨c0,c1,c2,c3,c4,c5,c6⟩:=hT.out _ hWw13
    by_cases hn32:32<s2
    ·have hi:(32:Int)<(s2:Int):=tZ1
     have HB:Hid (E=9):=by show _=_;rw [HV.out,decide_eq_false (show ¬ s2≤32 by omega)];simp
     exact mZ58
    have hi:¬ (32:Int)<(s2:Int):=tZ1
    have hc:=hFi.out _ hWw13
    go_wp2_with fail
    refine hc.mono ?_
    clear hc
    rintro e w8 ⟨rfl,hb8⟩
    have hW8:=hWw13.trans (hb8.mono hWw13.size)
    clear hb8 c0 c1 c2 c3 c4 c5 c6
    obtain ⟨c0,c1,c2,c3,c4,c5,c6⟩:=hT.out _ hW8
    by_cases hz:z<0
    ·have HB:Hid (E=9):=by show _=_;rw [HV.out,(HZR.out.1 hz)];simp
     go_wp2_with fail
     go_ret
     exact ⟨by rw [HB.out];rfl,HB1.out.trans (hW8.mono tZ10)⟩
    have HV:Hid (E=if (bG && ((decide (t2≤4) && (decide (l2≤16) && (setsFrom sl none sl && (stagesFrom none tl && ll.all entryB))))))=true then 0 else 9):=by
     show _=_
     rw [HV.out,HZR.out.2 tZ1,decide_eq_true (show s2≤32 by omega)]
     simp only [Bool.true_and]
    clear HZR
    have hc:=hG.out _ hW8
    cases bG with
    | false =>
     rw [if_neg tZ3] at hc
     go_wp2_with fail
     refine hc.mono ?_
     clear hc
     rintro e w11 ⟨rfl,hbw11⟩
     have hWw11:=hW8.trans (hbw11.mono hW8.size)
     clear hbw11 c0 c1 c2 c3 c4 c5 c6
     exact mZ128
    | true =>
     rw [if_pos rfl] at hc
     go_wp2_with fail
     refine hc.mono ?_
     clear hc
     rintro e w11 ⟨rfl,hbw11⟩
     have hWw11:=hW8.trans (hbw11.mono hW8.size)
     clear hbw11 c0 c1 c2 c3 c4 c5 c6
     obtain ⟨c0,c1,c2,c3,c4,c5,c6⟩:=hT.out _ hWw11
     by_cases ht:4<t2
     ·have hi2:(4:Int)<(t2:Int):=tZ1
      have HB:Hid (E=9):=by show _=_;rw [HV.out,decide_eq_false (show ¬ t2≤4 by omega)];simp
      exact mZ54
     have hi2:¬ (4:Int)<(t2:Int):=tZ1
     by_cases hlg:16<l2
     ·have hi3:(16:Int)<(l2:Int):=tZ1
      have HB:Hid (E=9):=by show _=_;rw [HV.out,decide_eq_false (show ¬ l2≤16 by omega)];simp
      exact mZ54
     have hi3:¬ (16:Int)<(l2:Int):=tZ1
     have HE:Hid (E=if (setsFrom sl none sl && (stagesFrom none tl && ll.all entryB))=true then 0 else 9):=by
      show _=_
      rw [HV.out,decide_eq_true (show t2≤4 by omega),decide_eq_true (show l2≤16 by omega)]
      simp only [Bool.true_and]
     have hWq:=hWw11
     clear HV
     go_wp2_with fail
     go_loopw [3] (fun j wr=>∃ k:Nat,k≤s2∧j=.int .i64 (k:Int)∧Hid (setsFrom sl none sl=setsFrom sl (prevT sl k) (sl.drop k))∧Below W1.heap.size W1 wr) (fun j _=>s2-(intOf j).toNat)
     case atStart=>exact ⟨0,Nat.zero_le _,rfl,rfl,hWq⟩
     case round =>
      clear hWq c0 c1 c2 c3 c4 c5 c6
      obtain ⟨k,hk,rfl,hok,hWr⟩:=hrel
      have hr3:=hrw.out _ hWr
      obtain ⟨c0,c1,c2,c3,c4,c5,c6⟩:=hT.out _ hWr
      by_cases hlt:k<s2
      ·obtain ⟨ad,rfl,hadB,-⟩:=set_at hr3.sets.2.2 HSL.out hlt
       have hki:(k:Int)<(s2:Int):=tZ1
       have hkl:k<sl.length:=by have:=HSL.out;omega
       obtain ⟨x,hx⟩:∃ x,x=sl[k]'hkl:=⟨_,rfl⟩
       have hxm:x∈sl:=tZ14
       have hxs:=HSZ.out.eachS x hxm
       have hdr:=List.drop_eq_getElem_cons hkl
       rw [← hx] at hdr
       have hQ5:Hid (∀ W,Below W1.heap.size W1 W→W.cell? (ad.add (k*5))=some (.string ⟨x.path.toArray⟩)∧W.cell? ⟨(ad.add (k*5)).block,(ad.add (k*5)).off+1,none⟩=some (.string ⟨x.org.toArray⟩)∧W.cell? ⟨(ad.add (k*5)).block,(ad.add (k*5)).off+2,none⟩=some (.slice x.body.A x.body.n x.body.c)∧W.cell? ⟨(ad.add (k*5)).block,(ad.add (k*5)).off+3,none⟩=some (.slice x.snaps.A x.snaps.n x.snaps.c)∧W.cell? ⟨(ad.add (k*5)).block,(ad.add (k*5)).off+4,none⟩=some (.slice x.own.A x.own.n x.own.c)):=by
        show ∀ W,_→_
        intro W hb
        obtain ⟨ad2,e2,-,hce⟩:=set_at (hrw.out _ hb).sets.2.2 HSL.out hlt
        injection e2 with e2
        subst e2
        rw [← hx] at hce
        exact hce
       have hSp:Hid (∀ W,Below W1.heap.size W1 W→∀ yp,(∃ h:k-1<sl.length,yp=(sl[k-1]'h).path)→W.cell? (ad.add ((k-1)*5))=some (.string ⟨yp.toArray⟩)):=by
        show ∀ W,_→_
        intro W hb
        rintro yp ⟨h,rfl⟩
        obtain ⟨ad2,e2,-,p1,-⟩:=set_at (hrw.out _ hb).sets.2.2 HSL.out (i:=k-1) (show k-1<s2 by omega)
        injection e2 with e2
        subst e2
        exact p1
       have hbad:Hid ((setB sl x=false∨(∃ y,prevT sl k=some y∧Op.bytesLess y x.path=false))→E=9):=by
        show _→_
        intro h
        rw [HE.out,hok.out,hdr,setsFrom_cons]
        rcases h with h | ⟨y,hy,h⟩
        ·rw [h];simp
        ·rw [hy];simp only [h];simp
       have hgood:Hid (setB sl x=true→(∀ y,prevT sl k=some y→Op.bytesLess y x.path=true)→Hid (setsFrom sl none sl=setsFrom sl (prevT sl (k+1)) (sl.drop (k+1)))):=by
        show _→_→_
        intro h1 h2
        show _=_
        rw [hok.out,hdr,setsFrom_cons]
        have hp:prevT sl (k+1)=some x.path:=by
         show (sl[k]?).map _=_
         rw [List.getElem?_eq_getElem hkl,← hx]
         rfl
        rw [hp,h1]
        cases hq:prevT sl k with
        | none=>rfl
        | some y=>simp only [h2 y hq];rfl
       have hprev:(decide ((0:Int)<(k:Int))=false∧decide (0<k)=false∧Hid (∀ y,prevT sl k=some y→Op.bytesLess y x.path=true))∨(decide ((0:Int)<(k:Int))=true∧decide (0<k)=true∧(1:Int)≤(k:Int)∧(k:Int)-1<(s2:Int)∧IntKind.i64.wrap ((k:Int)-1)=(k:Int)-1∧((k:Int)-1).toNat=k-1∧∃ yp,Hid ((Op.bytesLess yp x.path=true→∀ y,prevT sl k=some y→Op.bytesLess y x.path=true)∧(Op.bytesLess yp x.path=false→∃ y,prevT sl k=some y∧Op.bytesLess y x.path=false))∧Hid (∃ h:k-1<sl.length,yp=(sl[k-1]'h).path)):=by
        rcases Nat.eq_zero_or_pos k with h0 | h0
        ·exact mZ76
        ·have hk1l:k-1<sl.length:=tZ1
         have hpv:prevT sl k=some (sl[k-1]'hk1l).path:=by
          obtain ⟨j,rfl⟩:∃ j,k=j+1:=⟨k-1,by omega⟩
          show (sl[j]?).map _=_
          have hj:j<sl.length:=tZ107
          rw [List.getElem?_eq_getElem hj]
          rfl
         refine .inr ⟨by simp;omega,by simp;omega,by omega,by omega,IntWalk.i64_in _ tZ1,by omega,(sl[k-1]'hk1l).path,?_,⟨hk1l,rfl⟩⟩
         exact mZ74
       have hCl:Hid (∀ W,Below W1.heap.size W1 W→Calls Tryz.prog 115 #[.agg #[.string ⟨nm.toArray⟩,.int .i64 quota,.int .i64 next,.slice (some ad) s2 s3,.slice g1 g2 g3,.slice t1 t2 t3,.slice l1 l2 l3],.agg #[.string ⟨x.path.toArray⟩,.string ⟨x.org.toArray⟩,.slice x.body.A x.body.n x.body.c,.slice x.snaps.A x.snaps.n x.snaps.c,.slice x.own.A x.own.n x.own.c]] W fun e W'=>e=.returned (.bool (setB sl x))∧Below W.heap.size W W'):=fun W hb=>by
        have r:=hrw.out _ hb
        exact refSet_any _ _ _ _ _ _ sl s2 HSL.out (some ad) s3 x W B r.sets.2.2 r.eachS (r.eachS x hxm) tZ137 HSZ.out.sets HSZ.out.eachS hxs
       obtain ⟨bC,hbC⟩:∃ b,b=setB sl x:=⟨_,rfl⟩
       rw [← hbC] at hbad hgood hCl
       obtain ⟨xp,xo,⟨b1,b2,b3,bl⟩,⟨u1,u2,u3,ul⟩,⟨o1,o2,o3,ol⟩⟩:=x
       simp only at hbad hgood hprev hQ5 hCl
       clear hx hdr hok hxm hxs hr3 hbC
       go_wp2_with fail
       as_aux_lemma =>
        refine wpC_regionH (fun W'=>Below W1.heap.size W1 W') (hWr.drew) (fun OPS D QQ HO HD HD2 HQQ=>?_)
        have hgo8:=hgoL HO 8 66 rfl
        have hgo11:=hgoL HO 11 69 rfl
        clear HO
        refine zM hT.out ?_
        refine zX ?_
        refine zM hT.out ?_
        iterate 2 refine zX ?_
        refine zM hQ5.out ?_
        cases bC with
        | false =>
         exact mZ181
        | true =>
         as_aux_lemma =>
          refine zN hCl.out ?_
          iterate 3 refine zX ?_
          rcases hprev with ⟨d4,d4',d5⟩ | ⟨d4,d4',i1,i2,i3,i4,yp,d5,d6⟩
          ·exact mZ185
          ·as_aux_lemma =>
            have hle:=leqS 9 xp yp
            iterate 3 refine zX ?_
            refine zM hT.out ?_
            iterate 3 refine zX ?_
            refine zM hQ5.out ?_
            refine zX ?_
            refine zM hT.out ?_
            iterate 4 refine zX ?_
            refine wpC_greadS (v:=?_) rfl rfl hgo11.out rfl (fun W hW=>?_) ?_
            rotate_left
            ·exact mZ73
            dsimp only [zB,zC]
            cases hbl:Op.bytesLess yp xp with
            | false =>
             exact mZ182
            | true =>
             exact mZ184
      ·have HSF:Hid (setsFrom sl none sl=true):=by
        show _=_
        rw [hok.out,List.drop_of_length_le (by have:=HSL.out;omega)]
        rfl
       have HE:Hid (E=if (stagesFrom none tl && ll.all entryB)=true then 0 else 9):=by
        show _=_
        rw [HE.out,HSF.out,Bool.true_and]
       have hWq:=hWr
       clear hok hWr hr3 HSF
       as_aux_lemma =>
        go_wp2_with fail
        go_loopw [4] (fun j wr=>∃ k:Nat,k≤t2∧j=.int .i64 (k:Int)∧Hid (stagesFrom none tl=stagesFrom (prevI tl k) (tl.drop k))∧Below W1.heap.size W1 wr) (fun j _=>t2-(intOf j).toNat)
        case atStart=>exact ⟨0,Nat.zero_le _,rfl,rfl,hWq⟩
        case round =>
         clear hWq c0 c1 c2 c3 c4 c5 c6
         obtain ⟨k,hk,rfl,hok,hWr⟩:=hrel
         have hr3:=hrw.out _ hWr
         obtain ⟨c0,c1,c2,c3,c4,c5,c6⟩:=hT.out _ hWr
         by_cases hlt:k<t2
         ·obtain ⟨ad,rfl,hadB,-⟩:=Reads.elK (k:=21) (fun _=>rfl) hr3.stages.2.2 HTL.out hlt
          have hki:(k:Int)<(t2:Int):=tZ1
          have hkl:k<tl.length:=tZ154
          obtain ⟨x,hx⟩:∃ x,x=tl[k]'hkl:=⟨_,rfl⟩
          have hxm:x∈tl:=tZ14
          have hxs:=HSZ.out.eachT x hxm
          have hdr:=List.drop_eq_getElem_cons hkl
          rw [← hx] at hdr
          have hL:Hid (∀ W,Below W1.heap.size W1 W→∀ (j:Nat) (v:Value),([.string ⟨x.into.toArray⟩,.int .i64 x.kind,.string ⟨x.nm.toArray⟩,.int .i64 x.frm,.int .i64 x.gd,.slice x.own.A x.own.n x.own.c,.int .i64 x.ix,.int .i64 x.ct,.string ⟨x.dt.toArray⟩,.int .u64 x.sm.a,.int .u64 x.sm.b,.int .u64 x.sm.c,.int .u64 x.sm.d,.slice x.body.A x.body.n x.body.c,.int .i64 x.at_,.int .i64 x.nx,.int .u64 x.sum.a,.int .u64 x.sum.b,.int .u64 x.sum.c,.int .u64 x.sum.d,.bool x.done])[j]?=some v→W.cell? ((ad.add (k*21)).add j)=some v):=by
           show ∀ W,_→∀ j v,_→_
           intro W hb j v hv
           obtain ⟨ad2,e2,-,hce⟩:=Reads.elK (k:=21) (fun _=>rfl) (hrw.out _ hb).stages.2.2 HTL.out hlt
           injection e2 with e2
           subst e2
           rw [← hx] at hce
           exact mZ78
          have hQ0:Hid (∀ W,Below W1.heap.size W1 W→W.cell? (ad.add (k*21))=some (.string ⟨x.into.toArray⟩)):=by
           show ∀ W,_→_
           intro W hb
           have:=hL.out W hb 0 _ rfl
           rwa [add_zero] at this
          have hSp:Hid (∀ W,Below W1.heap.size W1 W→∀ yp,(∃ h:k-1<tl.length,yp=(tl[k-1]'h).into)→W.cell? (ad.add ((k-1)*21))=some (.string ⟨yp.toArray⟩)):=by
           show ∀ W,_→_
           intro W hb
           rintro yp ⟨h,rfl⟩
           obtain ⟨ad2,e2,-,hce⟩:=Reads.elK (k:=21) (fun _=>rfl) (hrw.out _ hb).stages.2.2 HTL.out (i:=k-1) (show k-1<t2 by omega)
           injection e2 with e2
           subst e2
           have:=hce 0 tZ1
           rw [add_zero] at this
           exact this
          have hbad:Hid ((stageB x=false∨(∃ y,prevI tl k=some y∧Op.bytesLess y x.into=false))→E=9):=by
           show _→_
           intro h
           rw [HE.out,hok.out,hdr,stagesFrom_cons]
           rcases h with h | ⟨y,hy,h⟩
           ·rw [h];simp
           ·rw [hy];simp only [h];simp
          have hgood:Hid (stageB x=true→(∀ y,prevI tl k=some y→Op.bytesLess y x.into=true)→Hid (stagesFrom none tl=stagesFrom (prevI tl (k+1)) (tl.drop (k+1)))):=by
           show _→_→_
           intro h1 h2
           show _=_
           rw [hok.out,hdr,stagesFrom_cons]
           have hp:prevI tl (k+1)=some x.into:=by
            show (tl[k]?).map _=_
            rw [List.getElem?_eq_getElem hkl,← hx]
            rfl
           rw [hp,h1]
           cases hq:prevI tl k with
           | none=>rfl
           | some y=>simp only [h2 y hq];rfl
          have hprev:(decide ((0:Int)<(k:Int))=false∧decide (0<k)=false∧Hid (∀ y,prevI tl k=some y→Op.bytesLess y x.into=true))∨(decide ((0:Int)<(k:Int))=true∧decide (0<k)=true∧(1:Int)≤(k:Int)∧(k:Int)-1<(t2:Int)∧IntKind.i64.wrap ((k:Int)-1)=(k:Int)-1∧((k:Int)-1).toNat=k-1∧∃ yp,Hid ((Op.bytesLess yp x.into=true→∀ y,prevI tl k=some y→Op.bytesLess y x.into=true)∧(Op.bytesLess yp x.into=false→∃ y,prevI tl k=some y∧Op.bytesLess y x.into=false))∧Hid (∃ h:k-1<tl.length,yp=(tl[k-1]'h).into)):=by
           rcases Nat.eq_zero_or_pos k with h0 | h0
           ·exact mZ76
           ·have hk1l:k-1<tl.length:=tZ1
            have hpv:prevI tl k=some (tl[k-1]'hk1l).into:=by
             obtain ⟨j,rfl⟩:∃ j,k=j+1:=⟨k-1,by omega⟩
             show (tl[j]?).map _=_
             have hj:j<tl.length:=tZ107
             rw [List.getElem?_eq_getElem hj]
             rfl
            refine .inr ⟨by simp;omega,by simp;omega,by omega,by omega,IntWalk.i64_in _ tZ1,by omega,(tl[k-1]'hk1l).into,?_,⟨hk1l,rfl⟩⟩
            exact mZ74
          obtain ⟨G,hG⟩:∃ G,G=Value.agg #[.string ⟨x.into.toArray⟩,.int .i64 x.kind,.string ⟨x.nm.toArray⟩,.int .i64 x.frm,.int .i64 x.gd,.slice x.own.A x.own.n x.own.c,.int .i64 x.ix,.int .i64 x.ct,.string ⟨x.dt.toArray⟩,.int .u64 x.sm.a,.int .u64 x.sm.b,.int .u64 x.sm.c,.int .u64 x.sm.d,.slice x.body.A x.body.n x.body.c,.int .i64 x.at_,.int .i64 x.nx,.int .u64 x.sum.a,.int .u64 x.sum.b,.int .u64 x.sum.c,.int .u64 x.sum.d,.bool x.done]:=⟨_,rfl⟩
          have HG0:=Lib.hid hG
          have hCl:Hid (∀ W,Below W1.heap.size W1 W→Calls Tryz.prog 116 #[G] W fun e W'=>e=.returned (.bool (stageB x))∧Below W.heap.size W W'):=fun W hb=>by
           have hxr:=(hrw.out _ hb).eachG x hxm
           rw [hG,stageB_eq]
           exact refStage_any x.into x.kind x.nm x.frm x.gd x.own.A x.own.n x.own.c x.own.l x.ix x.ct x.dt x.sm.a x.sm.b x.sm.c x.sm.d x.body.A x.body.n x.body.c x.body.l x.at_ x.nx x.sum.a x.sum.b x.sum.c x.sum.d x.done W B hxr.own.2.2 hxr.own.1 hxr.body.2.2 hxr.body.1 tZ137 hxs.into hxs.nm hxs.own hxs.body hxs.props
          obtain ⟨bC,hbC⟩:∃ b,b=stageB x:=⟨_,rfl⟩
          rw [← hbC] at hbad hgood hCl
          obtain ⟨into,kind,snm,frm,gd,⟨o1,o2,o3,ol⟩,ix,ct,dt,⟨sa,sb,sc,sd⟩,⟨b1,b2,b3,bl⟩,at_,nx,⟨ua,ub,uc,ud⟩,done⟩:=x
          simp only at hbad hgood hprev HG0 hL hQ0
          clear hx hdr hok hxm hxs hr3 hG hbC
          go_wp2_with fail
          as_aux_lemma =>
           refine wpC_regionH (fun W'=>Below W1.heap.size W1 W') (hWr.drew) (fun OPS D QQ HO HD HD2 HQQ=>?_)
           have hgo7:=hgoL HO 7 100 rfl
           have hgo10:=hgoL HO 10 103 rfl
           clear HO
           refine zX ?_
           refine zM hT.out ?_
           iterate 2 refine zX ?_
           refine wpC_readS (v:=G) rfl rfl (fun W hW=>?_) ?_
           ·replace hW:=HD.out W hW
            rw [HG0.out]
            exact quiet_load_at 77 _ rfl (ad.add (k*21)) rfl [.string ⟨into.toArray⟩,.int .i64 kind,.string ⟨snm.toArray⟩,.int .i64 frm,.int .i64 gd,.slice o1 o2 o3,.int .i64 ix,.int .i64 ct,.string ⟨dt.toArray⟩,.int .u64 sa,.int .u64 sb,.int .u64 sc,.int .u64 sd,.slice b1 b2 b3,.int .i64 at_,.int .i64 nx,.int .u64 ua,.int .u64 ub,.int .u64 uc,.int .u64 ud,.bool done] _ (hL.out W hW) Tryz.underlying77 rfl tZ2
           dsimp only [zB,zC]
           cases bC with
           | false =>
            exact mZ181
           | true =>
            as_aux_lemma =>
             refine zN hCl.out ?_
             iterate 3 refine zX ?_
             rcases hprev with ⟨d4,d4',d5⟩ | ⟨d4,d4',i1,i2,i3,i4,yp,d5,d6⟩
             ·exact mZ185
             ·as_aux_lemma =>
               have hle:=leqS 9 into yp
               iterate 3 refine zX ?_
               refine zM hT.out ?_
               iterate 3 refine zX ?_
               refine wpC_greadS (v:=?_) rfl rfl hgo10.out rfl (fun W hW=>?_) ?_
               rotate_left
               ·replace hW:=HD.out W hW
                skip
                have q0:=hQ0.out W hW
                exact mZ72
               dsimp only [zB,zC]
               refine zX ?_
               refine zM hT.out ?_
               iterate 4 refine zX ?_
               refine wpC_greadS (v:=?_) rfl rfl hgo10.out rfl (fun W hW=>?_) ?_
               rotate_left
               ·exact mZ73
               dsimp only [zB,zC]
               cases hbl:Op.bytesLess yp into with
               | false =>
                exact mZ182
               | true =>
                exact mZ184
         ·have HSF:Hid (stagesFrom none tl=true):=by
           show _=_
           rw [hok.out,List.drop_of_length_le tZ154]
           rfl
          have HE:Hid (E=if ll.all entryB=true then 0 else 9):=by
           show _=_
           rw [HE.out,HSF.out,Bool.true_and]
          have hWq:=hWr
          clear hok hWr hr3 HSF
          go_wp2_with fail
          go_loopw [5] (fun j wr=>∃ k:Nat,k≤l2∧j=.int .i64 (k:Int)∧Hid ((ll.take k).all entryB=true)∧Below W1.heap.size W1 wr) (fun j _=>l2-(intOf j).toNat)
          case atStart=>exact ⟨0,Nat.zero_le _,rfl,rfl,hWq⟩
          case round =>
           clear hWq c0 c1 c2 c3 c4 c5 c6
           obtain ⟨k,hk,rfl,hok,hWr⟩:=hrel
           have hr3:=hrw.out _ hWr
           obtain ⟨c0,c1,c2,c3,c4,c5,c6⟩:=hT.out _ hWr
           by_cases hlt:k<l2
           ·obtain ⟨ad,rfl,-,p0,p1,p2,p3⟩:=Reads.el4 (f0:=fun x:EntryR=>.string ⟨x.user.toArray⟩) (f1:=fun x=>.int .i64 x.kind) (f2:=fun x=>.string ⟨x.path.toArray⟩) (f3:=fun x=>.int .i64 x.err) hr3.log.2.2 HLL.out hlt
            have hki:(k:Int)<(l2:Int):=tZ1
            have hkl:k<ll.length:=by have:=HLL.out;omega
            obtain ⟨x,hx⟩:∃ x,x=ll[k]'hkl:=⟨_,rfl⟩
            have hxs:=HSZ.out.eachL x tZ14
            rw [← hx] at p0 p1 p2 p3
            have htk:=List.take_succ_eq_append_getElem hkl
            rw [← hx] at htk
            have HTK:=Lib.hid htk
            have HXM:Hid (x∈ll):=by show _∈_;rw [hx];exact List.getElem_mem _
            have hc:=refEntry_any x.user x.kind x.path x.err wr hxs.user hxs.path
            rw [← entryB_P x] at hc
            obtain ⟨bC,hbC⟩:∃ b,b=entryB x:=⟨_,rfl⟩
            rw [← hbC] at hc
            have HBC:=Lib.hid hbC
            obtain ⟨xu,xk,xp,xe⟩:=x
            simp only at p0 p1 p2 p3 hc
            clear hx htk hbC hxs hr3
            go_wp2_with fail
            refine hc.mono ?_
            clear hc
            rintro e w9 ⟨rfl,hb9⟩
            have hW:=hWr.trans (hb9.mono hWr.size)
            clear hb9 hWr
            cases bC with
            | false =>
             have HB:Hid (E=9):=by
              show _=_
              rw [HE.out,if_neg]
              intro h
              have:=List.all_eq_true.1 h _ HXM.out
              rw [← HBC.out] at this
              cases this
             go_wp2_with fail
             go_ret
             exact ⟨by rw [HB.out];rfl,HB1.out.trans (hW.mono tZ10)⟩
            | true =>
             go_wp2_with fail
             go_roundw
             case rel=>exact ⟨k+1,by omega,by go_num,by show List.all _ _=_;rw [HTK.out,List.all_append,hok.out];simp [← HBC.out],hW⟩
             case measure=>simp [intOf];omega
           ·have HB:Hid (E=0):=by
             show _=_
             rw [HE.out,if_pos]
             have:=hok.out
             rwa [List.take_of_length_le (by have:=HLL.out;omega)] at this
            clear hok
            go_wp2_with fail
            go_ret
            exact ⟨by rw [HB.out];rfl,HB1.out.trans (hWr.mono tZ10)⟩
end Go.Proofs.YtiojfffgiejibaaGreatDoor
namespace Go.Proofs.YtiojfffgiejibaaGreatDoor
open Go.RowKit
section
variable {P:Program}
theorem run_clear_rowK (w:World) (t ty e:TypeId) (z:Value) (ht:P.underlying t=some (.slice e)) (hv:∀ w,(zeroValue e).run P w=.ok z w) (h1:∀ u∈z.cells.toList,u.oneCell'=true)
  (g o n c:Nat) (cur:List Value) (T:TypeId) (hg:w.heap[g]?=some (.cells cur.toArray T (0,0))) (hn:0<n) (hfit:o+n*z.cells.size≤cur.length) :
  (Builtin.clear_ #[t] ty #[.slice (some ⟨g,o,none⟩) n c]).run P w=.ok (.tuple #[]) (w.setRow g (splice cur o (Builtin.zeroCells z.cells n).toList).toArray):=by
 have hzl:(Builtin.zeroCells z.cells n).toList.length=n*z.cells.size:=by simp [Builtin.zeroCells]
 have hz1:∀ u∈(Builtin.zeroCells z.cells n).toList,u.oneCell'=true:=by
  intro u hu
  simp only [Builtin.zeroCells,Array.toList_map,Array.toList_range,List.mem_map,List.mem_range] at hu
  obtain ⟨i,hi,rfl⟩:=hu
  have hk:0<z.cells.size:=by
   rcases Nat.eq_zero_or_pos z.cells.size with h | h
   ·rw [h] at hi;omega
   ·exact h
  have hm:=Nat.mod_lt i hk
  rw [getElem!_pos z.cells _ hm]
  exact h1 _ tZ4
 have hst:=run_storeCells_at P g o T (Builtin.zeroCells z.cells n).toList 0 cur.toArray w hg (by rw [hzl];simpa using hfit) hz1
 obtain ⟨m,rfl⟩:∃ m,n=m+1:=⟨n-1,by omega⟩
 simp [Builtin.clear_,run_underlying ht,hv,hst,splice]
theorem wp_clearK {o:Oper} {a:Act} {w:World} {K:Act→World→Prop} {Q:Exit→Act→World→Prop} (d:Operand) (t:TypeId)
  (ho:o.op=.call { callee:=.builtin .clear,args:=#[d],argTypes:=#[t] }) (e:TypeId) (z:Value) (ht:P.underlying t=some (.slice e)) (hv:∀ w,(zeroValue e).run P w=.ok z w) (h1:∀ u∈z.cells.toList,u.oneCell'=true)
  (g off n c:Nat) (hd:a.eval d=.slice (some ⟨g,off,none⟩) n c) (cur:List Value) (T:TypeId) (hg:w.heap[g]?=some (.cells cur.toArray T (0,0))) (hfit:off+n*z.cells.size≤cur.length)
  (h:∀ w' zs,zs.length=n*z.cells.size→Hid (w'.heap[g]?=some (.cells (splice cur off zs).toArray T (0,0)))→w.grownBy w' (some g)→K (a.put o.dst (.tuple #[])) w'):o.wp P a w K Q:=by
 rcases Nat.eq_zero_or_pos n with h0 | h0
 ·subst h0
  have hrun:(Builtin.clear_ #[t] o.type #[.slice (some ⟨g,off,none⟩) 0 c]).run P w=.ok (.tuple #[]) w:=by simp [Builtin.clear_,run_underlying ht]
  unfold Oper.wp
  simp [execOp,ho,resolve,invoke,builtin,hd,hrun,Result.andThen]
  exact h w [] tZ4 (show _=_ by simpa [splice] using hg) (World.grownBy.refl _ _)
 ·have hrun:=run_clear_rowK (P:=P) w t o.type e z ht hv h1 g off n c cur T hg h0 hfit
  unfold Oper.wp
  simp [execOp,ho,resolve,invoke,builtin,hd,hrun,Result.andThen]
  exact h _ _ (by simp [Builtin.zeroCells]) (show _=_ from setRow_heap w g _ _ T _ hg) (grown_setRow _)
theorem wpList_clearK {w:World} {ops:Array Oper} {rest:List Oper} {o:Oper} {a:Act} {Q:Exit→Act→World→Prop} (hgd:o.guard=none) (d:Operand) (t:TypeId)
  (ho:o.op=.call { callee:=.builtin .clear,args:=#[d],argTypes:=#[t] }) (e:TypeId) (z:Value) (ht:P.underlying t=some (.slice e)) (hv:∀ w,(zeroValue e).run P w=.ok z w) (h1:∀ u∈z.cells.toList,u.oneCell'=true)
  (g off n c:Nat) (hd:a.eval d=.slice (some ⟨g,off,none⟩) n c) (cur:List Value) (T:TypeId) (hg:w.heap[g]?=some (.cells cur.toArray T (0,0))) (hfit:off+n*z.cells.size≤cur.length)
  (h:∀ w' zs,zs.length=n*z.cells.size→Hid (w'.heap[g]?=some (.cells (splice cur off zs).toArray T (0,0)))→w.grownBy w' (some g)→wpList P ops Q rest (a.put o.dst (.tuple #[])) w'):wpList P ops Q (o :: rest) a w :=
 wpList_plain hgd fun _ hK=>wp_clearK d t ho e z ht hv h1 g off n c hd cur T hg hfit (fun w' zs h0 h1 h2=>hK _ _ (h w' zs h0 h1 h2))
end
end Go.Proofs.YtiojfffgiejibaaGreatDoor
namespace Go.Proofs.YtiojfffgiejibaaGreatDoor
open Go.RowKit
theorem Tryz.delSnap_size:(Tryz.prog.info? 58).map (·.size)=some 5:=tZ2
theorem Tryz.delSnap_zero (w:World):(zeroValue 58).run Tryz.prog w=.ok (.agg #[.string ByteArray.empty,.int .i64 0,.slice none 0 0,.slice none 0 0,.slice none 0 0]) w:=tZ2
theorem delSnap_splice (cur:List Value) (n i c0:Nat) (xs:List Value) (hx:cur.take (n*5)=xs) (hi:i<n) (hn:n≤c0) (hl:cur.length=c0*5) (zs:List Value) (hz:zs.length=1*5) :
  (splice (splice cur (i*5) (xs.drop ((i+1)*5))) ((n-1)*5) zs).take ((n-1)*5)=xs.take (i*5)++xs.drop ((i+1)*5)∧(splice (splice cur (i*5) (xs.drop ((i+1)*5))) ((n-1)*5) zs).length=c0*5:=by
 have hxl:xs.length=n*5:=tZ89
 have hdl:(xs.drop ((i+1)*5)).length=(n-1-i)*5:=tZ71
 have h1:(splice cur (i*5) (xs.drop ((i+1)*5))).length=c0*5:=by
  exact mZ189
 refine ⟨?_,?_⟩
 ·have e1:(splice (splice cur (i*5) (xs.drop ((i+1)*5))) ((n-1)*5) zs).take ((n-1)*5)=(splice cur (i*5) (xs.drop ((i+1)*5))).take ((n-1)*5):=by
   show List.take _ (List.take _ (splice cur (i*5) (xs.drop ((i+1)*5)))++(zs++_))=_
   exact mZ188
  rw [e1]
  have hc:cur.take (i*5)=xs.take (i*5):=by rw [← hx,List.take_take,Nat.min_eq_left tZ1]
  have hL:(xs.take (i*5)++xs.drop ((i+1)*5)).length=(n-1)*5:=tZ81
  show List.take _ (cur.take (i*5)++(xs.drop ((i+1)*5)++_))=_
  exact mZ187
 ·show (List.take _ (splice cur (i*5) (xs.drop ((i+1)*5)))++(zs++List.drop _ _)).length=_
  exact mZ186
set_option maxRecDepth 100000 in
set_option maxHeartbeats 1000000 in
theorem delSnap_any (xs:List Value) (h1:∀ u∈xs,u.oneCell'=true) (n i c0 base:Nat) (A0:Option Addr) (w:World) (hi:i<n) (hn:n≤5000000000000) (hown:w.ownsRow base 58 5 (.slice A0 n c0) n xs) :
  Calls Tryz.prog 76 #[.slice A0 n c0,.int .i64 i,.int .i64 ((i:Int)+1)] w fun e w'=>∃ v,e=.returned v∧w'.ownsRow base 58 5 v (n-1) (xs.take (i*5)++xs.drop ((i+1)*5))∧w.grownBy w' (Value.slice A0 n c0).ownBlock:=by
 rcases hown.2 with ⟨_,h0⟩ | ⟨g,cap,cur,hs,hbg,hh,hnc,hcm,hsz,hx⟩
 ·omega
 injection hs with e1 _ e2
 subst e1 e2
 have hh':w.heap[g]?=some (.cells cur.toList.toArray 58 (0,0)):=by simpa using hh
 have hcl:cur.toList.length=c0*5:=tZ114
 obtain ⟨cl,hcl0⟩:∃ cl,cl=cur.toList:=⟨_,rfl⟩
 rw [← hcl0] at hh' hcl hx
 have hxl:xs.length=n*5:=hown.1
 have hdl:(xs.drop ((i+1)*5)).length=(n-1-i)*5:=tZ71
 have hcells:∀ (w':World),w'.heap[g]?=w.heap[g]?→∀ j v,(xs.drop ((i+1)*5))[j]?=some v→w'.cell? ((⟨g,(i+1)*5,none⟩:Addr).add j)=some v:=by
  intro w' hw j v hv
  have hv2:cl[(i+1)*5+j]?=some v:=by
   exact mZ192
  have had:(⟨g,(i+1)*5,none⟩:Addr).add j=⟨g,(i+1)*5+j,none⟩:=tZ49
  rw [had,cell_of_row w' g _ _ _ _ (hw.trans hh')]
  simpa using hv2
 have hni:(i:Int)+1≤(n:Int):=tZ1
 have hin:(i:Int)≤(n:Int):=tZ1
 have hnci:(n:Int)≤(c0:Int):=tZ1
 have hcmi:c0≤9223372036854775807:=by unfold maxLen at hcm;omega
 have hne:(((i:Int)) == (i:Int)+1)=false:=tZ101
 have ht1:((i:Int)+1).toNat=i+1:=tZ1
 have hsub:n-(i+1)=n-1-i:=tZ1
 have hi1c:(i:Int)+1≤(c0:Int):=tZ1
 have hic:(i:Int)≤(c0:Int):=tZ1
 have hi0:(0:Int)≤(i:Int)+1:=tZ1
 have HC:=Lib.hid hcells
 have HH:=Lib.hid hh'
 have HDL:=Lib.hid hdl
 have HXL:=Lib.hid hxl
 have HCL:=Lib.hid hcl
 have HX:=Lib.hid hx
 have H1:=Lib.hid (fun u hu=>h1 u (List.mem_of_mem_drop (i:=(i+1)*5) hu))
 have HSP:=Lib.hid (fun zs hz=>delSnap_splice cl n i c0 xs hx hi hnc hcl zs hz)
 have hgl:g<w.heap.size:=heap_lt hh'
 clear hcells hh' hdl hxl hcl hx h1 hown hh hsz hcl0
 go_enter Tryz.func76,Tryz.ntmps76
 go_wp2_with fail
 by_cases hlast:c0=i+1
 ·have hnl:n=i+1:=tZ1
  subst hlast
  subst hnl
  have hic2:(i:Int)≤(i:Int)+1:=tZ1
  have hnil:xs.drop ((i+1)*5)=[]:=List.drop_eq_nil_of_le tZ144
  have HNIL:=Lib.hid hnil
  clear hnil
  go_region_law (refine step_appendK rfl _ _ 53 rfl 58 5 Tryz.underlying53 Tryz.delSnap_size g i (i+1) ⟨g,0,none⟩ 0 0 tZ30 tZ30 cl 58 HH.out [] tZ4 tZ4 (by rw [HCL.out];simp;omega) tZ1 tZ4 ?_;intro w1 hg1 hgr1)
  have hgr:=grown_drew hgr1
  have HGR:=Lib.hid hgr
  have HG1:=hg1
  have hz1:∀ u∈(.agg #[.string ByteArray.empty,.int .i64 0,.slice none 0 0,.slice none 0 0,.slice none 0 0]:Value).cells.toList,u.oneCell'=true:=fun u hu=>List.all_eq_true.1 (show ((.agg #[.string ByteArray.empty,.int .i64 0,.slice none 0 0,.slice none 0 0,.slice none 0 0]:Value).cells.toList.all (·.oneCell'))=true from rfl) u hu
  clear hg1 hgr1 hgr
  simp only [Act.put,zA]
  go_wp2_with (with_reducible refine wpList_clearK rfl (.tmp 31) 53 rfl 58 (.agg #[.string ByteArray.empty,.int .i64 0,.slice none 0 0,.slice none 0 0,.slice none 0 0]) Tryz.underlying53 Tryz.delSnap_zero hz1 g (i*5) 1 1 tZ92 (splice cl (i*5) ([])) 58 HG1.out (by simp [splice,Value.cells,HCL.out];omega) ?_;intro w2 zs hzs hg2 hgr2)
  have hzz:zs.length=1*5:=by rw [hzs];rfl
  have hsp:=HSP.out zs hzz
  rw [HNIL.out,Nat.add_sub_cancel] at hsp
  have hrow:=own_of_row (base:=base) hg2.out hbg (Nat.le_succ i) hcm hsp.2 hsp.1
  exact mZ191
 ·have hlt2:i+1<c0:=tZ1
  obtain ⟨p,hp⟩:∃ p,p=n-1:=⟨_,rfl⟩
  have hip:i+(n-1-i)=p:=tZ1
  have hnp1:n-p=1:=tZ1
  have hpn:(p:Int)≤(n:Int):=tZ1
  have hpc:(p:Int)≤(c0:Int):=tZ1
  have hcp:¬ c0=p:=tZ1
  have HIP:=Lib.hid hip
  have HP:=Lib.hid hp
  clear hip hp
  go_region_law (refine step_appendK rfl _ _ 53 rfl 58 5 Tryz.underlying53 Tryz.delSnap_size g i c0 ⟨g,(i+1)*5,none⟩ (n-1-i) (c0-(i+1)) tZ30 tZ30 cl 58 HH.out (xs.drop ((i+1)*5)) HDL.out (HC.out _ rfl) (by rw [HDL.out,HCL.out];omega) tZ1 H1.out ?_;intro w1 hg1 hgr1)
  have hgr:=grown_drew hgr1
  have HGR:=Lib.hid hgr
  have HG1:=hg1
  have hz1:∀ u∈(.agg #[.string ByteArray.empty,.int .i64 0,.slice none 0 0,.slice none 0 0,.slice none 0 0]:Value).cells.toList,u.oneCell'=true:=fun u hu=>List.all_eq_true.1 (show ((.agg #[.string ByteArray.empty,.int .i64 0,.slice none 0 0,.slice none 0 0,.slice none 0 0]:Value).cells.toList.all (·.oneCell'))=true from rfl) u hu
  clear hg1 hgr1 hgr
  simp only [Act.put,zA]
  rw [HIP.out]
  go_wp2_with (with_reducible refine wpList_clearK rfl (.tmp 31) 53 rfl 58 (.agg #[.string ByteArray.empty,.int .i64 0,.slice none 0 0,.slice none 0 0,.slice none 0 0]) Tryz.underlying53 Tryz.delSnap_zero hz1 g (p*5) 1 (c0-p) tZ92 (splice cl (i*5) (xs.drop ((i+1)*5))) 58 HG1.out (by have h2:=(HSP.out (.agg #[.string ByteArray.empty,.int .i64 0,.slice none 0 0,.slice none 0 0,.slice none 0 0]:Value).cells.toList rfl).2;have h3:=HDL.out;have h4:=HCL.out;have h5:=HP.out;unfold splice;simp only [List.length_append,List.length_take,List.length_drop] at h3 ⊢;simp [Value.cells];omega) ?_;intro w2 zs hzs hg2 hgr2)
  have hzz:zs.length=1*5:=by rw [hzs];rfl
  have hsp:=HSP.out zs hzz
  rw [← HP.out] at hsp
  have hrow:=own_of_row (base:=base) hg2.out hbg (by have:=HP.out;omega) hcm hsp.2 hsp.1
  exact mZ190
end Go.Proofs.YtiojfffgiejibaaGreatDoor
