/-
  tree.Check, tree.Kids: by their contracts.
-/
import Derived.Test.YtiojfffgiejibaaGreatDoorQsM1
import Derived.WalkKit
import Derived.WalkSpells
import Derived.Below
import Derived.Laws.OwnMore
import Derived.Deep.AppendLies
import Derived.Deep.Draws
import Derived.Laws.Rows
import Derived.Maps.AppendAt
import Derived.RegionTactic
import Derived.OwnWalk
import Derived.Deep.QuietTactic
import Derived.BigQuiet
import Derived.Lib.Hide
import Derived.Laws.CopyOwn
import Derived.IntWalk
import Derived.Test.YtiojfffgiejibaaGreatDoorRows
import Derived.Handy
import Derived.Deep.Quiet
import Derived.Orders
import Derived.Lib.SplitLaws
import Derived.Lib.LastIndexByte
import Derived.Lib.Strings
import Derived.ShutString
import Derived.Sort.Walk0
import Derived.Sort.KeysCollected
import Derived.Shelf.Strings.Search1
import Derived.Shelf.Strings.Search2
import Derived.Shelf.Strings.Search3
import Derived.Shelf.Strings.Cut
import Derived.Shelf.Strings.Count
import Derived.Shelf.LaysM
import Derived.Shelf.Strings.Shaped
import Derived.Shelf.Strings.LastIndex
import Derived.Shelf.Strings.Split
import Derived.Shelf.Strings.SplitShaped
import Derived.Shelf.Unicode.Decode
import Derived.Shelf.Strings.RuneCount
import Derived.Shelf.Strings.Explode
import Derived.Shelf.Unicode.DecodeSlow
import Derived.Shelf.Slices.Turned
import Derived.Test.YtiojfffgiejibaaGreatDoorProg
import Derived.Laws.BytesString
import Derived.Laws.IdiomStrings
import Derived.Lib.ConvBytes
import Derived.Deep.MidRow
import Derived.Test.YtiojfffgiejibaaGreatDoorQ0
import Derived.Test.YtiojfffgiejibaaGreatDoorQs1
import Derived.Test.YtiojfffgiejibaaGreatDoorQs2
import Derived.Test.YtiojfffgiejibaaGreatDoorQs3
import Derived.Test.YtiojfffgiejibaaGreatDoorQs5
import Derived.Test.YtiojfffgiejibaaGreatDoorQs7
import Derived.Test.YtiojfffgiejibaaGreatDoorQs10
import Derived.Test.YtiojfffgiejibaaGreatDoorQs11
import Derived.Test.YtiojfffgiejibaaGreatDoorQs14
import Derived.Test.YtiojfffgiejibaaGreatDoorQs15
import Derived.Test.YtiojfffgiejibaaGreatDoorQs16
namespace Go.Proofs.YtiojfffgiejibaaGreatDoor
open Go.RowKit
theorem TenR.rd.below {t:TenR} {w w':World} {B:Nat} (h:t.rd w B) (hb:Below B w w'):t.rd w' B :=
 ⟨h.sets.below hb,fun y hy=>⟨(h.eachS y hy).body.below hb,(h.eachS y hy).snaps.below hb,fun z hz=>⟨((h.eachS y hy).each z hz).body.below hb,((h.eachS y hy).each z hz).tags.below hb,((h.eachS y hy).each z hz).own.below hb⟩,(h.eachS y hy).own.below hb⟩,h.grants.below hb,h.stages.below hb,fun y hy=>⟨(h.eachG y hy).own.below hb,(h.eachG y hy).body.below hb⟩,h.log.below hb⟩
set_option maxRecDepth 100000 in
set_option maxHeartbeats 4000000 in
theorem tcheck_any (t:TenR) (w:World) (B:Nat) (hr:t.rd w B) (hB:B≤w.heap.size) (hz:t.sz) (hmx:HasMax w) :
  Calls Tryz.prog 58 #[t.val] w fun e w'=>e=.returned (.int .i64 (tenE t))∧Below w.heap.size w w':=by
 obtain ⟨nm,quota,next,⟨s1,s2,s3,sl⟩,⟨g1,g2,g3,gl⟩,⟨t1,t2,t3,tl⟩,⟨l1,l2,l3,ll⟩⟩:=t
 show Calls Tryz.prog 58 #[.agg #[.string ⟨nm.toArray⟩,.int .i64 quota,.int .i64 next,.slice s1 s2 s3,.slice g1 g2 g3,.slice t1 t2 t3,.slice l1 l2 l3]] w _
 have hb1:=(Below.refl w.heap.size w).alloc (Nat.le_refl _) (.cells #[.string ⟨nm.toArray⟩,.int .i64 quota,.int .i64 next,.slice s1 s2 s3,.slice g1 g2 g3,.slice t1 t2 t3,.slice l1 l2 l3] 27)
 have kT:=Blk.new w 27 #[.string ⟨nm.toArray⟩,.int .i64 quota,.int .i64 next,.slice s1 s2 s3,.slice g1 g2 g3,.slice t1 t2 t3,.slice l1 l2 l3]
 obtain ⟨W1,hW1⟩:∃ W,W=w.alloc (.cells #[.string ⟨nm.toArray⟩,.int .i64 quota,.int .i64 next,.slice s1 s2 s3,.slice g1 g2 g3,.slice t1 t2 t3,.slice l1 l2 l3] 27):=⟨_,rfl⟩
 have hsz1:W1.heap.size=w.heap.size+1:=tZ32
 rw [← hW1] at hb1 kT
 have hT:=Lib.hid (fun (W':World) (hB':Below W1.heap.size W1 W')=>(⟨(kT.below hB' tZ1).cell 0,(kT.below hB' tZ1).cell 1,(kT.below hB' tZ1).cell 2,(kT.below hB' tZ1).cell 3,(kT.below hB' tZ1).cell 4,(kT.below hB' tZ1).cell 5,(kT.below hB' tZ1).cell 6⟩:W'.cell? ⟨w.heap.size,0,none⟩=some (.string ⟨nm.toArray⟩)∧W'.cell? ⟨w.heap.size,1,none⟩=some (.int .i64 quota)∧W'.cell? ⟨w.heap.size,2,none⟩=some (.int .i64 next)∧W'.cell? ⟨w.heap.size,3,none⟩=some (.slice s1 s2 s3)∧W'.cell? ⟨w.heap.size,4,none⟩=some (.slice g1 g2 g3)∧W'.cell? ⟨w.heap.size,5,none⟩=some (.slice t1 t2 t3)∧W'.cell? ⟨w.heap.size,6,none⟩=some (.slice l1 l2 l3)))
 have hrw:∀ W',Below W1.heap.size W1 W'→TenR.rd W' B ⟨nm,quota,next,⟨s1,s2,s3,sl⟩,⟨g1,g2,g3,gl⟩,⟨t1,t2,t3,tl⟩,⟨l1,l2,l3,ll⟩⟩∧W1.heap.size≤W'.heap.size∧HasMax W':=fun W' hb=>⟨hr.below ((hb1.trans (hb.mono tZ1)).mono hB),hb.size,hmx.below (hb1.trans (hb.mono tZ1))⟩
 have hN:Hid (∀ W,Below W1.heap.size W1 W→Calls Tryz.prog 77 #[.string ⟨nm.toArray⟩] W fun e W'=>e=.returned (.bool (nameB nm))∧Below W.heap.size W W'):=fun W _=>name_any ⟨nm.toArray⟩ W
 have hQ:Hid (∀ W,Below W1.heap.size W1 W→Calls Tryz.prog 105 #[.int .i64 quota,.int .i64 0] W fun e W'=>e=.returned (.bool (amt quota 0))∧Below W.heap.size W W'):=fun W _=>amountB_any quota 0 W
 have hX:Hid (∀ W,Below W1.heap.size W1 W→Calls Tryz.prog 105 #[.int .i64 next,.int .i64 1] W fun e W'=>e=.returned (.bool (amt next 1))∧Below W.heap.size W W'):=fun W _=>amountB_any next 1 W
 have hS:Hid (∀ W,Below W1.heap.size W1 W→Calls Tryz.prog 106 #[.agg #[.string ⟨nm.toArray⟩,.int .i64 quota,.int .i64 next,.slice s1 s2 s3,.slice g1 g2 g3,.slice t1 t2 t3,.slice l1 l2 l3]] W fun e W'=>e=.returned (.bool (setsB sl))∧Below W.heap.size W W'):=fun W hb=>by
  obtain ⟨r1,r2,r3⟩:=hrw W hb
  exact sets_any _ _ _ _ _ _ sl s2 r1.sets.1 s1 s3 W B r1.sets.2.2 r1.eachS tZ1 hz.sets hz.eachS r3
 have hG:Hid (∀ W,Below W1.heap.size W1 W→Calls Tryz.prog 107 #[.slice g1 g2 g3] W fun e W'=>e=.returned (.int .i64 (if grantsB gl=true then 0 else 9))∧Below W.heap.size W W'):=fun W hb=>by
  obtain ⟨r1,r2,r3⟩:=hrw W hb
  exact checkG_any gl g2 r1.grants.1 g1 g3 W B r1.grants.2.2 tZ1 tZ64 hz.eachG r3
 have hT2:Hid (∀ W,Below W1.heap.size W1 W→Calls Tryz.prog 108 #[.slice t1 t2 t3] W fun e W'=>e=.returned (.bool (stagesB tl))∧Below W.heap.size W W'):=fun W hb=>by
  obtain ⟨r1,r2,r3⟩:=hrw W hb
  exact stages_any tl t2 r1.stages.1 t1 t3 W B r1.stages.2.2 r1.eachG tZ1 hz.stages hz.eachT r3
 have hL:Hid (∀ W,Below W1.heap.size W1 W→Calls Tryz.prog 109 #[.slice l1 l2 l3,.func (.func 110) #[] #[]] W fun e W'=>e=.returned (.bool (!(ll.all entryB)))∧Below W.heap.size W W'):=fun W hb=>by
  obtain ⟨r1,r2,r3⟩:=hrw W hb
  exact oddLog_any ll l2 r1.log.1 l1 l3 W B r1.log.2.2 tZ1 hz.log hz.eachL r3
 have hlen:l2=ll.length:=hr.log.1
 have HV:Hid (tenE ⟨nm,quota,next,⟨s1,s2,s3,sl⟩,⟨g1,g2,g3,gl⟩,⟨t1,t2,t3,tl⟩,⟨l1,l2,l3,ll⟩⟩=if (nameB nm && (amt quota 0 && (amt next 1 && (setsB sl && (grantsB gl && (stagesB tl && (decide (l2≤16) && ll.all entryB)))))))=true then 0 else 9):=by
  show _=_
  rw [hlen]
  unfold tenE tenB logB
  simp only [Bool.and_assoc]
 obtain ⟨E,hE⟩:∃ V,V=tenE ⟨nm,quota,next,⟨s1,s2,s3,sl⟩,⟨g1,g2,g3,gl⟩,⟨t1,t2,t3,tl⟩,⟨l1,l2,l3,ll⟩⟩:=⟨_,rfl⟩
 obtain ⟨bN,hbN⟩:∃ V,V=nameB nm:=⟨_,rfl⟩
 obtain ⟨bQ,hbQ⟩:∃ V,V=amt quota 0:=⟨_,rfl⟩
 obtain ⟨bX,hbX⟩:∃ V,V=amt next 1:=⟨_,rfl⟩
 obtain ⟨bS,hbS⟩:∃ V,V=setsB sl:=⟨_,rfl⟩
 obtain ⟨bG,hbG⟩:∃ V,V=grantsB gl:=⟨_,rfl⟩
 obtain ⟨bT,hbT⟩:∃ V,V=stagesB tl:=⟨_,rfl⟩
 obtain ⟨bL,hbL⟩:∃ V,V=ll.all entryB:=⟨_,rfl⟩
 rw [← hE] at HV ⊢
 rw [← hbN] at HV hN
 rw [← hbQ] at HV hQ
 rw [← hbX] at HV hX
 rw [← hbS] at HV hS
 rw [← hbG] at HV hG
 rw [← hbT] at HV hT2
 rw [← hbL] at HV hL
 have HB1:=Lib.hid hb1
 have HSZ1:=Lib.hid hsz1
 clear hE hbN hbQ hbX hbS hbG hbT hbL hb1 hsz1 kT hr hz hrw hlen
 have hW0:=Below.refl W1.heap.size W1
 go_enter Tryz.func58,Tryz.ntmps58
 have hc:=hN.out _ hW0
 cases bN with
 | false =>
  exact mZ122
 | true =>
  go_wp2_with fail
  rw [← hW1]
  refine hc.mono ?_
  clear hc
  rintro e w11 ⟨rfl,hbw11⟩
  have hWw11:=hW0.trans (hbw11.mono hW0.size)
  clear hbw11
  obtain ⟨c0,c1,c2,c3,c4,c5,c6⟩:=hT.out _ hWw11
  have hc:=hQ.out _ hWw11
  cases bQ with
  | false =>
   exact mZ123
  | true =>
   go_wp2_with fail
   refine hc.mono ?_
   clear hc
   rintro e w12 ⟨rfl,hbw12⟩
   have hWw12:=hWw11.trans (hbw12.mono hWw11.size)
   clear hbw12
   obtain ⟨c0,c1,c2,c3,c4,c5,c6⟩:=hT.out _ hWw12
   have hc:=hX.out _ hWw12
   cases bX with
   | false =>
    exact mZ124
   | true =>
    go_wp2_with fail
    refine hc.mono ?_
    clear hc
    rintro e w13 ⟨rfl,hbw13⟩
    have hWw13:=hWw12.trans (hbw13.mono hWw12.size)
    clear hbw13
    obtain ⟨c0,c1,c2,c3,c4,c5,c6⟩:=hT.out _ hWw13
    have hc:=hS.out _ hWw13
    cases bS with
    | false =>
     go_wp2_with fail
     refine hc.mono ?_
     clear hc
     rintro e w14 ⟨rfl,hbw14⟩
     have hWw14:=hWw13.trans (hbw14.mono hWw13.size)
     clear hbw14
     obtain ⟨c0,c1,c2,c3,c4,c5,c6⟩:=hT.out _ hWw14
     have HB:Hid (E=9):=tZ10
     exact mZ54
    | true =>
     go_wp2_with fail
     refine hc.mono ?_
     clear hc
     rintro e w14 ⟨rfl,hbw14⟩
     have hWw14:=hWw13.trans (hbw14.mono hWw13.size)
     clear hbw14
     obtain ⟨c0,c1,c2,c3,c4,c5,c6⟩:=hT.out _ hWw14
     have hc:=hG.out _ hWw14
     cases bG with
     | false =>
      rw [if_neg tZ4] at hc
      go_wp2_with fail
      refine hc.mono ?_
      clear hc
      rintro e w15 ⟨rfl,hbw15⟩
      have hWw15:=hWw14.trans (hbw15.mono hWw14.size)
      clear hbw15
      obtain ⟨c0,c1,c2,c3,c4,c5,c6⟩:=hT.out _ hWw15
      have HB:Hid (E=9):=tZ10
      exact mZ125
     | true =>
      rw [if_pos rfl] at hc
      go_wp2_with fail
      refine hc.mono ?_
      clear hc
      rintro e w15 ⟨rfl,hbw15⟩
      have hWw15:=hWw14.trans (hbw15.mono hWw14.size)
      clear hbw15
      obtain ⟨c0,c1,c2,c3,c4,c5,c6⟩:=hT.out _ hWw15
      have hc:=hT2.out _ hWw15
      cases bT with
      | false =>
       go_wp2_with fail
       refine hc.mono ?_
       clear hc
       rintro e w16 ⟨rfl,hbw16⟩
       have hWw16:=hWw15.trans (hbw16.mono hWw15.size)
       clear hbw16
       obtain ⟨c0,c1,c2,c3,c4,c5,c6⟩:=hT.out _ hWw16
       have HB:Hid (E=9):=tZ10
       exact mZ126
      | true =>
       go_wp2_with fail
       refine hc.mono ?_
       clear hc
       rintro e w16 ⟨rfl,hbw16⟩
       have hWw16:=hWw15.trans (hbw16.mono hWw15.size)
       clear hbw16
       obtain ⟨c0,c1,c2,c3,c4,c5,c6⟩:=hT.out _ hWw16
       by_cases hl:16<l2
       ·have hi:(16:Int)<(l2:Int):=tZ1
        have HB:Hid (E=9):=by show _=_;rw [HV.out,decide_eq_false (show ¬ l2≤16 by omega)];rfl
        exact mZ126
       have hi:¬ (16:Int)<(l2:Int):=tZ1
       have HV2:Hid (E=if bL=true then 0 else 9):=by show _=_;rw [HV.out,decide_eq_true (show l2≤16 by omega)];rfl
       have hc:=hL.out _ hWw16
       go_wp2_with fail
       refine hc.mono ?_
       clear hc
       rintro e w20 ⟨rfl,hb20⟩
       have HBF:=Lib.hid (HB1.out.trans ((hWw16.trans (hb20.mono hWw16.size)).mono tZ13))
       cases bL with
       | true =>
        have HB:Hid (E=0):=tZ74
        exact mZ56
       | false =>
        have HB:Hid (E=9):=tZ74
        exact mZ56
end Go.Proofs.YtiojfffgiejibaaGreatDoor
