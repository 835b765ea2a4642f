/-
  tree.Check, tree.Kids: by their contracts. The page's set, by its contract. An argument that is a tenant.
-/
import Derived.Test.YtmladblmknbgnaaGreatDoorH0
import Derived.Test.YtmladblmknbgnaaGreatDoorH12
import Derived.Test.YtmladblmknbgnaaGreatDoorH13
import Derived.Test.YtmladblmknbgnaaGreatDoorH8
import Derived.Test.YtmladblmknbgnaaGreatDoorH14
import Derived.Test.YtmladblmknbgnaaGreatDoorH2
namespace Go.Proofs.YtmladblmknbgnaaGreatDoor
open Go.RowKit
theorem TenR.rd.below {t:TenR} {w w':World} {B:Nat} (h:t.rd w B) (hb:Below B w w'):t.rd w' B :=
 ⟨h.sets.below hb,fun y hy=>⟨(h.eachS y hy).body.below hb,(h.eachS y hy).snaps.below hb,fun z hz=>⟨((h.eachS y hy).each z hz).body.below hb,((h.eachS y hy).each z hz).tags.below hb,((h.eachS y hy).each z hz).own.below hb⟩,(h.eachS y hy).own.below hb⟩,h.grants.below hb,h.stages.below hb,fun y hy=>⟨(h.eachG y hy).own.below hb,(h.eachG y hy).body.below hb⟩,h.log.below hb⟩
set_option maxRecDepth 100000 in
set_option maxHeartbeats 4000000 in
theorem tcheck_any (t:TenR) (w:World) (B:Nat) (hr:t.rd w B) (hB:B≤w.heap.size) (hz:t.sz) (hmx:HasMax w) :
  Calls Tryz.prog 76 #[t.val] w fun e w'=>e=.returned (.int .i64 (tenE t))∧Below w.heap.size w w':=by
 obtain ⟨nm,quota,next,⟨s1,s2,s3,sl⟩,⟨g1,g2,g3,gl⟩,⟨t1,t2,t3,tl⟩,⟨l1,l2,l3,ll⟩⟩:=t
 show Calls Tryz.prog 76 #[.agg #[.string ⟨nm.toArray⟩,.int .i64 quota,.int .i64 next,.slice s1 s2 s3,.slice g1 g2 g3,.slice t1 t2 t3,.slice l1 l2 l3]] w _
 have hb1:=(Below.refl w.heap.size w).alloc (Nat.le_refl _) (.cells #[.string ⟨nm.toArray⟩,.int .i64 quota,.int .i64 next,.slice s1 s2 s3,.slice g1 g2 g3,.slice t1 t2 t3,.slice l1 l2 l3] 27)
 have kT:=Blk.new w 27 #[.string ⟨nm.toArray⟩,.int .i64 quota,.int .i64 next,.slice s1 s2 s3,.slice g1 g2 g3,.slice t1 t2 t3,.slice l1 l2 l3]
 obtain ⟨W1,hW1⟩:∃ W,W=w.alloc (.cells #[.string ⟨nm.toArray⟩,.int .i64 quota,.int .i64 next,.slice s1 s2 s3,.slice g1 g2 g3,.slice t1 t2 t3,.slice l1 l2 l3] 27):=⟨_,rfl⟩
 have hsz1:W1.heap.size=w.heap.size+1:=by rw [hW1];simp
 rw [← hW1] at hb1 kT
 have hT:=Lib.hid (fun (W':World) (hB':Below W1.heap.size W1 W')=>(⟨(kT.below hB' (by omega)).cell 0,(kT.below hB' (by omega)).cell 1,(kT.below hB' (by omega)).cell 2,(kT.below hB' (by omega)).cell 3,(kT.below hB' (by omega)).cell 4,(kT.below hB' (by omega)).cell 5,(kT.below hB' (by omega)).cell 6⟩:W'.cell? ⟨w.heap.size,0,none⟩=some (.string ⟨nm.toArray⟩)∧W'.cell? ⟨w.heap.size,1,none⟩=some (.int .i64 quota)∧W'.cell? ⟨w.heap.size,2,none⟩=some (.int .i64 next)∧W'.cell? ⟨w.heap.size,3,none⟩=some (.slice s1 s2 s3)∧W'.cell? ⟨w.heap.size,4,none⟩=some (.slice g1 g2 g3)∧W'.cell? ⟨w.heap.size,5,none⟩=some (.slice t1 t2 t3)∧W'.cell? ⟨w.heap.size,6,none⟩=some (.slice l1 l2 l3)))
 have hrw:∀ W',Below W1.heap.size W1 W'→TenR.rd W' B ⟨nm,quota,next,⟨s1,s2,s3,sl⟩,⟨g1,g2,g3,gl⟩,⟨t1,t2,t3,tl⟩,⟨l1,l2,l3,ll⟩⟩∧W1.heap.size≤W'.heap.size∧HasMax W':=fun W' hb=>⟨hr.below ((hb1.trans (hb.mono (by omega))).mono hB),hb.size,hmx.below (hb1.trans (hb.mono (by omega)))⟩
 have hN:Hid (∀ W,Below W1.heap.size W1 W→Calls Tryz.prog 115 #[.string ⟨nm.toArray⟩] W fun e W'=>e=.returned (.bool (nameB nm))∧Below W.heap.size W W'):=fun W _=>name_any ⟨nm.toArray⟩ W
 have hQ:Hid (∀ W,Below W1.heap.size W1 W→Calls Tryz.prog 145 #[.int .i64 quota,.int .i64 0] W fun e W'=>e=.returned (.bool (amt quota 0))∧Below W.heap.size W W'):=fun W _=>amountB_any quota 0 W
 have hX:Hid (∀ W,Below W1.heap.size W1 W→Calls Tryz.prog 145 #[.int .i64 next,.int .i64 1] W fun e W'=>e=.returned (.bool (amt next 1))∧Below W.heap.size W W'):=fun W _=>amountB_any next 1 W
 have hS:Hid (∀ W,Below W1.heap.size W1 W→Calls Tryz.prog 146 #[.agg #[.string ⟨nm.toArray⟩,.int .i64 quota,.int .i64 next,.slice s1 s2 s3,.slice g1 g2 g3,.slice t1 t2 t3,.slice l1 l2 l3]] W fun e W'=>e=.returned (.bool (setsB sl))∧Below W.heap.size W W'):=fun W hb=>by
  obtain ⟨r1,r2,r3⟩:=hrw W hb
  exact sets_any _ _ _ _ _ _ sl s2 r1.sets.1 s1 s3 W B r1.sets.2.2 r1.eachS (by omega) hz.sets hz.eachS r3
 have hG:Hid (∀ W,Below W1.heap.size W1 W→Calls Tryz.prog 147 #[.slice g1 g2 g3] W fun e W'=>e=.returned (.int .i64 (if grantsB gl=true then 0 else 9))∧Below W.heap.size W W'):=fun W hb=>by
  obtain ⟨r1,r2,r3⟩:=hrw W hb
  exact checkG_any gl g2 r1.grants.1 g1 g3 W B r1.grants.2.2 (by omega) (by have:=hz.grants;simp only at this;omega) hz.eachG r3
 have hT2:Hid (∀ W,Below W1.heap.size W1 W→Calls Tryz.prog 148 #[.slice t1 t2 t3] W fun e W'=>e=.returned (.bool (stagesB tl))∧Below W.heap.size W W'):=fun W hb=>by
  obtain ⟨r1,r2,r3⟩:=hrw W hb
  exact stages_any tl t2 r1.stages.1 t1 t3 W B r1.stages.2.2 r1.eachG (by omega) hz.stages hz.eachT r3
 have hL:Hid (∀ W,Below W1.heap.size W1 W→Calls Tryz.prog 149 #[.slice l1 l2 l3,.func (.func 150) #[] #[]] W fun e W'=>e=.returned (.bool (!(ll.all entryB)))∧Below W.heap.size W W'):=fun W hb=>by
  obtain ⟨r1,r2,r3⟩:=hrw W hb
  exact oddLog_any ll l2 r1.log.1 l1 l3 W B r1.log.2.2 (by omega) hz.log hz.eachL r3
 have hlen:l2=ll.length:=hr.log.1
 have HV:Hid (tenE ⟨nm,quota,next,⟨s1,s2,s3,sl⟩,⟨g1,g2,g3,gl⟩,⟨t1,t2,t3,tl⟩,⟨l1,l2,l3,ll⟩⟩=if (nameB nm && (amt quota 0 && (amt next 1 && (setsB sl && (grantsB gl && (stagesB tl && (decide (l2≤16) && ll.all entryB)))))))=true then 0 else 9):=by
  show _=_
  rw [hlen]
  unfold tenE tenB logB
  simp only [Bool.and_assoc]
 obtain ⟨E,hE⟩:∃ V,V=tenE ⟨nm,quota,next,⟨s1,s2,s3,sl⟩,⟨g1,g2,g3,gl⟩,⟨t1,t2,t3,tl⟩,⟨l1,l2,l3,ll⟩⟩:=⟨_,rfl⟩
 obtain ⟨bN,hbN⟩:∃ V,V=nameB nm:=⟨_,rfl⟩
 obtain ⟨bQ,hbQ⟩:∃ V,V=amt quota 0:=⟨_,rfl⟩
 obtain ⟨bX,hbX⟩:∃ V,V=amt next 1:=⟨_,rfl⟩
 obtain ⟨bS,hbS⟩:∃ V,V=setsB sl:=⟨_,rfl⟩
 obtain ⟨bG,hbG⟩:∃ V,V=grantsB gl:=⟨_,rfl⟩
 obtain ⟨bT,hbT⟩:∃ V,V=stagesB tl:=⟨_,rfl⟩
 obtain ⟨bL,hbL⟩:∃ V,V=ll.all entryB:=⟨_,rfl⟩
 rw [← hE] at HV ⊢
 rw [← hbN] at HV hN
 rw [← hbQ] at HV hQ
 rw [← hbX] at HV hX
 rw [← hbS] at HV hS
 rw [← hbG] at HV hG
 rw [← hbT] at HV hT2
 rw [← hbL] at HV hL
 have HB1:=Lib.hid hb1
 have HSZ1:=Lib.hid hsz1
 clear hE hbN hbQ hbX hbS hbG hbT hbL hb1 hsz1 kT hr hz hrw hlen
 have hW0:=Below.refl W1.heap.size W1
 go_enter Tryz.func76,Tryz.ntmps76
 have hc:=hN.out _ hW0
 cases bN with
 | false =>
  go_wp2_with fail
  rw [← hW1]
  refine hc.mono ?_
  clear hc
  rintro e w11 ⟨rfl,hbw11⟩
  have hWw11:=hW0.trans (hbw11.mono hW0.size)
  clear hbw11 
  obtain ⟨c0,c1,c2,c3,c4,c5,c6⟩:=hT.out _ hWw11
  have HB:Hid (E=9):=by show _=_;rw [HV.out];rfl
  go_wp2_with fail
  go_ret
  exact ⟨by rw [HB.out];rfl,HB1.out.trans (hWw11.mono (by have:=HSZ1.out;omega))⟩
 | true =>
  go_wp2_with fail
  rw [← hW1]
  refine hc.mono ?_
  clear hc
  rintro e w11 ⟨rfl,hbw11⟩
  have hWw11:=hW0.trans (hbw11.mono hW0.size)
  clear hbw11 
  obtain ⟨c0,c1,c2,c3,c4,c5,c6⟩:=hT.out _ hWw11
  have hc:=hQ.out _ hWw11
  cases bQ with
  | false =>
   go_wp2_with fail
   refine hc.mono ?_
   clear hc
   rintro e w12 ⟨rfl,hbw12⟩
   have hWw12:=hWw11.trans (hbw12.mono hWw11.size)
   clear hbw12 
   obtain ⟨c0,c1,c2,c3,c4,c5,c6⟩:=hT.out _ hWw12
   have HB:Hid (E=9):=by show _=_;rw [HV.out];rfl
   go_wp2_with fail
   go_ret
   exact ⟨by rw [HB.out];rfl,HB1.out.trans (hWw12.mono (by have:=HSZ1.out;omega))⟩
  | true =>
   go_wp2_with fail
   refine hc.mono ?_
   clear hc
   rintro e w12 ⟨rfl,hbw12⟩
   have hWw12:=hWw11.trans (hbw12.mono hWw11.size)
   clear hbw12 
   obtain ⟨c0,c1,c2,c3,c4,c5,c6⟩:=hT.out _ hWw12
   have hc:=hX.out _ hWw12
   cases bX with
   | false =>
    go_wp2_with fail
    refine hc.mono ?_
    clear hc
    rintro e w13 ⟨rfl,hbw13⟩
    have hWw13:=hWw12.trans (hbw13.mono hWw12.size)
    clear hbw13 
    obtain ⟨c0,c1,c2,c3,c4,c5,c6⟩:=hT.out _ hWw13
    have HB:Hid (E=9):=by show _=_;rw [HV.out];rfl
    go_wp2_with fail
    go_ret
    exact ⟨by rw [HB.out];rfl,HB1.out.trans (hWw13.mono (by have:=HSZ1.out;omega))⟩
   | true =>
    go_wp2_with fail
    refine hc.mono ?_
    clear hc
    rintro e w13 ⟨rfl,hbw13⟩
    have hWw13:=hWw12.trans (hbw13.mono hWw12.size)
    clear hbw13 
    obtain ⟨c0,c1,c2,c3,c4,c5,c6⟩:=hT.out _ hWw13
    have hc:=hS.out _ hWw13
    cases bS with
    | false =>
     go_wp2_with fail
     refine hc.mono ?_
     clear hc
     rintro e w14 ⟨rfl,hbw14⟩
     have hWw14:=hWw13.trans (hbw14.mono hWw13.size)
     clear hbw14 
     obtain ⟨c0,c1,c2,c3,c4,c5,c6⟩:=hT.out _ hWw14
     have HB:Hid (E=9):=by show _=_;rw [HV.out];rfl
     go_wp2_with fail
     go_ret
     exact ⟨by rw [HB.out];rfl,HB1.out.trans (hWw14.mono (by have:=HSZ1.out;omega))⟩
    | true =>
     go_wp2_with fail
     refine hc.mono ?_
     clear hc
     rintro e w14 ⟨rfl,hbw14⟩
     have hWw14:=hWw13.trans (hbw14.mono hWw13.size)
     clear hbw14 
     obtain ⟨c0,c1,c2,c3,c4,c5,c6⟩:=hT.out _ hWw14
     have hc:=hG.out _ hWw14
     cases bG with
     | false =>
      rw [if_neg (by decide)] at hc
      go_wp2_with fail
      refine hc.mono ?_
      clear hc
      rintro e w15 ⟨rfl,hbw15⟩
      have hWw15:=hWw14.trans (hbw15.mono hWw14.size)
      clear hbw15 
      obtain ⟨c0,c1,c2,c3,c4,c5,c6⟩:=hT.out _ hWw15
      have HB:Hid (E=9):=by show _=_;rw [HV.out];rfl
      go_wp2_with fail
      go_ret
      exact ⟨by rw [HB.out];rfl,HB1.out.trans (hWw15.mono (by have:=HSZ1.out;omega))⟩
     | true =>
      rw [if_pos rfl] at hc
      go_wp2_with fail
      refine hc.mono ?_
      clear hc
      rintro e w15 ⟨rfl,hbw15⟩
      have hWw15:=hWw14.trans (hbw15.mono hWw14.size)
      clear hbw15 
      obtain ⟨c0,c1,c2,c3,c4,c5,c6⟩:=hT.out _ hWw15
      have hc:=hT2.out _ hWw15
      cases bT with
      | false =>
       go_wp2_with fail
       refine hc.mono ?_
       clear hc
       rintro e w16 ⟨rfl,hbw16⟩
       have hWw16:=hWw15.trans (hbw16.mono hWw15.size)
       clear hbw16 
       obtain ⟨c0,c1,c2,c3,c4,c5,c6⟩:=hT.out _ hWw16
       have HB:Hid (E=9):=by show _=_;rw [HV.out];rfl
       go_wp2_with fail
       go_ret
       exact ⟨by rw [HB.out];rfl,HB1.out.trans (hWw16.mono (by have:=HSZ1.out;omega))⟩
      | true =>
       go_wp2_with fail
       refine hc.mono ?_
       clear hc
       rintro e w16 ⟨rfl,hbw16⟩
       have hWw16:=hWw15.trans (hbw16.mono hWw15.size)
       clear hbw16 
       obtain ⟨c0,c1,c2,c3,c4,c5,c6⟩:=hT.out _ hWw16
       by_cases hl:16<l2
       ·have hi:(16:Int)<(l2:Int):=by omega
        have HB:Hid (E=9):=by show _=_;rw [HV.out,decide_eq_false (show ¬ l2≤16 by omega)];rfl
        go_wp2_with fail
        go_ret
        exact ⟨by rw [HB.out];rfl,HB1.out.trans (hWw16.mono (by have:=HSZ1.out;omega))⟩
       have hi:¬ (16:Int)<(l2:Int):=by omega
       have HV2:Hid (E=if bL=true then 0 else 9):=by show _=_;rw [HV.out,decide_eq_true (show l2≤16 by omega)];rfl
       have hc:=hL.out _ hWw16
       go_wp2_with fail
       refine hc.mono ?_
       clear hc
       rintro e w20 ⟨rfl,hb20⟩
       have HBF:=Lib.hid (HB1.out.trans ((hWw16.trans (hb20.mono hWw16.size)).mono (by have:=HSZ1.out;omega)))
       cases bL with
       | true =>
        have HB:Hid (E=0):=by show _=_;rw [HV2.out];rfl
        go_wp2_with fail
        go_ret
        exact ⟨by rw [HB.out];rfl,HBF.out⟩
       | false =>
        have HB:Hid (E=9):=by show _=_;rw [HV2.out];rfl
        go_wp2_with fail
        go_ret
        exact ⟨by rw [HB.out];rfl,HBF.out⟩
end Go.Proofs.YtmladblmknbgnaaGreatDoor
namespace Go.Proofs.YtmladblmknbgnaaGreatDoor
open Go.RowKit
set_option maxRecDepth 100000 in
set_option maxHeartbeats 8000000 in
theorem refSet_any (v0 v1 v2 v4 v5 v6:Value) (all:List SetR) (n:Nat) (hnl:n=all.length) (A:Option Addr) (c:Nat) (x:SetR) (w:World) (B:Nat) (hr:Reads w B 5 A n (cellsK encSet all)) (he:∀ y∈all,y.rd w B) (hxr:x.rd w B) (hB:B≤w.heap.size) (hn:n≤1000000000000) (hv:∀ y∈all,y.sz) (hxs:x.sz) :
  Calls Tryz.prog 84 #[.agg #[v0,v1,v2,.slice A n c,v4,v5,v6],.agg #[.string ⟨x.path.toArray⟩,.string ⟨x.org.toArray⟩,.slice x.body.A x.body.n x.body.c,.slice x.snaps.A x.snaps.n x.snaps.c,.slice x.own.A x.own.n x.own.c]] w fun e w'=>e=.returned (.bool (setB all x))∧Below w.heap.size w w':=by
 have hb1:=(Below.refl w.heap.size w).alloc (Nat.le_refl _) (.cells #[v0,v1,v2,.slice A n c,v4,v5,v6] 27)
 have hb2:=hb1.alloc hb1.size (.cells #[.string ⟨x.path.toArray⟩,.string ⟨x.org.toArray⟩,.slice x.body.A x.body.n x.body.c,.slice x.snaps.A x.snaps.n x.snaps.c,.slice x.own.A x.own.n x.own.c] 42)
 have k1:=(Blk.new w 27 #[v0,v1,v2,.slice A n c,v4,v5,v6]).alloc (.cells #[.string ⟨x.path.toArray⟩,.string ⟨x.org.toArray⟩,.slice x.body.A x.body.n x.body.c,.slice x.snaps.A x.snaps.n x.snaps.c,.slice x.own.A x.own.n x.own.c] 42)
 have k2:=Blk.new (w.alloc (.cells #[v0,v1,v2,.slice A n c,v4,v5,v6] 27)) 42 #[.string ⟨x.path.toArray⟩,.string ⟨x.org.toArray⟩,.slice x.body.A x.body.n x.body.c,.slice x.snaps.A x.snaps.n x.snaps.c,.slice x.own.A x.own.n x.own.c]
 rw [show (w.alloc (.cells #[v0,v1,v2,.slice A n c,v4,v5,v6] 27)).heap.size=w.heap.size+1 by simp] at k2
 obtain ⟨W2,hW2⟩:∃ W,W=(w.alloc (.cells #[v0,v1,v2,.slice A n c,v4,v5,v6] 27)).alloc (.cells #[.string ⟨x.path.toArray⟩,.string ⟨x.org.toArray⟩,.slice x.body.A x.body.n x.body.c,.slice x.snaps.A x.snaps.n x.snaps.c,.slice x.own.A x.own.n x.own.c] 42):=⟨_,rfl⟩
 have hsz:W2.heap.size=w.heap.size+2:=by rw [hW2];simp
 rw [← hW2] at hb2 k1 k2
 have hS:=Lib.hid (fun (W':World) (hB':Below W2.heap.size W2 W') =>
  (⟨(k1.below hB' (by omega)).cell 0,(k1.below hB' (by omega)).cell 1,(k1.below hB' (by omega)).cell 2,(k1.below hB' (by omega)).cell 3,(k1.below hB' (by omega)).cell 4,(k1.below hB' (by omega)).cell 5,(k1.below hB' (by omega)).cell 6,(k2.below hB' (by omega)).cell 0,(k2.below hB' (by omega)).cell 1,(k2.below hB' (by omega)).cell 2,(k2.below hB' (by omega)).cell 3,(k2.below hB' (by omega)).cell 4⟩ :
   W'.cell? ⟨w.heap.size,0,none⟩=some v0∧W'.cell? ⟨w.heap.size,1,none⟩=some v1∧W'.cell? ⟨w.heap.size,2,none⟩=some v2∧W'.cell? ⟨w.heap.size,3,none⟩=some (.slice A n c)∧W'.cell? ⟨w.heap.size,4,none⟩=some v4∧W'.cell? ⟨w.heap.size,5,none⟩=some v5∧W'.cell? ⟨w.heap.size,6,none⟩=some v6∧W'.cell? ⟨w.heap.size+1,0,none⟩=some (.string ⟨x.path.toArray⟩)∧W'.cell? ⟨w.heap.size+1,1,none⟩=some (.string ⟨x.org.toArray⟩)∧W'.cell? ⟨w.heap.size+1,2,none⟩=some (.slice x.body.A x.body.n x.body.c)∧W'.cell? ⟨w.heap.size+1,3,none⟩=some (.slice x.snaps.A x.snaps.n x.snaps.c)∧W'.cell? ⟨w.heap.size+1,4,none⟩=some (.slice x.own.A x.own.n x.own.c)))
 have HSZ:=Lib.hid hsz
 have HB2:=Lib.hid hb2
 have HNL:=Lib.hid hnl
 have hrd:∀ (y:SetR),y.rd w B→∀ W',Below W2.heap.size W2 W'→y.rd W' B:=fun y hy W' hB'=>⟨hy.body.below ((hb2.trans (hB'.mono (by omega))).mono hB),hy.snaps.below ((hb2.trans (hB'.mono (by omega))).mono hB),fun z hz=>⟨(hy.each z hz).body.below ((hb2.trans (hB'.mono (by omega))).mono hB),(hy.each z hz).tags.below ((hb2.trans (hB'.mono (by omega))).mono hB),(hy.each z hz).own.below ((hb2.trans (hB'.mono (by omega))).mono hB)⟩,hy.own.below ((hb2.trans (hB'.mono (by omega))).mono hB)⟩
 have hR:=Lib.hid (fun (W':World) (hB':Below W2.heap.size W2 W')=>(⟨hr.below ((hb2.trans (hB'.mono (by omega))).mono hB),hB'.size,fun y hy=>hrd y (he y hy) W' hB'⟩:Reads W' B 5 A n (cellsK encSet all)∧W2.heap.size≤W'.heap.size∧∀ y∈all,y.rd W' B))
 have HVS:=Lib.hid hv
 have hPn:Hid (∀ W,Below W2.heap.size W2 W→Calls Tryz.prog 154 #[.string ⟨x.path.toArray⟩] W fun e W'=>Below W.heap.size W W'∧((x.path=[]∨pathB x.path=false)∧e=.returned (.tuple #[.string ⟨#[]⟩,.bool false])∨x.path≠[]∧pathB x.path=true∧e=.returned (.tuple #[.string ⟨(upL x.path).toArray⟩,.bool true]))):=fun W _ =>
  refParent_any ⟨x.path.toArray⟩ W (by show x.path.length≤_;exact hxs.path)
 have hPa:Hid (∀ W,Below W2.heap.size W2 W→Calls Tryz.prog 114 #[.string ⟨x.path.toArray⟩] W fun e W'=>e=.returned (.bool (pathB x.path))∧Below W.heap.size W W'):=fun W _=>refPath_any ⟨x.path.toArray⟩ W (by show x.path.length≤_;exact hxs.path)
 have hFd:Hid (∀ (p:BS) W,Below W2.heap.size W2 W→Calls Tryz.prog 15 #[.agg #[v0,v1,v2,.slice A n c,v4,v5,v6],.string ⟨p.toArray⟩] W fun e W'=>e=.returned (.int .i64 (findS all p))∧Below W.heap.size W W'):=fun p W hb =>
  refFind_any v0 v1 v2 v4 v5 v6 all n HNL.out A c p W B (hR.out _ hb).1 (by have:=hb.size;omega) (by omega)
 have hBk:Hid (∀ W,Below W2.heap.size W2 W→Calls Tryz.prog 138 #[.slice x.body.A x.body.n x.body.c] W fun e W'=>e=.returned (.int .i64 (if okL x.body.l=true then 0 else 9))∧Below W.heap.size W W'):=fun W hb =>
  refCheckB_any x.body.l x.body.n (hrd x hxr W hb).body.1 x.body.A x.body.c W B (hrd x hxr W hb).body.2.2 hxs.body
 have hPr:Hid (∀ W,Below W2.heap.size W2 W→Calls Tryz.prog 140 #[.slice x.own.A x.own.n x.own.c] W fun e W'=>e=.returned (.int .i64 (if propsB x.own.l=true then 0 else 9))∧Below W.heap.size W W'):=fun W hb =>
  refPropsB_any x.own.l x.own.n (hrd x hxr W hb).own.1 x.own.A x.own.c W B (hrd x hxr W hb).own.2.2 hxs.own hxs.props
 have hSn:Hid (∀ W,Below W2.heap.size W2 W→Calls Tryz.prog 155 #[.slice x.snaps.A x.snaps.n x.snaps.c] W fun e W'=>e=.returned (.bool (snapsB x.snaps.l))∧Below W.heap.size W W'):=fun W hb =>
  refSnaps_any x.snaps.l x.snaps.n (hrd x hxr W hb).snaps.1 x.snaps.A x.snaps.c W B (hrd x hxr W hb).snaps.2.2 (hrd x hxr W hb).each (by have:=hb.size;omega) hxs.snaps hxs.each
 have hSp:Hid (∀ W,Below W2.heap.size W2 W→Calls Tryz.prog 51 #[.string ⟨x.org.toArray⟩] W fun e W'=>e=.returned (splitV x.org)∧Below W.heap.size W W'):=fun W _=>refSplit_any ⟨x.org.toArray⟩ W (by show x.org.length≤_;exact hxs.org)
 have HV0:Hid (setB all x=(pathB x.path && ((match parB x.path with | none=>true | some u=>all.any fun y=>y.path == u) && (okL x.body.l && (propsB x.own.l && (snapsB x.snaps.l && originP all x.path x.org)))))):=by
  show _=_
  rw [setB_eq]
  cases parB x.path with
  | none =>
   simp only
   generalize pathB x.path=a1
   generalize okL x.body.l=a3
   generalize propsB x.own.l=a4
   generalize snapsB x.snaps.l=a5
   generalize originP all x.path x.org=a6
   cases a1 <;> cases a3 <;> cases a4 <;> cases a5 <;> cases a6 <;> rfl
  | some u =>
   simp only
   generalize pathB x.path=a1
   generalize (all.any fun y=>y.path == u)=a2
   generalize okL x.body.l=a3
   generalize propsB x.own.l=a4
   generalize snapsB x.snaps.l=a5
   generalize originP all x.path x.org=a6
   cases a1 <;> cases a2 <;> cases a3 <;> cases a4 <;> cases a5 <;> cases a6 <;> rfl
 have HFL:Hid (∀ u,parB x.path=some u→(findS all u<0→(all.any fun y=>y.path == u)=false)∧(0≤findS all u→(all.any fun y=>y.path == u)=true)):=by
  show ∀ u,_→_
  intro u _
  have:=firstI_any (fun y:SetR=>y.path == u) all
  rw [← this]
  exact ⟨fun h=>decide_eq_false (by show ¬ (0:Int)≤findS all u;omega),fun h=>decide_eq_true h⟩
 obtain ⟨V,hV⟩:∃ V,V=setB all x:=⟨_,rfl⟩
 rw [← hV] at HV0 ⊢
 obtain ⟨xp,xo,⟨b1,b2,b3,bl⟩,⟨s1,s2,s3,sl⟩,⟨o1,o2,o3,ol⟩⟩:=x
 simp only at hW2 hS hPn hPa hBk hPr hSn hSp HV0 HFL ⊢
 obtain ⟨bPa,hbPa⟩:∃ b,b=pathB xp:=⟨_,rfl⟩
 obtain ⟨bB,hbB⟩:∃ b,b=okL bl:=⟨_,rfl⟩
 obtain ⟨bP,hbP⟩:∃ b,b=propsB ol:=⟨_,rfl⟩
 obtain ⟨bS,hbS⟩:∃ b,b=snapsB sl:=⟨_,rfl⟩
 rw [← hbPa] at HV0 hPa
 rw [← hbB] at HV0 hBk
 rw [← hbP] at HV0 hPr
 rw [← hbS] at HV0 hSn
 have HPA:=Lib.hid hbPa
 clear hV hbPa hbB hbP hbS hb1 hb2 k1 k2 hsz hnl hr he hxr hv hxs hrd
 have hW0:=Below.refl W2.heap.size W2
 have hpn:=hPn.out _ hW0
 clear hPn
 go_enter Tryz.func84,Tryz.ntmps84
 go_wp2_with fail
 rw [← hW2]
 clear hW2
 refine hpn.mono ?_
 clear hpn
 rintro e w4 ⟨hb4,⟨hpar,rfl⟩ | ⟨hne,hpb,rfl⟩⟩
 ·have HV:Hid (V=(bPa && (bB && (bP && (bS && originP all xp xo))))):=by
   show _=_
   rw [HV0.out]
   unfold parB
   rw [if_pos hpar]
   simp
  clear HV0 HFL hpar HPA
  as_aux_lemma =>
   obtain ⟨t0,t1,t2,t3,t4,t5,t6,q0,q1,q2,q3,q4⟩:=hS.out _ hb4
   have hc:=hPa.out _ hb4
   cases bPa with
   | false =>
    go_wp2_with fail
    refine hc.mono ?_
    clear hc
    rintro e w11 ⟨rfl,hbw11⟩
    have hWw11:=hb4.trans (hbw11.mono hb4.size)
    clear hbw11 
    obtain ⟨t0,t1,t2,t3,t4,t5,t6,q0,q1,q2,q3,q4⟩:=hS.out _ hWw11
    have HB:Hid (V=false):=by show _=_;rw [HV.out];rfl
    go_wp2_with fail
    go_ret
    exact ⟨by rw [HB.out];rfl,HB2.out.trans (hWw11.mono (by have:=HSZ.out;omega))⟩
   | true =>
    go_wp2_with fail
    refine hc.mono ?_
    clear hc
    rintro e w11 ⟨rfl,hbw11⟩
    have hWw11:=hb4.trans (hbw11.mono hb4.size)
    clear hbw11 
    obtain ⟨t0,t1,t2,t3,t4,t5,t6,q0,q1,q2,q3,q4⟩:=hS.out _ hWw11
    have hc:=hBk.out _ hWw11
    cases bB with
    | false =>
     rw [if_neg (by decide)] at hc
     go_wp2_with fail
     refine hc.mono ?_
     clear hc
     rintro e w12 ⟨rfl,hbw12⟩
     have hWw12:=hWw11.trans (hbw12.mono hWw11.size)
     clear hbw12 
     obtain ⟨t0,t1,t2,t3,t4,t5,t6,q0,q1,q2,q3,q4⟩:=hS.out _ hWw12
     have HB:Hid (V=false):=by show _=_;rw [HV.out];rfl
     go_wp2_with fail
     go_ret
     exact ⟨by rw [HB.out];rfl,HB2.out.trans (hWw12.mono (by have:=HSZ.out;omega))⟩
    | true =>
     rw [if_pos rfl] at hc
     go_wp2_with fail
     refine hc.mono ?_
     clear hc
     rintro e w12 ⟨rfl,hbw12⟩
     have hWw12:=hWw11.trans (hbw12.mono hWw11.size)
     clear hbw12 
     obtain ⟨t0,t1,t2,t3,t4,t5,t6,q0,q1,q2,q3,q4⟩:=hS.out _ hWw12
     have hc:=hPr.out _ hWw12
     cases bP with
     | false =>
      rw [if_neg (by decide)] at hc
      go_wp2_with fail
      refine hc.mono ?_
      clear hc
      rintro e w13 ⟨rfl,hbw13⟩
      have hWw13:=hWw12.trans (hbw13.mono hWw12.size)
      clear hbw13 
      obtain ⟨t0,t1,t2,t3,t4,t5,t6,q0,q1,q2,q3,q4⟩:=hS.out _ hWw13
      have HB:Hid (V=false):=by show _=_;rw [HV.out];rfl
      go_wp2_with fail
      go_ret
      exact ⟨by rw [HB.out];rfl,HB2.out.trans (hWw13.mono (by have:=HSZ.out;omega))⟩
     | true =>
      rw [if_pos rfl] at hc
      go_wp2_with fail
      refine hc.mono ?_
      clear hc
      rintro e w13 ⟨rfl,hbw13⟩
      have hWw13:=hWw12.trans (hbw13.mono hWw12.size)
      clear hbw13 
      obtain ⟨t0,t1,t2,t3,t4,t5,t6,q0,q1,q2,q3,q4⟩:=hS.out _ hWw13
      have hc:=hSn.out _ hWw13
      cases bS with
      | false =>
       go_wp2_with fail
       refine hc.mono ?_
       clear hc
       rintro e w14 ⟨rfl,hbw14⟩
       have hWw14:=hWw13.trans (hbw14.mono hWw13.size)
       clear hbw14 
       obtain ⟨t0,t1,t2,t3,t4,t5,t6,q0,q1,q2,q3,q4⟩:=hS.out _ hWw14
       have HB:Hid (V=false):=by show _=_;rw [HV.out];rfl
       go_wp2_with fail
       go_ret
       exact ⟨by rw [HB.out];rfl,HB2.out.trans (hWw14.mono (by have:=HSZ.out;omega))⟩
      | true =>
       go_wp2_with fail
       refine hc.mono ?_
       clear hc
       rintro e w14 ⟨rfl,hbw14⟩
       have hWw14:=hWw13.trans (hbw14.mono hWw13.size)
       clear hbw14 
       obtain ⟨t0,t1,t2,t3,t4,t5,t6,q0,q1,q2,q3,q4⟩:=hS.out _ hWw14
       have HO:Hid (V=originP all xp xo):=by show _=_;rw [HV.out];rfl
       as_aux_lemma =>
        by_cases ho:xo=[]
        ·subst ho
         have HE:Hid (V=true):=by show _=_;rw [HO.out];rfl
         go_wp2_with fail
         go_ret
         exact ⟨by rw [HE.out];rfl,HB2.out.trans (hWw14.mono (by have:=HSZ.out;omega))⟩
        ·have ho1:(xo == [])=false:=by simpa using ho
         have ho2:xo.isEmpty=false:=by cases xo <;> simp_all
         have HE:Hid (V=match splitL xo with
          | none=>false
          | some (p,n)=>!(p == xp) && match all.find? (fun x=>x.path == p) with
           | none=>false
           | some x=>x.snaps.l.any fun y=>y.nm == n):=by show _=_;rw [HO.out];unfold originP;rw [ho1];rfl
         have hc:=hSp.out _ hWw14
         clear ho HO HV
         rcases splitV_cases xo with ⟨h1,h2⟩ | ⟨p,m,h1,h2,h3,h4⟩
         ·rw [h2] at hc
          rw [h1] at HE
          clear h1 h2
          go_wp2_with fail
          refine (hc).mono ?_
          rintro e w21 ⟨rfl,hb21⟩
          have hWw21:=hWw14.trans (hb21.mono hWw14.size)
          clear hb21
          obtain ⟨t0,t1,t2,t3,t4,t5,t6,q0,q1,q2,q3,q4⟩:=hS.out _ hWw21
          clear hc
          have hc:=hFd.out [] _ hWw21
          go_wp2_with fail
          refine (hc).mono ?_
          rintro e w22 ⟨rfl,hb22⟩
          have hWw22:=hWw21.trans (hb22.mono hWw21.size)
          clear hb22
          obtain ⟨t0,t1,t2,t3,t4,t5,t6,q0,q1,q2,q3,q4⟩:=hS.out _ hWw22
          go_wp2_with fail
          go_ret
          exact ⟨by rw [HE.out];rfl,HB2.out.trans (hWw22.mono (by have:=HSZ.out;omega))⟩
         ·rw [h2] at hc
          rw [h1] at HE
          clear h1 h2
          have HE:Hid (V=(!(p == xp) && match all.find? (fun x=>x.path == p) with
           | none=>false
           | some x=>x.snaps.l.any fun y=>y.nm == m)):=HE
          go_wp2_with fail
          refine (hc).mono ?_
          rintro e w21 ⟨rfl,hb21⟩
          have hWw21:=hWw14.trans (hb21.mono hWw14.size)
          clear hb21
          obtain ⟨t0,t1,t2,t3,t4,t5,t6,q0,q1,q2,q3,q4⟩:=hS.out _ hWw21
          clear hc
          have hc:=hFd.out p _ hWw21
          obtain ⟨z,hz⟩:∃ z,z=findS all p:=⟨_,rfl⟩
          rw [← hz] at hc
          have HZ:=Lib.hid hz
          clear hz
          go_wp2_with fail
          refine (hc).mono ?_
          rintro e w22 ⟨rfl,hb22⟩
          have hWw22:=hWw21.trans (hb22.mono hWw21.size)
          clear hb22
          obtain ⟨t0,t1,t2,t3,t4,t5,t6,q0,q1,q2,q3,q4⟩:=hS.out _ hWw22
          clear hc
          have HBF:=Lib.hid (HB2.out.trans (hWw22.mono (by have:=HSZ.out;omega)))
          by_cases hps:p=xp
          ·have hpb:(p == xp)=true:=by simpa using hps
           have HE2:Hid (V=false):=by show _=_;rw [HE.out,hpb];rfl
           subst hps
           go_wp2_with fail
           go_ret
           exact ⟨by rw [HE2.out];rfl,HBF.out⟩
          ·have hpb:(p == xp)=false:=by simpa using hps
           have HE2:Hid (V=match all.find? (fun x=>x.path == p) with
            | none=>false
            | some x=>x.snaps.l.any fun y=>y.nm == m):=by show _=_;rw [HE.out,hpb];rfl
           clear hps HE
           rcases firstI_cases (fun x:SetR=>x.path == p) all with ⟨f1,f2⟩ | ⟨k,hk,f1,f2⟩
           ·have hz:z=-1:=HZ.out.trans f1
            rw [f2] at HE2
            subst hz
            clear f1 f2
            go_wp2_with fail
            go_ret
            exact ⟨by rw [HE2.out];rfl,HBF.out⟩
           ·have hz:z=(k:Int):=HZ.out.trans f1
            rw [f2] at HE2
            subst hz
            obtain ⟨r1,r2,r4⟩:=hR.out _ hWw22
            have hkn:k<n:=by have:=HNL.out;omega
            have hki:(k:Int)<(n:Int):=by omega
            obtain ⟨ad,rfl,-,c0,c1,c2,c3,c4⟩:=set_at r1 HNL.out hkn
            obtain ⟨x,hx⟩:∃ x,x=all[k]'hk:=⟨_,rfl⟩
            rw [← hx] at c0 c1 c2 c3 c4 HE2
            have hxm:x∈all:=by rw [hx];exact List.getElem_mem _
            have r5:=(r4 x hxm).snaps
            have hsn:=HVS.out x hxm
            have HC:=Lib.hid (refSnap_any (.string ⟨x.path.toArray⟩) (.string ⟨x.org.toArray⟩) (.slice x.body.A x.body.n x.body.c) (.slice x.own.A x.own.n x.own.c) x.snaps.l x.snaps.n r5.1 x.snaps.A x.snaps.c m w22 B r5.2.2 (by have:=HSZ.out;omega) (by have:=hsn.snaps;omega))
            have HA:=Lib.hid (firstI_any (fun y:SnapR=>y.nm == m) x.snaps.l)
            have HE3:Hid (V=x.snaps.l.any fun y=>y.nm == m):=HE2
            obtain ⟨yp,yo,⟨e1,e2,e3,el⟩,⟨u1,u2,u3,ul⟩,⟨g1,g2,g3,gl⟩⟩:=x
            simp only at c0 c1 c2 c3 c4 HC HA HE3
            clear hx f1 f2 HE2 r1 r2 r4 r5 hsn hxm hR HZ HVS HNL
            go_wp2_with fail
            refine HC.out.mono ?_
            rintro e w23 ⟨rfl,hb23⟩
            have HBG:=Lib.hid (HB2.out.trans ((hWw22.trans (hb23.mono hWw22.size)).mono (by have:=HSZ.out;omega)))
            have HA2:Hid (V=decide ((0:Int)≤findN ul m)):=by show _=_;rw [HE3.out];exact HA.out.symm
            clear c0 c1 c2 c3 c4 hb23 HC HA HE3
            go_wp2_with fail
            go_ret
            exact ⟨by rw [HA2.out];rfl,HBG.out⟩
 ·have hpe:parB xp=some (upL xp):=by
   unfold parB
   rw [if_neg (by rw [hpb];simp [hne])]
  obtain ⟨z,hz⟩:∃ z,z=findS all (upL xp):=⟨_,rfl⟩
  have hF:z<0∨0≤z:=by omega
  have hFi:=Lib.hid (fun W hb=>hFd.out (upL xp) W hb)
  obtain ⟨HF1,HF2⟩:=HFL.out _ hpe
  have HVU:Hid (V=(bPa && ((all.any fun y=>y.path == upL xp) && (bB && (bP && (bS && originP all xp xo)))))):=by
   show _=_
   rw [HV0.out,hpe]
  rw [← hz] at hFi HF1 HF2
  have hpt:bPa=true:=HPA.out.trans hpb
  subst hpt
  obtain ⟨up,hup⟩:∃ u,u=upL xp:=⟨_,rfl⟩
  rw [← hup] at hFi HF1 HF2 HVU ⊢
  have hc:=hPa.out _ hb4
  obtain ⟨t0,t1,t2,t3,t4,t5,t6,q0,q1,q2,q3,q4⟩:=hS.out _ hb4
  clear HV0 HFL HPA hne hpb hpe hz hup hPa
  as_aux_lemma =>
   go_wp2_with fail
   refine (hc).mono ?_
   rintro e w5 ⟨rfl,hb5⟩
   have hWw5:=hb4.trans (hb5.mono hb4.size)
   clear hb5
   obtain ⟨t0,t1,t2,t3,t4,t5,t6,q0,q1,q2,q3,q4⟩:=hS.out _ hWw5
   clear hc
   have hc:=hFi.out _ hWw5
   go_wp2_with fail
   refine (hc).mono ?_
   rintro e w6 ⟨rfl,hb6⟩
   have hWw6:=hWw5.trans (hb6.mono hWw5.size)
   clear hb6
   obtain ⟨t0,t1,t2,t3,t4,t5,t6,q0,q1,q2,q3,q4⟩:=hS.out _ hWw6
   clear hc
   rcases hF with hF | hF
   ·have HV:Hid (V=false):=by show _=_;rw [HVU.out,HF1 hF];rfl
    clear HF1 HF2 HVU
    go_wp2_with fail
    go_ret
    exact ⟨by rw [HV.out];rfl,HB2.out.trans (hWw6.mono (by have:=HSZ.out;omega))⟩
   ·have HV:Hid (V=(bB && (bP && (bS && originP all xp xo)))):=by show _=_;rw [HVU.out,HF2 hF];rfl
    clear HF1 HF2 HVU
    have hc:=hBk.out _ hWw6
    cases bB with
    | false =>
     rw [if_neg (by decide)] at hc
     go_wp2_with fail
     refine hc.mono ?_
     clear hc
     rintro e w11 ⟨rfl,hbw11⟩
     have hWw11:=hWw6.trans (hbw11.mono hWw6.size)
     clear hbw11 
     obtain ⟨t0,t1,t2,t3,t4,t5,t6,q0,q1,q2,q3,q4⟩:=hS.out _ hWw11
     have HB:Hid (V=false):=by show _=_;rw [HV.out];rfl
     go_wp2_with fail
     go_ret
     exact ⟨by rw [HB.out];rfl,HB2.out.trans (hWw11.mono (by have:=HSZ.out;omega))⟩
    | true =>
     rw [if_pos rfl] at hc
     go_wp2_with fail
     refine hc.mono ?_
     clear hc
     rintro e w11 ⟨rfl,hbw11⟩
     have hWw11:=hWw6.trans (hbw11.mono hWw6.size)
     clear hbw11 
     obtain ⟨t0,t1,t2,t3,t4,t5,t6,q0,q1,q2,q3,q4⟩:=hS.out _ hWw11
     have hc:=hPr.out _ hWw11
     cases bP with
     | false =>
      rw [if_neg (by decide)] at hc
      go_wp2_with fail
      refine hc.mono ?_
      clear hc
      rintro e w12 ⟨rfl,hbw12⟩
      have hWw12:=hWw11.trans (hbw12.mono hWw11.size)
      clear hbw12 
      obtain ⟨t0,t1,t2,t3,t4,t5,t6,q0,q1,q2,q3,q4⟩:=hS.out _ hWw12
      have HB:Hid (V=false):=by show _=_;rw [HV.out];rfl
      go_wp2_with fail
      go_ret
      exact ⟨by rw [HB.out];rfl,HB2.out.trans (hWw12.mono (by have:=HSZ.out;omega))⟩
     | true =>
      rw [if_pos rfl] at hc
      go_wp2_with fail
      refine hc.mono ?_
      clear hc
      rintro e w12 ⟨rfl,hbw12⟩
      have hWw12:=hWw11.trans (hbw12.mono hWw11.size)
      clear hbw12 
      obtain ⟨t0,t1,t2,t3,t4,t5,t6,q0,q1,q2,q3,q4⟩:=hS.out _ hWw12
      have hc:=hSn.out _ hWw12
      cases bS with
      | false =>
       go_wp2_with fail
       refine hc.mono ?_
       clear hc
       rintro e w13 ⟨rfl,hbw13⟩
       have hWw13:=hWw12.trans (hbw13.mono hWw12.size)
       clear hbw13 
       obtain ⟨t0,t1,t2,t3,t4,t5,t6,q0,q1,q2,q3,q4⟩:=hS.out _ hWw13
       have HB:Hid (V=false):=by show _=_;rw [HV.out];rfl
       go_wp2_with fail
       go_ret
       exact ⟨by rw [HB.out];rfl,HB2.out.trans (hWw13.mono (by have:=HSZ.out;omega))⟩
      | true =>
       go_wp2_with fail
       refine hc.mono ?_
       clear hc
       rintro e w13 ⟨rfl,hbw13⟩
       have hWw13:=hWw12.trans (hbw13.mono hWw12.size)
       clear hbw13 
       obtain ⟨t0,t1,t2,t3,t4,t5,t6,q0,q1,q2,q3,q4⟩:=hS.out _ hWw13
       have HO:Hid (V=originP all xp xo):=by show _=_;rw [HV.out];rfl
       as_aux_lemma =>
        by_cases ho:xo=[]
        ·subst ho
         have HE:Hid (V=true):=by show _=_;rw [HO.out];rfl
         go_wp2_with fail
         go_ret
         exact ⟨by rw [HE.out];rfl,HB2.out.trans (hWw13.mono (by have:=HSZ.out;omega))⟩
        ·have ho1:(xo == [])=false:=by simpa using ho
         have ho2:xo.isEmpty=false:=by cases xo <;> simp_all
         have HE:Hid (V=match splitL xo with
          | none=>false
          | some (p,n)=>!(p == xp) && match all.find? (fun x=>x.path == p) with
           | none=>false
           | some x=>x.snaps.l.any fun y=>y.nm == n):=by show _=_;rw [HO.out];unfold originP;rw [ho1];rfl
         have hc:=hSp.out _ hWw13
         clear ho HO HV
         rcases splitV_cases xo with ⟨h1,h2⟩ | ⟨p,m,h1,h2,h3,h4⟩
         ·rw [h2] at hc
          rw [h1] at HE
          clear h1 h2
          go_wp2_with fail
          refine (hc).mono ?_
          rintro e w21 ⟨rfl,hb21⟩
          have hWw21:=hWw13.trans (hb21.mono hWw13.size)
          clear hb21
          obtain ⟨t0,t1,t2,t3,t4,t5,t6,q0,q1,q2,q3,q4⟩:=hS.out _ hWw21
          clear hc
          have hc:=hFd.out [] _ hWw21
          go_wp2_with fail
          refine (hc).mono ?_
          rintro e w22 ⟨rfl,hb22⟩
          have hWw22:=hWw21.trans (hb22.mono hWw21.size)
          clear hb22
          obtain ⟨t0,t1,t2,t3,t4,t5,t6,q0,q1,q2,q3,q4⟩:=hS.out _ hWw22
          go_wp2_with fail
          go_ret
          exact ⟨by rw [HE.out];rfl,HB2.out.trans (hWw22.mono (by have:=HSZ.out;omega))⟩
         ·rw [h2] at hc
          rw [h1] at HE
          clear h1 h2
          have HE:Hid (V=(!(p == xp) && match all.find? (fun x=>x.path == p) with
           | none=>false
           | some x=>x.snaps.l.any fun y=>y.nm == m)):=HE
          go_wp2_with fail
          refine (hc).mono ?_
          rintro e w21 ⟨rfl,hb21⟩
          have hWw21:=hWw13.trans (hb21.mono hWw13.size)
          clear hb21
          obtain ⟨t0,t1,t2,t3,t4,t5,t6,q0,q1,q2,q3,q4⟩:=hS.out _ hWw21
          clear hc
          have hc:=hFd.out p _ hWw21
          obtain ⟨z,hz⟩:∃ z,z=findS all p:=⟨_,rfl⟩
          rw [← hz] at hc
          have HZ:=Lib.hid hz
          clear hz
          go_wp2_with fail
          refine (hc).mono ?_
          rintro e w22 ⟨rfl,hb22⟩
          have hWw22:=hWw21.trans (hb22.mono hWw21.size)
          clear hb22
          obtain ⟨t0,t1,t2,t3,t4,t5,t6,q0,q1,q2,q3,q4⟩:=hS.out _ hWw22
          clear hc
          have HBF:=Lib.hid (HB2.out.trans (hWw22.mono (by have:=HSZ.out;omega)))
          by_cases hps:p=xp
          ·have hpb:(p == xp)=true:=by simpa using hps
           have HE2:Hid (V=false):=by show _=_;rw [HE.out,hpb];rfl
           subst hps
           go_wp2_with fail
           go_ret
           exact ⟨by rw [HE2.out];rfl,HBF.out⟩
          ·have hpb:(p == xp)=false:=by simpa using hps
           have HE2:Hid (V=match all.find? (fun x=>x.path == p) with
            | none=>false
            | some x=>x.snaps.l.any fun y=>y.nm == m):=by show _=_;rw [HE.out,hpb];rfl
           clear hps HE
           rcases firstI_cases (fun x:SetR=>x.path == p) all with ⟨f1,f2⟩ | ⟨k,hk,f1,f2⟩
           ·have hz:z=-1:=HZ.out.trans f1
            rw [f2] at HE2
            subst hz
            clear f1 f2
            go_wp2_with fail
            go_ret
            exact ⟨by rw [HE2.out];rfl,HBF.out⟩
           ·have hz:z=(k:Int):=HZ.out.trans f1
            rw [f2] at HE2
            subst hz
            obtain ⟨r1,r2,r4⟩:=hR.out _ hWw22
            have hkn:k<n:=by have:=HNL.out;omega
            have hki:(k:Int)<(n:Int):=by omega
            obtain ⟨ad,rfl,-,c0,c1,c2,c3,c4⟩:=set_at r1 HNL.out hkn
            obtain ⟨x,hx⟩:∃ x,x=all[k]'hk:=⟨_,rfl⟩
            rw [← hx] at c0 c1 c2 c3 c4 HE2
            have hxm:x∈all:=by rw [hx];exact List.getElem_mem _
            have r5:=(r4 x hxm).snaps
            have hsn:=HVS.out x hxm
            have HC:=Lib.hid (refSnap_any (.string ⟨x.path.toArray⟩) (.string ⟨x.org.toArray⟩) (.slice x.body.A x.body.n x.body.c) (.slice x.own.A x.own.n x.own.c) x.snaps.l x.snaps.n r5.1 x.snaps.A x.snaps.c m w22 B r5.2.2 (by have:=HSZ.out;omega) (by have:=hsn.snaps;omega))
            have HA:=Lib.hid (firstI_any (fun y:SnapR=>y.nm == m) x.snaps.l)
            have HE3:Hid (V=x.snaps.l.any fun y=>y.nm == m):=HE2
            obtain ⟨yp,yo,⟨e1,e2,e3,el⟩,⟨u1,u2,u3,ul⟩,⟨g1,g2,g3,gl⟩⟩:=x
            simp only at c0 c1 c2 c3 c4 HC HA HE3
            clear hx f1 f2 HE2 r1 r2 r4 r5 hsn hxm hR HZ HVS HNL
            go_wp2_with fail
            refine HC.out.mono ?_
            rintro e w23 ⟨rfl,hb23⟩
            have HBG:=Lib.hid (HB2.out.trans ((hWw22.trans (hb23.mono hWw22.size)).mono (by have:=HSZ.out;omega)))
            have HA2:Hid (V=decide ((0:Int)≤findN ul m)):=by show _=_;rw [HE3.out];exact HA.out.symm
            clear c0 c1 c2 c3 c4 hb23 HC HA HE3
            go_wp2_with fail
            go_ret
            exact ⟨by rw [HA2.out];rfl,HBG.out⟩
end Go.Proofs.YtmladblmknbgnaaGreatDoor
namespace Go.Proofs.YtmladblmknbgnaaGreatDoor
open Go.RowKit Go.ChangeShapes Go.WideShapes Go.ChangeAt
theorem len2 {α:Type} {l:List α} (h:l.length=2):∃ a0 a1,l=[a0,a1]:=by
 match l,h with
 | [a0,a1],_=>exact ⟨a0,a1,rfl⟩
theorem len4 {α:Type} {l:List α} (h:l.length=4):∃ a0 a1 a2 a3,l=[a0,a1,a2,a3]:=by
 match l,h with
 | [a0,a1,a2,a3],_=>exact ⟨a0,a1,a2,a3,rfl⟩
theorem len5 {α:Type} {l:List α} (h:l.length=5):∃ a0 a1 a2 a3 a4,l=[a0,a1,a2,a3,a4]:=by
 match l,h with
 | [a0,a1,a2,a3,a4],_=>exact ⟨a0,a1,a2,a3,a4,rfl⟩
theorem len7 {α:Type} {l:List α} (h:l.length=7):∃ a0 a1 a2 a3 a4 a5 a6,l=[a0,a1,a2,a3,a4,a5,a6]:=by
 match l,h with
 | [a0,a1,a2,a3,a4,a5,a6],_=>exact ⟨a0,a1,a2,a3,a4,a5,a6,rfl⟩
theorem len12 {α:Type} {l:List α} (h:l.length=12):∃ a0 a1 a2 a3 a4 a5 a6 a7 a8 a9 a10 a11,l=[a0,a1,a2,a3,a4,a5,a6,a7,a8,a9,a10,a11]:=by
 match l,h with
 | [a0,a1,a2,a3,a4,a5,a6,a7,a8,a9,a10,a11],_=>exact ⟨a0,a1,a2,a3,a4,a5,a6,a7,a8,a9,a10,a11,rfl⟩
theorem len21 {α:Type} {l:List α} (h:l.length=21):∃ a0 a1 a2 a3 a4 a5 a6 a7 a8 a9 a10 a11 a12 a13 a14 a15 a16 a17 a18 a19 a20,l=[a0,a1,a2,a3,a4,a5,a6,a7,a8,a9,a10,a11,a12,a13,a14,a15,a16,a17,a18,a19,a20]:=by
 match l,h with
 | [a0,a1,a2,a3,a4,a5,a6,a7,a8,a9,a10,a11,a12,a13,a14,a15,a16,a17,a18,a19,a20],_=>exact ⟨a0,a1,a2,a3,a4,a5,a6,a7,a8,a9,a10,a11,a12,a13,a14,a15,a16,a17,a18,a19,a20,rfl⟩
theorem cofT_str:Tryz.prog.cellsOf 9=1:=by kernel_rfl
theorem cofT_int:Tryz.prog.cellsOf 3=1:=by kernel_rfl
theorem cofT_errno:Tryz.prog.cellsOf 29=1:=by kernel_rfl
theorem cofT_bool:Tryz.prog.cellsOf 4=1:=by kernel_rfl
theorem cofT_u64:Tryz.prog.cellsOf 108=1:=by kernel_rfl
theorem cofT_strs:Tryz.prog.cellsOf 48=1:=by kernel_rfl
theorem cofT_blks:Tryz.prog.cellsOf 38=1:=by kernel_rfl
theorem cofT_prps:Tryz.prog.cellsOf 40=1:=by kernel_rfl
theorem cofT_snaps:Tryz.prog.cellsOf 39=1:=by kernel_rfl
theorem cofT_sets:Tryz.prog.cellsOf 22=1:=by kernel_rfl
theorem cofT_grants:Tryz.prog.cellsOf 23=1:=by kernel_rfl
theorem cofT_stages:Tryz.prog.cellsOf 24=1:=by kernel_rfl
theorem cofT_log:Tryz.prog.cellsOf 25=1:=by kernel_rfl
theorem cofT_sum:Tryz.prog.cellsOf 110=4:=by kernel_rfl
theorem cofT_rec:Tryz.prog.cellsOf 112=12:=by kernel_rfl
section
variable {H:Type} {enc:TypeId×Value→H} {W:World} {K:Nat} {cs:List Value} {d:DataW H}
theorem CellsIn.sumT (h:CellsIn enc Tryz.prog W K 110 cs d):∃ s:Sm,cs=smV s:=by
 obtain ⟨hl,hf⟩:=h.fields Tryz.underlying110
 obtain ⟨c0,c1,c2,c3,rfl⟩:=len4 (hl.trans cofT_sum)
 obtain ⟨y0,q0⟩:=hf 0 _ rfl
 obtain ⟨y1,q1⟩:=hf 1 _ rfl
 obtain ⟨y2,q2⟩:=hf 2 _ rfl
 obtain ⟨y3,q3⟩:=hf 3 _ rfl
 obtain ⟨n0,e0,_⟩:=q0.u64 Tryz.underlying108
 obtain ⟨n1,e1,_⟩:=q1.u64 Tryz.underlying108
 obtain ⟨n2,e2,_⟩:=q2.u64 Tryz.underlying108
 obtain ⟨n3,e3,_⟩:=q3.u64 Tryz.underlying108
 simp [cofT_u64] at e0 e1 e2 e3
 exact ⟨⟨n0,n1,n2,n3⟩,by rw [e0,e1,e2,e3];rfl⟩
theorem CellsIn.strT (hK:K≤1048576) (h:CellsIn enc Tryz.prog W K 9 cs d):∃ x:BS,cs=encS x∧x.length≤4000000000:=by
 obtain ⟨s,e,_,b⟩:=h.str Tryz.underlying9
 exact ⟨s,e,by omega⟩
theorem cofT_blk:Tryz.prog.cellsOf 88=2:=by kernel_rfl
theorem CellsIn.blkT (_hK:K≤1048576) (h:CellsIn enc Tryz.prog W K 88 cs d):∃ x:BlkT,cs=encB x∧(True):=by
 obtain ⟨hl,hf⟩:=h.fields Tryz.underlying88
 obtain ⟨a0,a1,rfl⟩:=len2 (hl.trans cofT_blk)
 obtain ⟨y0,q0⟩:=hf 0 _ rfl
 obtain ⟨y1,q1⟩:=hf 1 _ rfl
 obtain ⟨s0,e0,_⟩:=q0.i64 Tryz.underlying3
 obtain ⟨s1,e1,_,b1⟩:=q1.str Tryz.underlying9
 simp [cofT_int,cofT_str] at e0 e1
 exact ⟨(s0,s1),by rw [e0,e1];rfl,trivial⟩
theorem cofT_prp:Tryz.prog.cellsOf 91=2:=by kernel_rfl
theorem CellsIn.prpT (hK:K≤1048576) (h:CellsIn enc Tryz.prog W K 91 cs d):∃ x:(BS×BS),cs=encP x∧((x.1.length≤4000000000∧x.2.length≤4000000000)):=by
 obtain ⟨hl,hf⟩:=h.fields Tryz.underlying91
 obtain ⟨a0,a1,rfl⟩:=len2 (hl.trans cofT_prp)
 obtain ⟨y0,q0⟩:=hf 0 _ rfl
 obtain ⟨y1,q1⟩:=hf 1 _ rfl
 obtain ⟨s0,e0,_,b0⟩:=q0.str Tryz.underlying9
 obtain ⟨s1,e1,_,b1⟩:=q1.str Tryz.underlying9
 simp [cofT_str] at e0 e1
 exact ⟨(s0,s1),by rw [e0,e1];rfl,by simp only;omega,by simp only;omega⟩
theorem CellsIn.strs (hK:K≤1048576) (h:CellsIn enc Tryz.prog W K 48 cs d):∃ s:FS BS,cs=[s.val]∧s.rd W W.heap.size 1 encS∧s.n≤1000000000000∧∀ x∈s.l,x.length≤4000000000:=by
 obtain ⟨A,l,n,c,hcs,hn,hc,_,_,hK2,hr,hg⟩:=h.list (fun x:BS=>encS x) (fun x=>x.length≤4000000000) (fun _=>rfl) (by decide) cofT_str Tryz.underlying48 (fun _ _ h=>h.strT hK)
 exact ⟨⟨A,n,c,l⟩,hcs,⟨hn,hc,hr⟩,by show n≤_;omega,hg⟩
theorem CellsIn.blks (hK:K≤1048576) (h:CellsIn enc Tryz.prog W K 38 cs d):∃ s:FS BlkT,cs=[s.val]∧s.rd W W.heap.size 2 encB∧s.n≤1000000000000∧∀ x∈s.l,True:=by
 obtain ⟨A,l,n,c,hcs,hn,hc,_,_,hK2,hr,hg⟩:=h.list (fun x:BlkT=>encB x) (fun x=>True) (fun _=>rfl) (by decide) cofT_blk Tryz.underlying38 (fun _ _ h=>h.blkT hK)
 exact ⟨⟨A,n,c,l⟩,hcs,⟨hn,hc,hr⟩,by show n≤_;omega,hg⟩
theorem CellsIn.prps (hK:K≤1048576) (h:CellsIn enc Tryz.prog W K 40 cs d):∃ s:FS (BS×BS),cs=[s.val]∧s.rd W W.heap.size 2 encP∧s.n≤1000000000000∧∀ x∈s.l,(x.1.length≤4000000000∧x.2.length≤4000000000):=by
 obtain ⟨A,l,n,c,hcs,hn,hc,_,_,hK2,hr,hg⟩:=h.list (fun x:(BS×BS)=>encP x) (fun x=>(x.1.length≤4000000000∧x.2.length≤4000000000)) (fun _=>rfl) (by decide) cofT_prp Tryz.underlying40 (fun _ _ h=>h.prpT hK)
 exact ⟨⟨A,n,c,l⟩,hcs,⟨hn,hc,hr⟩,by show n≤_;omega,hg⟩
theorem cofT_snap:Tryz.prog.cellsOf 70=5:=by kernel_rfl
theorem CellsIn.snapT (hK:K≤1048576) (h:CellsIn enc Tryz.prog W K 70 cs d):∃ x:SnapR,cs=encSnap x∧(x.rd W W.heap.size∧x.sz):=by
 obtain ⟨hl,hf⟩:=h.fields Tryz.underlying70
 obtain ⟨a0,a1,a2,a3,a4,rfl⟩:=len5 (hl.trans cofT_snap)
 obtain ⟨y0,q0⟩:=hf 0 _ rfl
 obtain ⟨y1,q1⟩:=hf 1 _ rfl
 obtain ⟨y2,q2⟩:=hf 2 _ rfl
 obtain ⟨y3,q3⟩:=hf 3 _ rfl
 obtain ⟨y4,q4⟩:=hf 4 _ rfl
 obtain ⟨s0,e0,_,b0⟩:=q0.str Tryz.underlying9
 obtain ⟨s1,e1,_⟩:=q1.i64 Tryz.underlying3
 obtain ⟨s2,e2,g2⟩:=q2.blks hK
 obtain ⟨s3,e3,g3⟩:=q3.strs hK
 obtain ⟨s4,e4,g4⟩:=q4.prps hK
 simp [cofT_str,cofT_int,cofT_blks,cofT_strs,cofT_prps] at e0 e1 e2 e3 e4
 obtain ⟨r2,n2,_⟩:=g2
 obtain ⟨r3,n3,k3⟩:=g3
 obtain ⟨r4,n4,k4⟩:=g4
 exact ⟨⟨s0,s1,s2,s3,s4⟩,by rw [e0,e1,e2,e3,e4];rfl,⟨r2,r3,r4⟩,⟨by show s0.length≤_;omega,n2,n3,k3,n4,k4⟩⟩
theorem CellsIn.snaps (hK:K≤1048576) (h:CellsIn enc Tryz.prog W K 39 cs d):∃ s:FS SnapR,cs=[s.val]∧s.rd W W.heap.size 5 encSnap∧s.n≤1000000000000∧∀ x∈s.l,(x.rd W W.heap.size∧x.sz):=by
 obtain ⟨A,l,n,c,hcs,hn,hc,_,_,hK2,hr,hg⟩:=h.list (fun x:SnapR=>encSnap x) (fun x=>(x.rd W W.heap.size∧x.sz)) (fun _=>rfl) (by decide) cofT_snap Tryz.underlying39 (fun _ _ h=>h.snapT hK)
 exact ⟨⟨A,n,c,l⟩,hcs,⟨hn,hc,hr⟩,by show n≤_;omega,hg⟩
theorem cofT_set:Tryz.prog.cellsOf 42=5:=by kernel_rfl
theorem CellsIn.setT (hK:K≤1048576) (h:CellsIn enc Tryz.prog W K 42 cs d):∃ x:SetR,cs=encSet x∧(x.rd W W.heap.size∧x.sz):=by
 obtain ⟨hl,hf⟩:=h.fields Tryz.underlying42
 obtain ⟨a0,a1,a2,a3,a4,rfl⟩:=len5 (hl.trans cofT_set)
 obtain ⟨y0,q0⟩:=hf 0 _ rfl
 obtain ⟨y1,q1⟩:=hf 1 _ rfl
 obtain ⟨y2,q2⟩:=hf 2 _ rfl
 obtain ⟨y3,q3⟩:=hf 3 _ rfl
 obtain ⟨y4,q4⟩:=hf 4 _ rfl
 obtain ⟨s0,e0,_,b0⟩:=q0.str Tryz.underlying9
 obtain ⟨s1,e1,_,b1⟩:=q1.str Tryz.underlying9
 obtain ⟨s2,e2,g2⟩:=q2.blks hK
 obtain ⟨s3,e3,g3⟩:=q3.snaps hK
 obtain ⟨s4,e4,g4⟩:=q4.prps hK
 simp [cofT_str,cofT_blks,cofT_snaps,cofT_prps] at e0 e1 e2 e3 e4
 obtain ⟨r2,n2,_⟩:=g2
 obtain ⟨r3,n3,k3⟩:=g3
 obtain ⟨r4,n4,k4⟩:=g4
 exact ⟨⟨s0,s1,s2,s3,s4⟩,by rw [e0,e1,e2,e3,e4];rfl,⟨r2,r3,fun y hy=>(k3 y hy).1,r4⟩,⟨by show s0.length≤_;omega,by show s1.length≤_;omega,n2,n3,fun y hy=>(k3 y hy).2,n4,k4⟩⟩
theorem CellsIn.sets (hK:K≤1048576) (h:CellsIn enc Tryz.prog W K 22 cs d):∃ s:FS SetR,cs=[s.val]∧s.rd W W.heap.size 5 encSet∧s.n≤1000000000000∧∀ x∈s.l,(x.rd W W.heap.size∧x.sz):=by
 obtain ⟨A,l,n,c,hcs,hn,hc,_,_,hK2,hr,hg⟩:=h.list (fun x:SetR=>encSet x) (fun x=>(x.rd W W.heap.size∧x.sz)) (fun _=>rfl) (by decide) cofT_set Tryz.underlying22 (fun _ _ h=>h.setT hK)
 exact ⟨⟨A,n,c,l⟩,hcs,⟨hn,hc,hr⟩,by show n≤_;omega,hg⟩
structure RecR where
 kind:Int
 nm:BS
 frm:Int
 gd:Int
 own:FS (BS×BS)
 ix:Int
 ct:Int
 dt:BS
 sm:Sm
def encRec (x:RecR):List Value:=[.int .i64 x.kind,strV x.nm,.int .i64 x.frm,.int .i64 x.gd,x.own.val,.int .i64 x.ix,.int .i64 x.ct,strV x.dt]++smV x.sm
theorem cofT_rec2:Tryz.prog.cellsOf 112=12:=by kernel_rfl
theorem CellsIn.recT (hK:K≤1048576) (h:CellsIn enc Tryz.prog W K 112 cs d):∃ x:RecR,cs=encRec x∧(x.own.rd W W.heap.size 2 encP∧x.own.n≤1000000000000∧(∀ p∈x.own.l,p.1.length≤4000000000∧p.2.length≤4000000000)∧x.nm.length≤4000000000∧x.dt.length≤4000000000):=by
 obtain ⟨hl,hf⟩:=h.fields Tryz.underlying112
 obtain ⟨a0,a1,a2,a3,a4,a5,a6,a7,a8,a9,a10,a11,rfl⟩:=len12 (hl.trans cofT_rec2)
 obtain ⟨y0,q0⟩:=hf 0 _ rfl
 obtain ⟨y1,q1⟩:=hf 1 _ rfl
 obtain ⟨y2,q2⟩:=hf 2 _ rfl
 obtain ⟨y3,q3⟩:=hf 3 _ rfl
 obtain ⟨y4,q4⟩:=hf 4 _ rfl
 obtain ⟨y5,q5⟩:=hf 5 _ rfl
 obtain ⟨y6,q6⟩:=hf 6 _ rfl
 obtain ⟨y7,q7⟩:=hf 7 _ rfl
 obtain ⟨y8,q8⟩:=hf 8 _ rfl
 obtain ⟨s0,e0,_⟩:=q0.i64 Tryz.underlying3
 obtain ⟨s1,e1,_,b1⟩:=q1.str Tryz.underlying9
 obtain ⟨s2,e2,_⟩:=q2.i64 Tryz.underlying3
 obtain ⟨s3,e3,_⟩:=q3.i64 Tryz.underlying3
 obtain ⟨s4,e4,g4⟩:=q4.prps hK
 obtain ⟨s5,e5,_⟩:=q5.i64 Tryz.underlying3
 obtain ⟨s6,e6,_⟩:=q6.i64 Tryz.underlying3
 obtain ⟨s7,e7,_,b7⟩:=q7.str Tryz.underlying9
 obtain ⟨s8,e8⟩:=q8.sumT
 simp [cofT_int,cofT_str,cofT_prps,cofT_sum] at e0 e1 e2 e3 e4 e5 e6 e7 e8
 obtain ⟨r4,n4,k4⟩:=g4
 simp [smV] at e8
 obtain ⟨e8,e9,e10,e11⟩:=e8
 exact ⟨⟨s0,s1,s2,s3,s4,s5,s6,s7,s8⟩,by rw [e0,e1,e2,e3,e4,e5,e6,e7,e8,e9,e10,e11];rfl,r4,n4,k4,by show s1.length≤_;omega,by show s7.length≤_;omega⟩
theorem cofT_stage:Tryz.prog.cellsOf 114=21:=by kernel_rfl
theorem CellsIn.stageT (hK:K≤1048576) (h:CellsIn enc Tryz.prog W K 114 cs d):∃ x:StageR,cs=encStage x∧(x.rd W W.heap.size∧x.sz):=by
 obtain ⟨hl,hf⟩:=h.fields Tryz.underlying114
 obtain ⟨a0,a1,a2,a3,a4,a5,a6,a7,a8,a9,a10,a11,a12,a13,a14,a15,a16,a17,a18,a19,a20,rfl⟩:=len21 (hl.trans cofT_stage)
 obtain ⟨y0,q0⟩:=hf 0 _ rfl
 obtain ⟨y1,q1⟩:=hf 1 _ rfl
 obtain ⟨y2,q2⟩:=hf 2 _ rfl
 obtain ⟨y3,q3⟩:=hf 3 _ rfl
 obtain ⟨y4,q4⟩:=hf 4 _ rfl
 obtain ⟨y5,q5⟩:=hf 5 _ rfl
 obtain ⟨y6,q6⟩:=hf 6 _ rfl
 obtain ⟨s0,e0,_,b0⟩:=q0.str Tryz.underlying9
 obtain ⟨s1,e1,g1⟩:=q1.recT hK
 obtain ⟨s2,e2,g2⟩:=q2.blks hK
 obtain ⟨s3,e3,_⟩:=q3.i64 Tryz.underlying3
 obtain ⟨s4,e4,_⟩:=q4.i64 Tryz.underlying3
 obtain ⟨s5,e5⟩:=q5.sumT
 obtain ⟨s6,e6⟩:=q6.bool Tryz.underlying4
 simp [cofT_str,cofT_rec,cofT_blks,cofT_int,cofT_sum,cofT_bool] at e0 e1 e2 e3 e4 e5 e6
 obtain ⟨r1,n1,k1,m1,m2⟩:=g1
 obtain ⟨r2,n2,_⟩:=g2
 simp [smV,encRec] at e1 e5
 obtain ⟨f0,f1,f2,f3,f4,f5,f6,f7,f8,f9,f10,f11⟩:=e1
 obtain ⟨h0,h1,h2,h3⟩:=e5
 exact ⟨⟨s0,s1.kind,s1.nm,s1.frm,s1.gd,s1.own,s1.ix,s1.ct,s1.dt,s1.sm,s2,s3,s4,s5,s6⟩,by rw [e0,f0,f1,f2,f3,f4,f5,f6,f7,f8,f9,f10,f11,e2,e3,e4,h0,h1,h2,h3,e6];rfl,⟨r1,r2⟩,⟨by show s0.length≤_;omega,m1,m2,n1,k1,n2⟩⟩
theorem CellsIn.stages (hK:K≤1048576) (h:CellsIn enc Tryz.prog W K 24 cs d):∃ s:FS StageR,cs=[s.val]∧s.rd W W.heap.size 21 encStage∧s.n≤500000000000∧∀ x∈s.l,(x.rd W W.heap.size∧x.sz):=by
 obtain ⟨A,l,n,c,hcs,hn,hc,_,_,hK2,hr,hg⟩:=h.list (fun x:StageR=>encStage x) (fun x=>(x.rd W W.heap.size∧x.sz)) (fun _=>rfl) (by decide) cofT_stage Tryz.underlying24 (fun _ _ h=>h.stageT hK)
 exact ⟨⟨A,n,c,l⟩,hcs,⟨hn,hc,hr⟩,by show n≤_;omega,hg⟩
theorem cofT_entry:Tryz.prog.cellsOf 117=4:=by kernel_rfl
theorem CellsIn.entryT (hK:K≤1048576) (h:CellsIn enc Tryz.prog W K 117 cs d):∃ x:EntryR,cs=encEntry x∧(x.sz):=by
 obtain ⟨hl,hf⟩:=h.fields Tryz.underlying117
 obtain ⟨a0,a1,a2,a3,rfl⟩:=len4 (hl.trans cofT_entry)
 obtain ⟨y0,q0⟩:=hf 0 _ rfl
 obtain ⟨y1,q1⟩:=hf 1 _ rfl
 obtain ⟨y2,q2⟩:=hf 2 _ rfl
 obtain ⟨y3,q3⟩:=hf 3 _ rfl
 obtain ⟨s0,e0,_,b0⟩:=q0.str Tryz.underlying9
 obtain ⟨s1,e1,_⟩:=q1.i64 Tryz.underlying3
 obtain ⟨s2,e2,_,b2⟩:=q2.str Tryz.underlying9
 obtain ⟨s3,e3,_⟩:=q3.i64 Tryz.underlying29
 simp [cofT_str,cofT_int,cofT_errno] at e0 e1 e2 e3
 exact ⟨⟨s0,s1,s2,s3⟩,by rw [e0,e1,e2,e3];rfl,⟨by show s0.length≤_;omega,by show s2.length≤_;omega⟩⟩
theorem CellsIn.log (hK:K≤1048576) (h:CellsIn enc Tryz.prog W K 25 cs d):∃ s:FS EntryR,cs=[s.val]∧s.rd W W.heap.size 4 encEntry∧s.n≤1000000000000∧∀ x∈s.l,x.sz:=by
 obtain ⟨A,l,n,c,hcs,hn,hc,_,_,hK2,hr,hg⟩:=h.list (fun x:EntryR=>encEntry x) (fun x=>x.sz) (fun _=>rfl) (by decide) cofT_entry Tryz.underlying25 (fun _ _ h=>h.entryT hK)
 exact ⟨⟨A,n,c,l⟩,hcs,⟨hn,hc,hr⟩,by show n≤_;omega,hg⟩
theorem cofT_grant:Tryz.prog.cellsOf 139=3:=by kernel_rfl
theorem len3 {α:Type} {l:List α} (h:l.length=3):∃ a b c,l=[a,b,c]:=by
 match l,h with
 | [a,b,c],_=>exact ⟨a,b,c,rfl⟩
theorem CellsIn.grantT (hK:K≤1048576) (h:CellsIn enc Tryz.prog W K 139 cs d):∃ x:GT,cs=encG x∧(x.1.length≤4000000000∧x.2.1.length≤4000000000):=by
 obtain ⟨hl,hf⟩:=h.fields Tryz.underlying139
 obtain ⟨c0,c1,c2,rfl⟩:=len3 (hl.trans cofT_grant)
 obtain ⟨y0,q0⟩:=hf 0 _ rfl
 obtain ⟨y1,q1⟩:=hf 1 _ rfl
 obtain ⟨y2,q2⟩:=hf 2 _ rfl
 obtain ⟨s0,e0,_,b0⟩:=q0.str Tryz.underlying9
 obtain ⟨s1,e1,_,b1⟩:=q1.str Tryz.underlying9
 obtain ⟨n2,e2,_,_⟩:=q2.i64 Tryz.underlying3
 simp [cofT_str,cofT_int] at e0 e1 e2
 exact ⟨(s0,s1,n2),by rw [e0,e1,e2];rfl,by simp only;omega,by simp only;omega⟩
theorem CellsIn.grantsT (hK:K≤1048576) (h:CellsIn enc Tryz.prog W K 23 cs d):∃ s:FS GT,cs=[s.val]∧s.rd W W.heap.size 3 encG∧s.n≤1000000000000∧∀ x∈s.l,(x.1.length≤4000000000∧x.2.1.length≤4000000000):=by
 obtain ⟨A,l,n,c,hcs,hn,hc,_,_,hK2,hr,hg⟩:=h.list (fun x:GT=>encG x) (fun x=>(x.1.length≤4000000000∧x.2.1.length≤4000000000)) (fun _=>rfl) (by decide) cofT_grant Tryz.underlying23 (fun _ _ h=>h.grantT hK)
 exact ⟨⟨A,n,c,l⟩,hcs,⟨hn,hc,hr⟩,by show n≤_;omega,hg⟩
theorem cofT_ten:Tryz.prog.cellsOf 27=7:=by kernel_rfl
theorem CellsIn.tenT (hK:K≤1048576) (h:CellsIn enc Tryz.prog W K 27 cs d):∃ x:TenR,cs=TenR.cells x∧(x.rd W W.heap.size∧x.sz∧x.stages.n≤500000000000):=by
 obtain ⟨hl,hf⟩:=h.fields Tryz.underlying27
 obtain ⟨a0,a1,a2,a3,a4,a5,a6,rfl⟩:=len7 (hl.trans cofT_ten)
 obtain ⟨y0,q0⟩:=hf 0 _ rfl
 obtain ⟨y1,q1⟩:=hf 1 _ rfl
 obtain ⟨y2,q2⟩:=hf 2 _ rfl
 obtain ⟨y3,q3⟩:=hf 3 _ rfl
 obtain ⟨y4,q4⟩:=hf 4 _ rfl
 obtain ⟨y5,q5⟩:=hf 5 _ rfl
 obtain ⟨y6,q6⟩:=hf 6 _ rfl
 obtain ⟨s0,e0,_,b0⟩:=q0.str Tryz.underlying9
 obtain ⟨s1,e1,_⟩:=q1.i64 Tryz.underlying3
 obtain ⟨s2,e2,_⟩:=q2.i64 Tryz.underlying3
 obtain ⟨s3,e3,g3⟩:=q3.sets hK
 obtain ⟨s4,e4,g4⟩:=q4.grantsT hK
 obtain ⟨s5,e5,g5⟩:=q5.stages hK
 obtain ⟨s6,e6,g6⟩:=q6.log hK
 simp [cofT_str,cofT_int,cofT_sets,cofT_grants,cofT_stages,cofT_log] at e0 e1 e2 e3 e4 e5 e6
 obtain ⟨r3,n3,k3⟩:=g3
 obtain ⟨r4,n4,k4⟩:=g4
 obtain ⟨r5,n5,k5⟩:=g5
 obtain ⟨r6,n6,k6⟩:=g6
 exact ⟨⟨s0,s1,s2,s3,s4,s5,s6⟩,by rw [e0,e1,e2,e3,e4,e5,e6];rfl,⟨r3,fun y hy=>(k3 y hy).1,r4,r5,fun y hy=>(k5 y hy).1,r6⟩,⟨by show s0.length≤_;omega,n3,fun y hy=>(k3 y hy).2,n4,k4,Nat.le_trans n5 (by decide),fun y hy=>(k5 y hy).2,n6,k6⟩,n5⟩
/-- the same, the number of stages smaller (a row of them can be made anew) -/
theorem ArgIn.ten2 {v:Value} (hK:Rows.uptoBulk d≤1048576) (h:ArgIn enc Tryz.prog W 27 v d):∃ t:TenR,v=t.val∧t.rd W W.heap.size∧t.sz∧t.stages.n≤500000000000:=by
 obtain ⟨cs,rfl,hc⟩:=h.agg Tryz.underlying27
 obtain ⟨t,hcs,h1,h2,h3⟩:=hc.tenT hK
 refine ⟨t,?_,h1,h2,h3⟩
 show Value.agg _=Value.agg _
 congr 1
 exact Array.toList_inj.1 hcs
end
end Go.Proofs.YtmladblmknbgnaaGreatDoor
