/-
  tree.Check, tree.Kids: by their contracts. The page's set, by its contract.
-/
import Derived.Test.YtcgclpcocdappaaGreatDoorXM1
import Derived.Test.YtcgclpcocdappaaGreatDoorX0
import Derived.Test.YtcgclpcocdappaaGreatDoorX15
import Derived.Test.YtcgclpcocdappaaGreatDoorX17
import Derived.Test.YtcgclpcocdappaaGreatDoorX10
import Derived.Test.YtcgclpcocdappaaGreatDoorX18
namespace Go.Proofs.YtcgclpcocdappaaGreatDoor
open Go.RowKit
theorem TenR.rd.below {t:TenR} {w w':World} {B:Nat} (h:t.rd w B) (hb:Below B w w'):t.rd w' B :=
 ⟨h.sets.below hb,fun y hy=>⟨(h.eachS y hy).body.below hb,(h.eachS y hy).snaps.below hb,fun z hz=>⟨((h.eachS y hy).each z hz).body.below hb,((h.eachS y hy).each z hz).tags.below hb,((h.eachS y hy).each z hz).own.below hb⟩,(h.eachS y hy).own.below hb⟩,h.grants.below hb,h.stages.below hb,fun y hy=>⟨(h.eachG y hy).own.below hb,(h.eachG y hy).body.below hb⟩,h.log.below hb⟩
set_option maxRecDepth 100000 in
set_option maxHeartbeats 4000000 in
theorem tcheck_any (t:TenR) (w:World) (B:Nat) (hr:t.rd w B) (hB:B≤w.heap.size) (hz:t.sz) (hmx:HasMax w) :
  Calls Tryz.prog 58 #[t.val] w fun e w'=>e=.returned (.int .i64 (tenE t))∧Below w.heap.size w w':=by
 obtain ⟨nm,quota,next,⟨s1,s2,s3,sl⟩,⟨g1,g2,g3,gl⟩,⟨t1,t2,t3,tl⟩,⟨l1,l2,l3,ll⟩⟩:=t
 show Calls Tryz.prog 58 #[.agg #[.string ⟨nm.toArray⟩,.int .i64 quota,.int .i64 next,.slice s1 s2 s3,.slice g1 g2 g3,.slice t1 t2 t3,.slice l1 l2 l3]] w _
 have hb1:=(Below.refl w.heap.size w).alloc (Nat.le_refl _) (.cells #[.string ⟨nm.toArray⟩,.int .i64 quota,.int .i64 next,.slice s1 s2 s3,.slice g1 g2 g3,.slice t1 t2 t3,.slice l1 l2 l3] 27)
 have kT:=Blk.new w 27 #[.string ⟨nm.toArray⟩,.int .i64 quota,.int .i64 next,.slice s1 s2 s3,.slice g1 g2 g3,.slice t1 t2 t3,.slice l1 l2 l3]
 obtain ⟨W1,hW1⟩:∃ W,W=w.alloc (.cells #[.string ⟨nm.toArray⟩,.int .i64 quota,.int .i64 next,.slice s1 s2 s3,.slice g1 g2 g3,.slice t1 t2 t3,.slice l1 l2 l3] 27):=⟨_,rfl⟩
 have hsz1:W1.heap.size=w.heap.size+1:=tZ55
 rw [← hW1] at hb1 kT
 have hT:=Lib.hid (fun (W':World) (hB':Below W1.heap.size W1 W')=>(⟨(kT.below hB' tZ1).cell 0,(kT.below hB' tZ1).cell 1,(kT.below hB' tZ1).cell 2,(kT.below hB' tZ1).cell 3,(kT.below hB' tZ1).cell 4,(kT.below hB' tZ1).cell 5,(kT.below hB' tZ1).cell 6⟩:W'.cell? ⟨w.heap.size,0,none⟩=some (.string ⟨nm.toArray⟩)∧W'.cell? ⟨w.heap.size,1,none⟩=some (.int .i64 quota)∧W'.cell? ⟨w.heap.size,2,none⟩=some (.int .i64 next)∧W'.cell? ⟨w.heap.size,3,none⟩=some (.slice s1 s2 s3)∧W'.cell? ⟨w.heap.size,4,none⟩=some (.slice g1 g2 g3)∧W'.cell? ⟨w.heap.size,5,none⟩=some (.slice t1 t2 t3)∧W'.cell? ⟨w.heap.size,6,none⟩=some (.slice l1 l2 l3)))
 have hrw:∀ W',Below W1.heap.size W1 W'→TenR.rd W' B ⟨nm,quota,next,⟨s1,s2,s3,sl⟩,⟨g1,g2,g3,gl⟩,⟨t1,t2,t3,tl⟩,⟨l1,l2,l3,ll⟩⟩∧W1.heap.size≤W'.heap.size∧HasMax W':=fun W' hb=>⟨hr.below ((hb1.trans (hb.mono tZ1)).mono hB),hb.size,hmx.below (hb1.trans (hb.mono tZ1))⟩
 have hN:Hid (∀ W,Below W1.heap.size W1 W→Calls Tryz.prog 83 #[.string ⟨nm.toArray⟩] W fun e W'=>e=.returned (.bool (nameB nm))∧Below W.heap.size W W'):=fun W _=>name_any ⟨nm.toArray⟩ W
 have hQ:Hid (∀ W,Below W1.heap.size W1 W→Calls Tryz.prog 124 #[.int .i64 quota,.int .i64 0] W fun e W'=>e=.returned (.bool (amt quota 0))∧Below W.heap.size W W'):=fun W _=>amountB_any quota 0 W
 have hX:Hid (∀ W,Below W1.heap.size W1 W→Calls Tryz.prog 124 #[.int .i64 next,.int .i64 1] W fun e W'=>e=.returned (.bool (amt next 1))∧Below W.heap.size W W'):=fun W _=>amountB_any next 1 W
 have hS:Hid (∀ W,Below W1.heap.size W1 W→Calls Tryz.prog 125 #[.agg #[.string ⟨nm.toArray⟩,.int .i64 quota,.int .i64 next,.slice s1 s2 s3,.slice g1 g2 g3,.slice t1 t2 t3,.slice l1 l2 l3]] W fun e W'=>e=.returned (.bool (setsB sl))∧Below W.heap.size W W'):=fun W hb=>by
  obtain ⟨r1,r2,r3⟩:=hrw W hb
  exact sets_any _ _ _ _ _ _ sl s2 r1.sets.1 s1 s3 W B r1.sets.2.2 r1.eachS tZ1 hz.sets hz.eachS r3
 have hG:Hid (∀ W,Below W1.heap.size W1 W→Calls Tryz.prog 126 #[.slice g1 g2 g3] W fun e W'=>e=.returned (.int .i64 (if grantsB gl=true then 0 else 9))∧Below W.heap.size W W'):=fun W hb=>by
  obtain ⟨r1,r2,r3⟩:=hrw W hb
  exact checkG_any gl g2 r1.grants.1 g1 g3 W B r1.grants.2.2 tZ1 tZ92 hz.eachG r3
 have hT2:Hid (∀ W,Below W1.heap.size W1 W→Calls Tryz.prog 127 #[.slice t1 t2 t3] W fun e W'=>e=.returned (.bool (stagesB tl))∧Below W.heap.size W W'):=fun W hb=>by
  obtain ⟨r1,r2,r3⟩:=hrw W hb
  exact stages_any tl t2 r1.stages.1 t1 t3 W B r1.stages.2.2 r1.eachG tZ1 hz.stages hz.eachT r3
 have hL:Hid (∀ W,Below W1.heap.size W1 W→Calls Tryz.prog 128 #[.slice l1 l2 l3,.func (.func 129) #[] #[]] W fun e W'=>e=.returned (.bool (!(ll.all entryB)))∧Below W.heap.size W W'):=fun W hb=>by
  obtain ⟨r1,r2,r3⟩:=hrw W hb
  exact oddLog_any ll l2 r1.log.1 l1 l3 W B r1.log.2.2 tZ1 hz.log hz.eachL r3
 have hlen:l2=ll.length:=hr.log.1
 have HV:Hid (tenE ⟨nm,quota,next,⟨s1,s2,s3,sl⟩,⟨g1,g2,g3,gl⟩,⟨t1,t2,t3,tl⟩,⟨l1,l2,l3,ll⟩⟩=if (nameB nm && (amt quota 0 && (amt next 1 && (setsB sl && (grantsB gl && (stagesB tl && (decide (l2≤16) && ll.all entryB)))))))=true then 0 else 9):=by
  show _=_
  rw [hlen]
  unfold tenE tenB logB
  simp only [Bool.and_assoc]
 obtain ⟨E,hE⟩:∃ V,V=tenE ⟨nm,quota,next,⟨s1,s2,s3,sl⟩,⟨g1,g2,g3,gl⟩,⟨t1,t2,t3,tl⟩,⟨l1,l2,l3,ll⟩⟩:=⟨_,rfl⟩
 obtain ⟨bN,hbN⟩:∃ V,V=nameB nm:=⟨_,rfl⟩
 obtain ⟨bQ,hbQ⟩:∃ V,V=amt quota 0:=⟨_,rfl⟩
 obtain ⟨bX,hbX⟩:∃ V,V=amt next 1:=⟨_,rfl⟩
 obtain ⟨bS,hbS⟩:∃ V,V=setsB sl:=⟨_,rfl⟩
 obtain ⟨bG,hbG⟩:∃ V,V=grantsB gl:=⟨_,rfl⟩
 obtain ⟨bT,hbT⟩:∃ V,V=stagesB tl:=⟨_,rfl⟩
 obtain ⟨bL,hbL⟩:∃ V,V=ll.all entryB:=⟨_,rfl⟩
 rw [← hE] at HV ⊢
 rw [← hbN] at HV hN
 rw [← hbQ] at HV hQ
 rw [← hbX] at HV hX
 rw [← hbS] at HV hS
 rw [← hbG] at HV hG
 rw [← hbT] at HV hT2
 rw [← hbL] at HV hL
 have HB1:=Lib.hid hb1
 have HSZ1:=Lib.hid hsz1
 clear hE hbN hbQ hbX hbS hbG hbT hbL hb1 hsz1 kT hr hz hrw hlen
 have hW0:=Below.refl W1.heap.size W1
 go_enter Tryz.func58,Tryz.ntmps58
 have hc:=hN.out _ hW0
 cases bN with
 | false =>
  exact mZ183
 | true =>
  go_wp2_with fail
  rw [← hW1]
  refine hc.mono ?_
  clear hc
  rintro e w11 ⟨rfl,hbw11⟩
  have hWw11:=hW0.trans (hbw11.mono hW0.size)
  clear hbw11
  obtain ⟨c0,c1,c2,c3,c4,c5,c6⟩:=hT.out _ hWw11
  have hc:=hQ.out _ hWw11
  cases bQ with
  | false =>
   exact mZ184
  | true =>
   go_wp2_with fail
   refine hc.mono ?_
   clear hc
   rintro e w12 ⟨rfl,hbw12⟩
   have hWw12:=hWw11.trans (hbw12.mono hWw11.size)
   clear hbw12
   obtain ⟨c0,c1,c2,c3,c4,c5,c6⟩:=hT.out _ hWw12
   have hc:=hX.out _ hWw12
   cases bX with
   | false =>
    exact mZ185
   | true =>
    go_wp2_with fail
    refine hc.mono ?_
    clear hc
    rintro e w13 ⟨rfl,hbw13⟩
    have hWw13:=hWw12.trans (hbw13.mono hWw12.size)
    clear hbw13
    obtain ⟨c0,c1,c2,c3,c4,c5,c6⟩:=hT.out _ hWw13
    have hc:=hS.out _ hWw13
    cases bS with
    | false =>
     go_wp2_with fail
     refine hc.mono ?_
     clear hc
     rintro e w14 ⟨rfl,hbw14⟩
     have hWw14:=hWw13.trans (hbw14.mono hWw13.size)
     clear hbw14
     obtain ⟨c0,c1,c2,c3,c4,c5,c6⟩:=hT.out _ hWw14
     have HB:Hid (E=9):=tZ11
     exact mZ145
    | true =>
     go_wp2_with fail
     refine hc.mono ?_
     clear hc
     rintro e w14 ⟨rfl,hbw14⟩
     have hWw14:=hWw13.trans (hbw14.mono hWw13.size)
     clear hbw14
     obtain ⟨c0,c1,c2,c3,c4,c5,c6⟩:=hT.out _ hWw14
     have hc:=hG.out _ hWw14
     cases bG with
     | false =>
      rw [if_neg tZ4] at hc
      go_wp2_with fail
      refine hc.mono ?_
      clear hc
      rintro e w15 ⟨rfl,hbw15⟩
      have hWw15:=hWw14.trans (hbw15.mono hWw14.size)
      clear hbw15
      obtain ⟨c0,c1,c2,c3,c4,c5,c6⟩:=hT.out _ hWw15
      have HB:Hid (E=9):=tZ11
      exact mZ177
     | true =>
      rw [if_pos rfl] at hc
      go_wp2_with fail
      refine hc.mono ?_
      clear hc
      rintro e w15 ⟨rfl,hbw15⟩
      have hWw15:=hWw14.trans (hbw15.mono hWw14.size)
      clear hbw15
      obtain ⟨c0,c1,c2,c3,c4,c5,c6⟩:=hT.out _ hWw15
      have hc:=hT2.out _ hWw15
      cases bT with
      | false =>
       go_wp2_with fail
       refine hc.mono ?_
       clear hc
       rintro e w16 ⟨rfl,hbw16⟩
       have hWw16:=hWw15.trans (hbw16.mono hWw15.size)
       clear hbw16
       obtain ⟨c0,c1,c2,c3,c4,c5,c6⟩:=hT.out _ hWw16
       have HB:Hid (E=9):=tZ11
       exact mZ186
      | true =>
       go_wp2_with fail
       refine hc.mono ?_
       clear hc
       rintro e w16 ⟨rfl,hbw16⟩
       have hWw16:=hWw15.trans (hbw16.mono hWw15.size)
       clear hbw16
       obtain ⟨c0,c1,c2,c3,c4,c5,c6⟩:=hT.out _ hWw16
       by_cases hl:16<l2
       ·have hi:(16:Int)<(l2:Int):=tZ1
        have HB:Hid (E=9):=by show _=_;rw [HV.out,decide_eq_false (show ¬ l2≤16 by omega)];rfl
        exact mZ186
       have hi:¬ (16:Int)<(l2:Int):=tZ1
       have HV2:Hid (E=if bL=true then 0 else 9):=by show _=_;rw [HV.out,decide_eq_true (show l2≤16 by omega)];rfl
       have hc:=hL.out _ hWw16
       go_wp2_with fail
       refine hc.mono ?_
       clear hc
       rintro e w20 ⟨rfl,hb20⟩
       have HBF:=Lib.hid (HB1.out.trans ((hWw16.trans (hb20.mono hWw16.size)).mono tZ12))
       cases bL with
       | true =>
        have HB:Hid (E=0):=tZ108
        exact mZ147
       | false =>
        have HB:Hid (E=9):=tZ108
        exact mZ147
end Go.Proofs.YtcgclpcocdappaaGreatDoor
namespace Go.Proofs.YtcgclpcocdappaaGreatDoor
open Go.RowKit
set_option maxRecDepth 100000 in
set_option maxHeartbeats 8000000 in
theorem refSet_any (v0 v1 v2 v4 v5 v6:Value) (all:List SetR) (n:Nat) (hnl:n=all.length) (A:Option Addr) (c:Nat) (x:SetR) (w:World) (B:Nat) (hr:Reads w B 5 A n (cellsK encSet all)) (he:∀ y∈all,y.rd w B) (hxr:x.rd w B) (hB:B≤w.heap.size) (hn:n≤1000000000000) (hv:∀ y∈all,y.sz) (hxs:x.sz) :
  Calls Tryz.prog 66 #[.agg #[v0,v1,v2,.slice A n c,v4,v5,v6],.agg #[.string ⟨x.path.toArray⟩,.string ⟨x.org.toArray⟩,.slice x.body.A x.body.n x.body.c,.slice x.snaps.A x.snaps.n x.snaps.c,.slice x.own.A x.own.n x.own.c]] w fun e w'=>e=.returned (.bool (setB all x))∧Below w.heap.size w w':=by
 have hb1:=(Below.refl w.heap.size w).alloc (Nat.le_refl _) (.cells #[v0,v1,v2,.slice A n c,v4,v5,v6] 27)
 have hb2:=hb1.alloc hb1.size (.cells #[.string ⟨x.path.toArray⟩,.string ⟨x.org.toArray⟩,.slice x.body.A x.body.n x.body.c,.slice x.snaps.A x.snaps.n x.snaps.c,.slice x.own.A x.own.n x.own.c] 42)
 have k1:=(Blk.new w 27 #[v0,v1,v2,.slice A n c,v4,v5,v6]).alloc (.cells #[.string ⟨x.path.toArray⟩,.string ⟨x.org.toArray⟩,.slice x.body.A x.body.n x.body.c,.slice x.snaps.A x.snaps.n x.snaps.c,.slice x.own.A x.own.n x.own.c] 42)
 have k2:=Blk.new (w.alloc (.cells #[v0,v1,v2,.slice A n c,v4,v5,v6] 27)) 42 #[.string ⟨x.path.toArray⟩,.string ⟨x.org.toArray⟩,.slice x.body.A x.body.n x.body.c,.slice x.snaps.A x.snaps.n x.snaps.c,.slice x.own.A x.own.n x.own.c]
 rw [show (w.alloc (.cells #[v0,v1,v2,.slice A n c,v4,v5,v6] 27)).heap.size=w.heap.size+1 by simp] at k2
 obtain ⟨W2,hW2⟩:∃ W,W=(w.alloc (.cells #[v0,v1,v2,.slice A n c,v4,v5,v6] 27)).alloc (.cells #[.string ⟨x.path.toArray⟩,.string ⟨x.org.toArray⟩,.slice x.body.A x.body.n x.body.c,.slice x.snaps.A x.snaps.n x.snaps.c,.slice x.own.A x.own.n x.own.c] 42):=⟨_,rfl⟩
 have hsz:W2.heap.size=w.heap.size+2:=tZ53
 rw [← hW2] at hb2 k1 k2
 have hS:=Lib.hid (fun (W':World) (hB':Below W2.heap.size W2 W') =>
  (⟨(k1.below hB' tZ1).cell 0,(k1.below hB' tZ1).cell 1,(k1.below hB' tZ1).cell 2,(k1.below hB' tZ1).cell 3,(k1.below hB' tZ1).cell 4,(k1.below hB' tZ1).cell 5,(k1.below hB' tZ1).cell 6,(k2.below hB' tZ1).cell 0,(k2.below hB' tZ1).cell 1,(k2.below hB' tZ1).cell 2,(k2.below hB' tZ1).cell 3,(k2.below hB' tZ1).cell 4⟩ :
   W'.cell? ⟨w.heap.size,0,none⟩=some v0∧W'.cell? ⟨w.heap.size,1,none⟩=some v1∧W'.cell? ⟨w.heap.size,2,none⟩=some v2∧W'.cell? ⟨w.heap.size,3,none⟩=some (.slice A n c)∧W'.cell? ⟨w.heap.size,4,none⟩=some v4∧W'.cell? ⟨w.heap.size,5,none⟩=some v5∧W'.cell? ⟨w.heap.size,6,none⟩=some v6∧W'.cell? ⟨w.heap.size+1,0,none⟩=some (.string ⟨x.path.toArray⟩)∧W'.cell? ⟨w.heap.size+1,1,none⟩=some (.string ⟨x.org.toArray⟩)∧W'.cell? ⟨w.heap.size+1,2,none⟩=some (.slice x.body.A x.body.n x.body.c)∧W'.cell? ⟨w.heap.size+1,3,none⟩=some (.slice x.snaps.A x.snaps.n x.snaps.c)∧W'.cell? ⟨w.heap.size+1,4,none⟩=some (.slice x.own.A x.own.n x.own.c)))
 have HSZ:=Lib.hid hsz
 have HB2:=Lib.hid hb2
 have HNL:=Lib.hid hnl
 have hrd:∀ (y:SetR),y.rd w B→∀ W',Below W2.heap.size W2 W'→y.rd W' B:=fun y hy W' hB'=>⟨hy.body.below ((hb2.trans (hB'.mono tZ1)).mono hB),hy.snaps.below ((hb2.trans (hB'.mono tZ1)).mono hB),fun z hz=>⟨(hy.each z hz).body.below ((hb2.trans (hB'.mono tZ1)).mono hB),(hy.each z hz).tags.below ((hb2.trans (hB'.mono tZ1)).mono hB),(hy.each z hz).own.below ((hb2.trans (hB'.mono tZ1)).mono hB)⟩,hy.own.below ((hb2.trans (hB'.mono tZ1)).mono hB)⟩
 have hR:=Lib.hid (fun (W':World) (hB':Below W2.heap.size W2 W')=>(⟨hr.below ((hb2.trans (hB'.mono tZ1)).mono hB),hB'.size,fun y hy=>hrd y (he y hy) W' hB'⟩:Reads W' B 5 A n (cellsK encSet all)∧W2.heap.size≤W'.heap.size∧∀ y∈all,y.rd W' B))
 have HVS:=Lib.hid hv
 have hPn:Hid (∀ W,Below W2.heap.size W2 W→Calls Tryz.prog 133 #[.string ⟨x.path.toArray⟩] W fun e W'=>Below W.heap.size W W'∧((x.path=[]∨pathB x.path=false)∧e=.returned (.tuple #[.string ⟨#[]⟩,.bool false])∨x.path≠[]∧pathB x.path=true∧e=.returned (.tuple #[.string ⟨(upL x.path).toArray⟩,.bool true]))):=fun W _ =>
  refParent_any ⟨x.path.toArray⟩ W tZ74
 have hPa:Hid (∀ W,Below W2.heap.size W2 W→Calls Tryz.prog 115 #[.string ⟨x.path.toArray⟩] W fun e W'=>e=.returned (.bool (pathB x.path))∧Below W.heap.size W W'):=fun W _=>refPath_any ⟨x.path.toArray⟩ W tZ74
 have hFd:Hid (∀ (p:BS) W,Below W2.heap.size W2 W→Calls Tryz.prog 10 #[.agg #[v0,v1,v2,.slice A n c,v4,v5,v6],.string ⟨p.toArray⟩] W fun e W'=>e=.returned (.int .i64 (findS all p))∧Below W.heap.size W W'):=fun p W hb =>
  refFind_any v0 v1 v2 v4 v5 v6 all n HNL.out A c p W B (hR.out _ hb).1 tZ13 tZ1
 have hBk:Hid (∀ W,Below W2.heap.size W2 W→Calls Tryz.prog 117 #[.slice x.body.A x.body.n x.body.c] W fun e W'=>e=.returned (.int .i64 (if okL x.body.l=true then 0 else 9))∧Below W.heap.size W W'):=fun W hb =>
  refCheckB_any x.body.l x.body.n (hrd x hxr W hb).body.1 x.body.A x.body.c W B (hrd x hxr W hb).body.2.2 hxs.body
 have hPr:Hid (∀ W,Below W2.heap.size W2 W→Calls Tryz.prog 119 #[.slice x.own.A x.own.n x.own.c] W fun e W'=>e=.returned (.int .i64 (if propsB x.own.l=true then 0 else 9))∧Below W.heap.size W W'):=fun W hb =>
  refPropsB_any x.own.l x.own.n (hrd x hxr W hb).own.1 x.own.A x.own.c W B (hrd x hxr W hb).own.2.2 hxs.own hxs.props
 have hSn:Hid (∀ W,Below W2.heap.size W2 W→Calls Tryz.prog 134 #[.slice x.snaps.A x.snaps.n x.snaps.c] W fun e W'=>e=.returned (.bool (snapsB x.snaps.l))∧Below W.heap.size W W'):=fun W hb =>
  refSnaps_any x.snaps.l x.snaps.n (hrd x hxr W hb).snaps.1 x.snaps.A x.snaps.c W B (hrd x hxr W hb).snaps.2.2 (hrd x hxr W hb).each tZ13 hxs.snaps hxs.each
 have hSp:Hid (∀ W,Below W2.heap.size W2 W→Calls Tryz.prog 135 #[.string ⟨x.org.toArray⟩] W fun e W'=>e=.returned (splitV x.org)∧Below W.heap.size W W'):=fun W _=>refSplit_any ⟨x.org.toArray⟩ W (by show x.org.length≤_;exact hxs.org)
 have HV0:Hid (setB all x=(pathB x.path && ((match parB x.path with | none=>true | some u=>all.any fun y=>y.path == u) && (okL x.body.l && (propsB x.own.l && (snapsB x.snaps.l && originP all x.path x.org)))))):=by
  show _=_
  rw [setB_eq]
  cases parB x.path with
  | none =>
   simp only
   generalize pathB x.path=a1
   generalize okL x.body.l=a3
   generalize propsB x.own.l=a4
   generalize snapsB x.snaps.l=a5
   generalize originP all x.path x.org=a6
   cases a1 <;> cases a3 <;> cases a4 <;> cases a5 <;> cases a6 <;> rfl
  | some u =>
   simp only
   generalize pathB x.path=a1
   generalize (all.any fun y=>y.path == u)=a2
   generalize okL x.body.l=a3
   generalize propsB x.own.l=a4
   generalize snapsB x.snaps.l=a5
   generalize originP all x.path x.org=a6
   cases a1 <;> cases a2 <;> cases a3 <;> cases a4 <;> cases a5 <;> cases a6 <;> rfl
 have HFL:Hid (∀ u,parB x.path=some u→(findS all u<0→(all.any fun y=>y.path == u)=false)∧(0≤findS all u→(all.any fun y=>y.path == u)=true)):=by
  show ∀ u,_→_
  intro u _
  have:=firstI_any (fun y:SetR=>y.path == u) all
  rw [← this]
  exact ⟨fun h=>decide_eq_false (by show ¬ (0:Int)≤findS all u;omega),fun h=>decide_eq_true h⟩
 obtain ⟨V,hV⟩:∃ V,V=setB all x:=⟨_,rfl⟩
 rw [← hV] at HV0 ⊢
 obtain ⟨xp,xo,⟨b1,b2,b3,bl⟩,⟨s1,s2,s3,sl⟩,⟨o1,o2,o3,ol⟩⟩:=x
 simp only at hW2 hS hPn hPa hBk hPr hSn hSp HV0 HFL ⊢
 obtain ⟨bPa,hbPa⟩:∃ b,b=pathB xp:=⟨_,rfl⟩
 obtain ⟨bB,hbB⟩:∃ b,b=okL bl:=⟨_,rfl⟩
 obtain ⟨bP,hbP⟩:∃ b,b=propsB ol:=⟨_,rfl⟩
 obtain ⟨bS,hbS⟩:∃ b,b=snapsB sl:=⟨_,rfl⟩
 rw [← hbPa] at HV0 hPa
 rw [← hbB] at HV0 hBk
 rw [← hbP] at HV0 hPr
 rw [← hbS] at HV0 hSn
 have HPA:=Lib.hid hbPa
 clear hV hbPa hbB hbP hbS hb1 hb2 k1 k2 hsz hnl hr he hxr hv hxs hrd
 have hW0:=Below.refl W2.heap.size W2
 have hpn:=hPn.out _ hW0
 clear hPn
 go_enter Tryz.func66,Tryz.ntmps66
 go_wp2_with fail
 rw [← hW2]
 clear hW2
 refine hpn.mono ?_
 clear hpn
 rintro e w4 ⟨hb4,⟨hpar,rfl⟩ | ⟨hne,hpb,rfl⟩⟩
 ·have HV:Hid (V=(bPa && (bB && (bP && (bS && originP all xp xo))))):=by
   show _=_
   rw [HV0.out]
   unfold parB
   rw [if_pos hpar]
   simp
  clear HV0 HFL hpar HPA
  as_aux_lemma =>
   obtain ⟨t0,t1,t2,t3,t4,t5,t6,q0,q1,q2,q3,q4⟩:=hS.out _ hb4
   have hc:=hPa.out _ hb4
   cases bPa with
   | false =>
    go_wp2_with fail
    refine hc.mono ?_
    clear hc
    rintro e w11 ⟨rfl,hbw11⟩
    have hWw11:=hb4.trans (hbw11.mono hb4.size)
    exact mZ187
   | true =>
    go_wp2_with fail
    refine hc.mono ?_
    clear hc
    rintro e w11 ⟨rfl,hbw11⟩
    have hWw11:=hb4.trans (hbw11.mono hb4.size)
    clear hbw11
    obtain ⟨t0,t1,t2,t3,t4,t5,t6,q0,q1,q2,q3,q4⟩:=hS.out _ hWw11
    have hc:=hBk.out _ hWw11
    cases bB with
    | false =>
     exact mZ188
    | true =>
     rw [if_pos rfl] at hc
     go_wp2_with fail
     refine hc.mono ?_
     clear hc
     rintro e w12 ⟨rfl,hbw12⟩
     have hWw12:=hWw11.trans (hbw12.mono hWw11.size)
     clear hbw12
     obtain ⟨t0,t1,t2,t3,t4,t5,t6,q0,q1,q2,q3,q4⟩:=hS.out _ hWw12
     have hc:=hPr.out _ hWw12
     cases bP with
     | false =>
      rw [if_neg tZ4] at hc
      exact mZ189
     | true =>
      rw [if_pos rfl] at hc
      go_wp2_with fail
      refine hc.mono ?_
      clear hc
      rintro e w13 ⟨rfl,hbw13⟩
      have hWw13:=hWw12.trans (hbw13.mono hWw12.size)
      clear hbw13
      obtain ⟨t0,t1,t2,t3,t4,t5,t6,q0,q1,q2,q3,q4⟩:=hS.out _ hWw13
      have hc:=hSn.out _ hWw13
      cases bS with
      | false =>
       go_wp2_with fail
       refine hc.mono ?_
       clear hc
       rintro e w14 ⟨rfl,hbw14⟩
       have hWw14:=hWw13.trans (hbw14.mono hWw13.size)
       clear hbw14
       obtain ⟨t0,t1,t2,t3,t4,t5,t6,q0,q1,q2,q3,q4⟩:=hS.out _ hWw14
       have HB:Hid (V=false):=tZ11
       go_wp2_with fail
       go_ret
       exact ⟨by rw [HB.out];rfl,HB2.out.trans (hWw14.mono tZ8)⟩
      | true =>
       go_wp2_with fail
       refine hc.mono ?_
       clear hc
       rintro e w14 ⟨rfl,hbw14⟩
       have hWw14:=hWw13.trans (hbw14.mono hWw13.size)
       clear hbw14
       obtain ⟨t0,t1,t2,t3,t4,t5,t6,q0,q1,q2,q3,q4⟩:=hS.out _ hWw14
       have HO:Hid (V=originP all xp xo):=tZ11
       as_aux_lemma =>
        by_cases ho:xo=[]
        ·subst ho
         have HE:Hid (V=true):=by show _=_;rw [HO.out];rfl
         go_wp2_with fail
         go_ret
         exact ⟨by rw [HE.out];rfl,HB2.out.trans (hWw14.mono tZ8)⟩
        ·have ho1:(xo == [])=false:=by simpa using ho
         have ho2:xo.isEmpty=false:=by cases xo <;> simp_all
         have HE:Hid (V=match splitL xo with
          | none=>false
          | some (p,n)=>!(p == xp) && match all.find? (fun x=>x.path == p) with
           | none=>false
           | some x=>x.snaps.l.any fun y=>y.nm == n):=tZ125
         have hc:=hSp.out _ hWw14
         clear ho HO HV
         rcases splitV_cases xo with ⟨h1,h2⟩ | ⟨p,m,h1,h2,h3,h4⟩
         ·rw [h2] at hc
          rw [h1] at HE
          clear h1 h2
          go_wp2_with fail
          refine (hc).mono ?_
          rintro e w21 ⟨rfl,hb21⟩
          have hWw21:=hWw14.trans (hb21.mono hWw14.size)
          exact mZ191
         ·rw [h2] at hc
          rw [h1] at HE
          clear h1 h2
          have HE:Hid (V=(!(p == xp) && match all.find? (fun x=>x.path == p) with
           | none=>false
           | some x=>x.snaps.l.any fun y=>y.nm == m)):=HE
          go_wp2_with fail
          refine (hc).mono ?_
          rintro e w21 ⟨rfl,hb21⟩
          have hWw21:=hWw14.trans (hb21.mono hWw14.size)
          exact mZ190
 ·have hpe:parB xp=some (upL xp):=by
   unfold parB
   rw [if_neg (by rw [hpb];simp [hne])]
  obtain ⟨z,hz⟩:∃ z,z=findS all (upL xp):=⟨_,rfl⟩
  have hF:z<0∨0≤z:=tZ1
  have hFi:=Lib.hid (fun W hb=>hFd.out (upL xp) W hb)
  obtain ⟨HF1,HF2⟩:=HFL.out _ hpe
  have HVU:Hid (V=(bPa && ((all.any fun y=>y.path == upL xp) && (bB && (bP && (bS && originP all xp xo)))))):=by
   show _=_
   rw [HV0.out,hpe]
  rw [← hz] at hFi HF1 HF2
  have hpt:bPa=true:=HPA.out.trans hpb
  subst hpt
  obtain ⟨up,hup⟩:∃ u,u=upL xp:=⟨_,rfl⟩
  rw [← hup] at hFi HF1 HF2 HVU ⊢
  have hc:=hPa.out _ hb4
  obtain ⟨t0,t1,t2,t3,t4,t5,t6,q0,q1,q2,q3,q4⟩:=hS.out _ hb4
  clear HV0 HFL HPA hne hpb hpe hz hup hPa
  as_aux_lemma =>
   go_wp2_with fail
   refine (hc).mono ?_
   rintro e w5 ⟨rfl,hb5⟩
   have hWw5:=hb4.trans (hb5.mono hb4.size)
   clear hb5
   obtain ⟨t0,t1,t2,t3,t4,t5,t6,q0,q1,q2,q3,q4⟩:=hS.out _ hWw5
   clear hc
   have hc:=hFi.out _ hWw5
   go_wp2_with fail
   refine (hc).mono ?_
   rintro e w6 ⟨rfl,hb6⟩
   have hWw6:=hWw5.trans (hb6.mono hWw5.size)
   clear hb6
   obtain ⟨t0,t1,t2,t3,t4,t5,t6,q0,q1,q2,q3,q4⟩:=hS.out _ hWw6
   clear hc
   rcases hF with hF | hF
   ·have HV:Hid (V=false):=by show _=_;rw [HVU.out,HF1 hF];rfl
    clear HF1 HF2 HVU
    go_wp2_with fail
    go_ret
    exact ⟨by rw [HV.out];rfl,HB2.out.trans (hWw6.mono tZ8)⟩
   ·have HV:Hid (V=(bB && (bP && (bS && originP all xp xo)))):=by show _=_;rw [HVU.out,HF2 hF];rfl
    clear HF1 HF2 HVU
    have hc:=hBk.out _ hWw6
    cases bB with
    | false =>
     rw [if_neg tZ4] at hc
     go_wp2_with fail
     refine hc.mono ?_
     clear hc
     rintro e w11 ⟨rfl,hbw11⟩
     have hWw11:=hWw6.trans (hbw11.mono hWw6.size)
     exact mZ187
    | true =>
     rw [if_pos rfl] at hc
     go_wp2_with fail
     refine hc.mono ?_
     clear hc
     rintro e w11 ⟨rfl,hbw11⟩
     have hWw11:=hWw6.trans (hbw11.mono hWw6.size)
     clear hbw11
     obtain ⟨t0,t1,t2,t3,t4,t5,t6,q0,q1,q2,q3,q4⟩:=hS.out _ hWw11
     have hc:=hPr.out _ hWw11
     cases bP with
     | false =>
      exact mZ188
     | true =>
      rw [if_pos rfl] at hc
      go_wp2_with fail
      refine hc.mono ?_
      clear hc
      rintro e w12 ⟨rfl,hbw12⟩
      have hWw12:=hWw11.trans (hbw12.mono hWw11.size)
      clear hbw12
      obtain ⟨t0,t1,t2,t3,t4,t5,t6,q0,q1,q2,q3,q4⟩:=hS.out _ hWw12
      have hc:=hSn.out _ hWw12
      cases bS with
      | false =>
       exact mZ189
      | true =>
       go_wp2_with fail
       refine hc.mono ?_
       clear hc
       rintro e w13 ⟨rfl,hbw13⟩
       have hWw13:=hWw12.trans (hbw13.mono hWw12.size)
       clear hbw13
       obtain ⟨t0,t1,t2,t3,t4,t5,t6,q0,q1,q2,q3,q4⟩:=hS.out _ hWw13
       have HO:Hid (V=originP all xp xo):=tZ11
       as_aux_lemma =>
        by_cases ho:xo=[]
        ·subst ho
         have HE:Hid (V=true):=by show _=_;rw [HO.out];rfl
         go_wp2_with fail
         go_ret
         exact ⟨by rw [HE.out];rfl,HB2.out.trans (hWw13.mono tZ8)⟩
        ·have ho1:(xo == [])=false:=by simpa using ho
         have ho2:xo.isEmpty=false:=by cases xo <;> simp_all
         have HE:Hid (V=match splitL xo with
          | none=>false
          | some (p,n)=>!(p == xp) && match all.find? (fun x=>x.path == p) with
           | none=>false
           | some x=>x.snaps.l.any fun y=>y.nm == n):=tZ125
         have hc:=hSp.out _ hWw13
         clear ho HO HV
         rcases splitV_cases xo with ⟨h1,h2⟩ | ⟨p,m,h1,h2,h3,h4⟩
         ·rw [h2] at hc
          rw [h1] at HE
          clear h1 h2
          go_wp2_with fail
          refine (hc).mono ?_
          rintro e w21 ⟨rfl,hb21⟩
          have hWw21:=hWw13.trans (hb21.mono hWw13.size)
          exact mZ191
         ·rw [h2] at hc
          rw [h1] at HE
          clear h1 h2
          have HE:Hid (V=(!(p == xp) && match all.find? (fun x=>x.path == p) with
           | none=>false
           | some x=>x.snaps.l.any fun y=>y.nm == m)):=HE
          go_wp2_with fail
          refine (hc).mono ?_
          rintro e w21 ⟨rfl,hb21⟩
          have hWw21:=hWw13.trans (hb21.mono hWw13.size)
          exact mZ190
end Go.Proofs.YtcgclpcocdappaaGreatDoor
