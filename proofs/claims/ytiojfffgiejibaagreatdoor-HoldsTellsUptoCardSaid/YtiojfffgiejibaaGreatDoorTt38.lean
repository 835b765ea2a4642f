/-
  The page's found and room.
-/
import Derived.Test.YtiojfffgiejibaaGreatDoorTtM1
import Derived.WalkKit
import Derived.WalkSpells
import Derived.Below
import Derived.Laws.OwnMore
import Derived.Deep.AppendLies
import Derived.Deep.Draws
import Derived.Laws.Rows
import Derived.Maps.AppendAt
import Derived.RegionTactic
import Derived.OwnWalk
import Derived.Deep.QuietTactic
import Derived.BigQuiet
import Derived.Lib.Hide
import Derived.Laws.CopyOwn
import Derived.IntWalk
import Derived.Test.YtiojfffgiejibaaGreatDoorRows
import Derived.Handy
import Derived.Deep.Quiet
import Derived.ProofKit
import Derived.OpenShut
import Derived.ShutString
import Derived.ChangeOld
import Derived.Carry
import Derived.SizedLaws
import Derived.JoinedCond
import Derived.Deep.CondSized
import Derived.Deep.Slices
import Derived.Deep.Fields
import Derived.Lib.SmallJoins
import Derived.Orders
import Derived.Lib.SplitLaws
import Derived.Lib.LastIndexByte
import Derived.Lib.Strings
import Derived.Sort.Walk0
import Derived.Sort.KeysCollected
import Derived.Deep.MidRow
import Derived.Deep.RegionLaw
import Derived.Lib.AppendZeros
import Derived.Shelf.Strings.Search1
import Derived.Shelf.Strings.Search2
import Derived.Shelf.Strings.Search3
import Derived.Shelf.Strings.Cut
import Derived.Shelf.Strings.Count
import Derived.Shelf.LaysM
import Derived.Shelf.Strings.Shaped
import Derived.Shelf.Strings.LastIndex
import Derived.Shelf.Strings.Split
import Derived.Shelf.Strings.SplitShaped
import Derived.Shelf.Unicode.Decode
import Derived.Shelf.Strings.RuneCount
import Derived.Shelf.Strings.Explode
import Derived.Shelf.Unicode.DecodeSlow
import Derived.Shelf.Slices.Turned
import Derived.Test.YtiojfffgiejibaaGreatDoorProg
import Derived.Lib.Overlaps
import Derived.Lib.AppendZerosOnto
import Derived.Laws.BytesString
import Derived.Laws.IdiomStrings
import Derived.Lib.ConvBytes
import Derived.Deep.DeepCutAuto
import Derived.Great.BuildSlice
import Derived.Test.YtiojfffgiejibaaGreatDoorT0
import Derived.Test.YtiojfffgiejibaaGreatDoorTt1
import Derived.Test.YtiojfffgiejibaaGreatDoorTt3
import Derived.Test.YtiojfffgiejibaaGreatDoorTt5
import Derived.Test.YtiojfffgiejibaaGreatDoorTt7
import Derived.Test.YtiojfffgiejibaaGreatDoorTt10
import Derived.Test.YtiojfffgiejibaaGreatDoorTt12
import Derived.Test.YtiojfffgiejibaaGreatDoorTt16
import Derived.Test.YtiojfffgiejibaaGreatDoorTt19
import Derived.Test.YtiojfffgiejibaaGreatDoorTt20
import Derived.Test.YtiojfffgiejibaaGreatDoorTt21
import Derived.Test.YtiojfffgiejibaaGreatDoorTt24
import Derived.Test.YtiojfffgiejibaaGreatDoorTt25
import Derived.Test.YtiojfffgiejibaaGreatDoorTt26
import Derived.Test.YtiojfffgiejibaaGreatDoorTt27
import Derived.Test.YtiojfffgiejibaaGreatDoorTt30
import Derived.Test.YtiojfffgiejibaaGreatDoorTt32
import Derived.Test.YtiojfffgiejibaaGreatDoorTt36
namespace Go.Proofs.YtiojfffgiejibaaGreatDoor
open Go.RowKit
/-- the page's found, by content -/
def TenC.rfound (c:TenC) (p n:BS) (more must:Bool):Int×Int×Int :=
 if must=true∧(c.askS p n (!more)).2.2=0∧(c.askS p n (!more)).2.1<0 then (0,0,71) else c.askS p n (!more)
theorem rfound_way (t:TenR) (sl:List SetR) (hs:t.sets.l=sl) (p n:BS) (more:Bool) (R:Int×Int×Int) (hR:R=t.con.rfound p n more true) :
  (∃ E:Int,(E=9∨E=31∨E=71)∧R=(0,0,E)∧∃ a k',t.con.foundS p n (!more)=(a,k',E))∨∃ (k i:Nat) (hk:k<sl.length) (hi:i<(sl[k]'hk).snaps.l.length),R=((k:Int),(i:Int),0)∧t.con.foundS p n (!more)=((k:Int),(i:Int),0)∧AtS t.con p n (!more) k∧t.con.sets[k]?=some (sl[k]'hk).con∧(sl[k]'hk).con.snaps[i]?=some ((sl[k]'hk).snaps.l[i]'hi).con∧((sl[k]'hk).snaps.l[i]'hi).nm=n:=by
 unfold TenC.rfound at hR
 have hF:t.con.foundS p n (!more)=if (t.con.askS p n (!more)).2.2=0∧(t.con.askS p n (!more)).2.1<0 then ((t.con.askS p n (!more)).1,(t.con.askS p n (!more)).2.1,71) else t.con.askS p n (!more):=rfl
 rcases found_way t sl hs p n (!more) _ rfl with ⟨a,k,E,h1,h2⟩ | ⟨k,i,hk,hi,h1,h2⟩
 ·by_cases hc:(t.con.askS p n (!more)).2.2=0∧(t.con.askS p n (!more)).2.1<0
  ·rw [if_pos ⟨rfl,hc⟩] at hR
   rw [if_pos hc] at hF
   exact .inl ⟨71,.inr (.inr rfl),hR,_,_,hF⟩
  ·rw [if_neg (fun h=>hc h.2)] at hR
   rw [if_neg hc,h2] at hF
   rw [← hF] at hR
   rcases t.con.askS_cases p n (!more) with ⟨E',-,e⟩ | ⟨k',ha,e⟩
   ·rw [← hF] at e
    refine .inl ⟨E,h1,?_,_,_,h2⟩
    rw [hR,e]
    injection e with _ e
    injection e with _ e
    rw [e]
   ·rw [← hF] at e
    injection e with _ e
    injection e with _ e
    rcases h1 with rfl | rfl | rfl <;> cases e
 ·have hc:¬ ((t.con.askS p n (!more)).2.2=0∧(t.con.askS p n (!more)).2.1<0):=fun hc=>by
   rw [if_pos hc,h1] at hF
   injection hF with _ hF
   injection hF with _ hF
   cases hF
  rw [if_neg (fun h=>hc h.2)] at hR
  rw [if_neg hc,h1] at hF
  rw [← hF] at hR
  exact .inr ⟨k,i,hk,hi,hR,h1,h2⟩
theorem rfound_eq (t:TenR) (p n:BS) (more must:Bool):t.con.rfound p n more must=if t.con.E=9 then ((0:Int),(0:Int),(9:Int)) else if pathB p=false∨nameB n=false∨more=false then (0,0,31) else match t.sets.l.find? (fun s=>s.path == p) with
  | none=>(0,0,71)
  | some s=>if must=true∧findN s.snaps.l n<0 then (0,0,71) else (findS t.sets.l p,findN s.snaps.l n,0):=by
 unfold TenC.rfound
 rw [← askS_con]
 unfold askI
 rw [tenE_con]
 have hm:(!more)=true↔more=false:=by cases more <;> simp
 simp only [hm]
 rcases t.con.E_two with hE | hE
 ·simp only [if_neg (show ¬ t.con.E=9 by rw [hE];decide)]
  by_cases hb:pathB p=false∨nameB n=false∨more=false
  ·simp only [if_pos hb]
   simp
  ·simp only [if_neg hb]
   cases t.sets.l.find? (fun x=>x.path == p) with
   | none=>simp
   | some s=>simp
 ·simp only [if_pos hE]
  simp
set_option maxRecDepth 100000 in
set_option maxHeartbeats 4000000 in
theorem rfound_any (t:TenR) (p n:BS) (more must:Bool) (w:World) (B:Nat) (hB:B≤w.heap.size) (hr:t.rd w B) (hz:t.sz) (hp:p.length≤4000000000) (hn:n.length≤4000000000) :
  Calls Tryz.prog 74 #[t.val,.string ⟨p.toArray⟩,.string ⟨n.toArray⟩,.bool more,.bool must] w fun e w'=>e=.returned (askV (t.con.rfound p n more must))∧Below w.heap.size w w':=by
 have h2:=t.con.E_two
 obtain ⟨V,hV⟩:∃ V,V=t.con.rfound p n more must:=⟨_,rfl⟩
 have hVe:=hV.trans (rfound_eq t p n more must)
 have hCe:=tenE_con t
 rw [← hV]
 obtain ⟨nm,qu,nx,⟨s1,sn,s3,sl⟩,⟨u1,un,u3,ul⟩,⟨t1,tn,t3,tl⟩,⟨l1,ln,l3,ll⟩⟩:=t
 show Calls Tryz.prog 74 #[.agg #[.string ⟨nm.toArray⟩,.int .i64 qu,.int .i64 nx,.slice s1 sn s3,.slice u1 un u3,.slice t1 tn t3,.slice l1 ln l3],.string ⟨p.toArray⟩,.string ⟨n.toArray⟩,.bool more,.bool must] w _
 have hb:=((Below.refl w.heap.size w).alloc (Nat.le_refl _) (.cells #[.string ⟨nm.toArray⟩,.int .i64 qu,.int .i64 nx,.slice s1 sn s3,.slice u1 un u3,.slice t1 tn t3,.slice l1 ln l3] 27))
 have kt:=Blk.new w 27 #[.string ⟨nm.toArray⟩,.int .i64 qu,.int .i64 nx,.slice s1 sn s3,.slice u1 un u3,.slice t1 tn t3,.slice l1 ln l3]
 have hsz:(w.alloc (.cells #[.string ⟨nm.toArray⟩,.int .i64 qu,.int .i64 nx,.slice s1 sn s3,.slice u1 un u3,.slice t1 tn t3,.slice l1 ln l3] 27)).heap.size=w.heap.size+1:=tZ4
 obtain ⟨W1,hW1⟩:∃ W,W=(w.alloc (.cells #[.string ⟨nm.toArray⟩,.int .i64 qu,.int .i64 nx,.slice s1 sn s3,.slice u1 un u3,.slice t1 tn t3,.slice l1 ln l3] 27)):=⟨_,rfl⟩
 rw [← hW1] at hb hsz kt
 have hKt:Hid (∀ W,Below W1.heap.size W1 W→Blk W w.heap.size 27 #[.string ⟨nm.toArray⟩,.int .i64 qu,.int .i64 nx,.slice s1 sn s3,.slice u1 un u3,.slice t1 tn t3,.slice l1 ln l3]):=fun W h=>kt.below h tZ1
 have hBW:Hid (∀ W,Below W1.heap.size W1 W→Below w.heap.size w W):=fun W h=>hb.trans (h.mono tZ1)
 have hSZ:Hid (∀ W,Below W1.heap.size W1 W→w.heap.size+1≤W.heap.size):=fun W h=>by have:=h.size;omega
 have hW0:Hid (Below W1.heap.size W1 W1):=Below.refl _ _
 have hrw:Hid (∀ W,Below W1.heap.size W1 W→TenR.rd W B ⟨nm,qu,nx,⟨s1,sn,s3,sl⟩,⟨u1,un,u3,ul⟩,⟨t1,tn,t3,tl⟩,⟨l1,ln,l3,ll⟩⟩∧B≤W.heap.size):=fun W h =>
  ⟨TenR.rd.below hr ((hBW.out W h).mono hB),by have:=hSZ.out W h;omega⟩
 have hCK:Hid (∀ W,Below W1.heap.size W1 W→Calls Tryz.prog 60 #[.agg #[.string ⟨nm.toArray⟩,.int .i64 qu,.int .i64 nx,.slice s1 sn s3,.slice u1 un u3,.slice t1 tn t3,.slice l1 ln l3]] W fun e w'=>e=.returned (.int .i64 (TenR.con ⟨nm,qu,nx,⟨s1,sn,s3,sl⟩,⟨u1,un,u3,ul⟩,⟨t1,tn,t3,tl⟩,⟨l1,ln,l3,ll⟩⟩).E)∧Below W.heap.size W w'):=fun W h=>by
  rw [← hCe]
  exact rcheck14_any ⟨nm,qu,nx,⟨s1,sn,s3,sl⟩,⟨u1,un,u3,ul⟩,⟨t1,tn,t3,tl⟩,⟨l1,ln,l3,ll⟩⟩ W B (hrw.out W h).1 (hrw.out W h).2 hz
 have hPA:Hid (∀ W,Below W1.heap.size W1 W→Calls Tryz.prog 75 #[.string ⟨p.toArray⟩] W fun e w'=>e=.returned (.bool (pathB p))∧Below W.heap.size W w'):=fun W h =>
  refPath_any ⟨p.toArray⟩ W tZ98
 have hNA:Hid (∀ W,Below W1.heap.size W1 W→Calls Tryz.prog 79 #[.string ⟨n.toArray⟩] W fun e w'=>e=.returned (.bool (nameB n))∧Below W.heap.size W w'):=fun W h=>refNameB_any n W hn
 have hFI:Hid (∀ W,Below W1.heap.size W1 W→Calls Tryz.prog 33 #[.agg #[.string ⟨nm.toArray⟩,.int .i64 qu,.int .i64 nx,.slice s1 sn s3,.slice u1 un u3,.slice t1 tn t3,.slice l1 ln l3],.string ⟨p.toArray⟩] W fun e w'=>e=.returned (.int .i64 (findS sl p))∧Below W.heap.size W w'):=fun W h =>
  refFind_any _ _ _ _ _ _ sl sn hr.sets.1 s1 s3 p W B (hrw.out W h).1.sets.2.2 (hrw.out W h).2 tZ29
 obtain ⟨E,hE⟩:∃ E,E=(TenR.con ⟨nm,qu,nx,⟨s1,sn,s3,sl⟩,⟨u1,un,u3,ul⟩,⟨t1,tn,t3,tl⟩,⟨l1,ln,l3,ll⟩⟩).E:=⟨_,rfl⟩
 obtain ⟨bp,hbp⟩:∃ b,b=pathB p:=⟨_,rfl⟩
 obtain ⟨bn,hbn⟩:∃ b,b=nameB n:=⟨_,rfl⟩
 rw [← hE] at h2 hVe hCK
 rw [← hbp] at hVe hPA
 rw [← hbn] at hVe hNA
 simp only at hVe
 have HV:=Lib.hid hVe
 have hSN:=Lib.hid (show sn=sl.length from hr.sets.1)
 have HZ:=Lib.hid hz
 clear hb hsz kt hr hz hp hn hV hVe hCe hE hbp hbn
 go_enter Tryz.func74,Tryz.ntmps74
 have hc:=hCK.out  W1 hW0.out
 have kk:=hKt.out W1 hW0.out
 obtain ⟨c0,c1,c2,c3,c4,c5,c6⟩:=(⟨kk.cell 0,kk.cell 1,kk.cell 2,kk.cell 3,kk.cell 4,kk.cell 5,kk.cell 6⟩:_∧_∧_∧_∧_∧_∧_)
 simp only [zF,zD,zE] at c0 c1 c2 c3 c4 c5 c6
 clear kk
 go_wp2_with fail
 rw [← hW1]
 clear hW1
 refine hc.mono ?_
 clear hc c0 c1 c2 c3 c4 c5 c6
 rintro e w2 ⟨rfl,hb⟩
 have HW2:=Lib.hid (hW0.out.trans (hb.mono hW0.out.size))
 clear hb
 rcases h2 with rfl | rfl
 ·have hc:=hPA.out  w2 HW2.out
  go_wp2_with fail
  refine hc.mono ?_
  clear hc
  rintro e w3 ⟨rfl,hb⟩
  have HW3:=Lib.hid (HW2.out.trans (hb.mono HW2.out.size))
  clear hb
  have HV:=Lib.hid (HV.out.trans (if_neg tZ3))
  cases bp with
  | false =>
   have HX:=Lib.hid (HV.out.trans (if_pos (.inl rfl)))
   clear HV
   go_wp2_with fail
   exact bodyPost_ret (v:=.tuple #[.int .i64 0,.int .i64 0,.int .i64 31]) tZ47 rfl ⟨by rw [HX.out];rfl,hBW.out _ HW3.out⟩
  | true =>
   have hc:=hNA.out  w3 HW3.out
   go_wp2_with fail
   refine hc.mono ?_
   clear hc
   rintro e w4 ⟨rfl,hb⟩
   have HW4:=Lib.hid (HW3.out.trans (hb.mono HW3.out.size))
   clear hb
   cases bn with
   | false =>
    have HX:=Lib.hid (HV.out.trans (if_pos (.inr (.inl rfl))))
    exact mZ205
   | true =>
    cases more with
    | false =>
     have HX:=Lib.hid (HV.out.trans (if_pos (.inr (.inr rfl))))
     exact mZ205
    | true =>
     have HV:=Lib.hid (HV.out.trans (if_neg tZ4))
     have hc:=hFI.out  w4 HW4.out
     have kk:=hKt.out w4 HW4.out
     obtain ⟨c0,c1,c2,c3,c4,c5,c6⟩:=(⟨kk.cell 0,kk.cell 1,kk.cell 2,kk.cell 3,kk.cell 4,kk.cell 5,kk.cell 6⟩:_∧_∧_∧_∧_∧_∧_)
     simp only [zF,zD,zE] at c0 c1 c2 c3 c4 c5 c6
     clear kk
     go_wp2_with fail
     refine hc.mono ?_
     clear hc c0 c1 c2 c3 c4 c5 c6
     rintro e w5 ⟨rfl,hb⟩
     have HW5:=Lib.hid (HW4.out.trans (hb.mono HW4.out.size))
     clear hb
     rcases firstI_cases (fun s:SetR=>s.path == p) sl with ⟨h1,h2⟩ | ⟨k,hkl,h1,h2⟩
     ·have h1:findS sl p=-1:=h1
      have HX:Hid (V=(0,0,71)):=by show _=_;rw [HV.out];simp only [h2]
      rw [h1]
      clear HV h1 h2
      go_wp2_with fail
      exact bodyPost_ret (v:=.tuple #[.int .i64 0,.int .i64 0,.int .i64 71]) tZ47 rfl ⟨by rw [HX.out];rfl,hBW.out _ HW5.out⟩
     ·have h1:findS sl p=(k:Int):=h1
      have hk0:¬ (k:Int)<0:=tZ1
      have hk00:(0:Int)≤(k:Int):=tZ1
      have hks:k<sn:=tZ44
      have hki:(k:Int)<(sn:Int):=tZ1
      have hrk:=(hrw.out w5 HW5.out)
      obtain ⟨ad,hsa,-,q0,q1,q2,q3,q4⟩:=set_at hrk.1.sets.2.2 hSN.out hks
      simp only at hsa
      subst hsa
      have hx:=hrk.1.eachS _ (List.getElem_mem hkl)
      have hzx:=HZ.out.eachS _ (List.getElem_mem hkl)
      have HX0:Hid (V=if must=true∧findN (sl[k]'hkl).snaps.l n<0 then (0,0,71) else ((k:Int),findN (sl[k]'hkl).snaps.l n,0)):=by show _=_;rw [HV.out];simp only [h2,h1]
      rw [h1]
      obtain ⟨x,hxx⟩:∃ x,x=sl[k]'hkl:=⟨_,rfl⟩
      rw [← hxx] at q0 q1 q2 q3 q4 hx hzx HX0
      clear hxx h1 h2 HV
      have hc:=refSnap_any (.string ⟨x.path.toArray⟩) (.string ⟨x.org.toArray⟩) (.slice x.body.A x.body.n x.body.c) (.slice x.own.A x.own.n x.own.c) x.snaps.l x.snaps.n hx.snaps.1 x.snaps.A x.snaps.c n w5 B hx.snaps.2.2 hrk.2 tZ104
      obtain ⟨pa,og,⟨bA,bnn,bc,bl⟩,⟨zA,zn,zc,zl⟩,⟨oA,on,oc,ol⟩⟩:=x
      simp only at q0 q1 q2 q3 q4 hc HX0
      obtain ⟨z,hz⟩:∃ z,z=findN zl n:=⟨_,rfl⟩
      rw [← hz] at hc HX0
      clear hx hzx hrw hrk hz
      have kk:=hKt.out w5 HW5.out
      obtain ⟨c0,c1,c2,c3,c4,c5,c6⟩:=(⟨kk.cell 0,kk.cell 1,kk.cell 2,kk.cell 3,kk.cell 4,kk.cell 5,kk.cell 6⟩:_∧_∧_∧_∧_∧_∧_)
      simp only [zF,zD,zE] at c0 c1 c2 c3 c4 c5 c6
      clear kk
      go_wp2_with fail
      refine hc.mono ?_
      clear hc c0 c1 c2 c3 c4 c5 c6 q0 q1 q2 q3 q4
      rintro e w6 ⟨rfl,hb⟩
      have HW6:=Lib.hid (HW5.out.trans (hb.mono HW5.out.size))
      clear hb
      cases must with
      | false =>
       have HX:=Lib.hid (HX0.out.trans (if_neg (by rintro ⟨h,-⟩;cases h)))
       exact mZ206
      | true =>
       by_cases hz0:z<0
       ·have HX:=Lib.hid (HX0.out.trans (if_pos ⟨rfl,hz0⟩))
        clear HX0
        go_wp2_with fail
        exact bodyPost_ret (v:=.tuple #[.int .i64 0,.int .i64 0,.int .i64 71]) tZ47 rfl ⟨by rw [HX.out];rfl,hBW.out _ HW6.out⟩
       ·have HX:=Lib.hid (HX0.out.trans (if_neg (fun h=>hz0 h.2)))
        exact mZ206
 ·have HX:=Lib.hid (HV.out.trans (if_pos rfl))
  clear HV
  go_wp2_with fail
  exact bodyPost_ret (v:=.tuple #[.int .i64 0,.int .i64 0,.int .i64 9]) tZ47 rfl ⟨by rw [HX.out];rfl,hBW.out _ HW2.out⟩
end Go.Proofs.YtiojfffgiejibaaGreatDoor
