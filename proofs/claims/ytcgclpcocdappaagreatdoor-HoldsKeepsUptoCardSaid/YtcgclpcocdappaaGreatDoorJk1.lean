/-
  holds.found: a snapshot's places. Tags by content: what holds.found tells; a tag more, and one less. slices.Delete of one element, at elements of 5 cells, by its contract. Tenants: the plain law of what may be. tree.Kids, by its contract.
-/
import Derived.WalkKit
import Derived.WalkSpells
import Derived.Below
import Derived.Laws.OwnMore
import Derived.Deep.AppendLies
import Derived.Deep.Draws
import Derived.Laws.Rows
import Derived.Maps.AppendAt
import Derived.RegionTactic
import Derived.OwnWalk
import Derived.Deep.QuietTactic
import Derived.BigQuiet
import Derived.Lib.Hide
import Derived.Laws.CopyOwn
import Derived.IntWalk
import Derived.Test.YtcgclpcocdappaaGreatDoorRows
import Derived.Handy
import Derived.Deep.Quiet
import Derived.ProofKit
import Derived.OpenShut
import Derived.ShutString
import Derived.ChangeOld
import Derived.Carry
import Derived.SizedLaws
import Derived.JoinedCond
import Derived.Deep.CondSized
import Derived.Deep.Slices
import Derived.Deep.Fields
import Derived.Lib.SmallJoins
import Derived.Orders
import Derived.Lib.SplitLaws
import Derived.Lib.LastIndexByte
import Derived.Lib.Strings
import Derived.Sort.Walk0
import Derived.Sort.KeysCollected
import Derived.Deep.MidRow
import Derived.Shelf.Strings.Search1
import Derived.Shelf.Strings.Search2
import Derived.Shelf.Strings.Search3
import Derived.Shelf.Strings.Cut
import Derived.Shelf.Strings.Count
import Derived.Shelf.LaysM
import Derived.Shelf.Strings.Shaped
import Derived.Shelf.Strings.LastIndex
import Derived.Shelf.Strings.Split
import Derived.Shelf.Strings.SplitShaped
import Derived.Shelf.Unicode.Decode
import Derived.Shelf.Strings.RuneCount
import Derived.Shelf.Strings.Explode
import Derived.Shelf.Unicode.DecodeSlow
import Derived.Test.YtcgclpcocdappaaGreatDoorProg
import Derived.Laws.BytesString
import Derived.Laws.IdiomStrings
import Derived.Lib.ConvBytes
import Derived.Deep.DeepCutAuto
import Derived.Great.BuildSlice
import Derived.Deep.RegionLaw
import Derived.Lib.AppendZeros
import Derived.Lib.Overlaps
import Derived.Lib.AppendZerosOnto
import Derived.Test.YtcgclpcocdappaaGreatDoorJ0
import Derived.Test.YtcgclpcocdappaaGreatDoorJbkv1
import Derived.Test.YtcgclpcocdappaaGreatDoorJbkv2
import Derived.Test.YtcgclpcocdappaaGreatDoorJbkv3
import Derived.Test.YtcgclpcocdappaaGreatDoorJbkv4
import Derived.Test.YtcgclpcocdappaaGreatDoorJbkv5
import Derived.Test.YtcgclpcocdappaaGreatDoorJbkv6
import Derived.Test.YtcgclpcocdappaaGreatDoorJbkv7
import Derived.Test.YtcgclpcocdappaaGreatDoorJbkv8
import Derived.Test.YtcgclpcocdappaaGreatDoorJbkv10
import Derived.Test.YtcgclpcocdappaaGreatDoorJbkv14
import Derived.Test.YtcgclpcocdappaaGreatDoorJbkv15
import Derived.Test.YtcgclpcocdappaaGreatDoorJbkv16
import Derived.Test.YtcgclpcocdappaaGreatDoorJbkv17
import Derived.Test.YtcgclpcocdappaaGreatDoorJbkv19
import Derived.Test.YtcgclpcocdappaaGreatDoorJbkv20
import Derived.Test.YtcgclpcocdappaaGreatDoorJbkv21
import Derived.Test.YtcgclpcocdappaaGreatDoorJbkv27
import Derived.Test.YtcgclpcocdappaaGreatDoorJkv1
namespace Go.Proofs.YtcgclpcocdappaaGreatDoor
open Go.RowKit
/-- what holds.found tells: places and an error -/
def holdI (t:TenR) (p n g:BS):Int×Int×Int :=
 if tenE t=9 then (0,0,9) else if pathB p=false∨nameB n=false∨nameB g=false then (0,0,31) else
  match t.sets.l.find? (fun s=>s.path == p) with
  | none=>(0,0,71)
  | some s=>if findN s.snaps.l n<0 then (0,0,71) else (findS t.sets.l p,findN s.snaps.l n,0)
set_option maxRecDepth 100000 in
set_option maxHeartbeats 4000000 in
theorem hfound_any (t:TenR) (p n g:BS) (w:World) (B:Nat) (hB:B≤w.heap.size) (hr:t.rd w B) (hz:t.sz) (hp:p.length≤4000000000) (hmx:HasMax w) :
  Calls Tryz.prog 96 #[t.val,.string ⟨p.toArray⟩,.string ⟨n.toArray⟩,.string ⟨g.toArray⟩] w fun e w'=>e=.returned (askV (holdI t p n g))∧Below w.heap.size w w':=by
 have h2:=tenE_09 t
 obtain ⟨nm,qu,nx,⟨s1,sn,s3,sl⟩,⟨g1,gn,g3,gl⟩,⟨t1,tn,t3,tl⟩,⟨l1,ln,l3,ll⟩⟩:=t
 show Calls Tryz.prog 96 #[.agg #[.string ⟨nm.toArray⟩,.int .i64 qu,.int .i64 nx,.slice s1 sn s3,.slice g1 gn g3,.slice t1 tn t3,.slice l1 ln l3],.string ⟨p.toArray⟩,.string ⟨n.toArray⟩,.string ⟨g.toArray⟩] w _
 have hb1:=(Below.refl w.heap.size w).alloc (Nat.le_refl _) (.cells #[.string ⟨nm.toArray⟩,.int .i64 qu,.int .i64 nx,.slice s1 sn s3,.slice g1 gn g3,.slice t1 tn t3,.slice l1 ln l3] 27)
 have kT:=Blk.new w 27 #[.string ⟨nm.toArray⟩,.int .i64 qu,.int .i64 nx,.slice s1 sn s3,.slice g1 gn g3,.slice t1 tn t3,.slice l1 ln l3]
 obtain ⟨W1,hW1⟩:∃ W,W=w.alloc (.cells #[.string ⟨nm.toArray⟩,.int .i64 qu,.int .i64 nx,.slice s1 sn s3,.slice g1 gn g3,.slice t1 tn t3,.slice l1 ln l3] 27):=⟨_,rfl⟩
 have hsz1:W1.heap.size=w.heap.size+1:=by rw [hW1];simp
 rw [← hW1] at hb1 kT
 have hT:=Lib.hid (fun (W':World) (hB':Below W1.heap.size W1 W')=>(⟨(kT.below hB' (by omega)).cell 0,(kT.below hB' (by omega)).cell 1,(kT.below hB' (by omega)).cell 2,(kT.below hB' (by omega)).cell 3,(kT.below hB' (by omega)).cell 4,(kT.below hB' (by omega)).cell 5,(kT.below hB' (by omega)).cell 6⟩:W'.cell? ⟨w.heap.size,0,none⟩=some (.string ⟨nm.toArray⟩)∧W'.cell? ⟨w.heap.size,1,none⟩=some (.int .i64 qu)∧W'.cell? ⟨w.heap.size,2,none⟩=some (.int .i64 nx)∧W'.cell? ⟨w.heap.size,3,none⟩=some (.slice s1 sn s3)∧W'.cell? ⟨w.heap.size,4,none⟩=some (.slice g1 gn g3)∧W'.cell? ⟨w.heap.size,5,none⟩=some (.slice t1 tn t3)∧W'.cell? ⟨w.heap.size,6,none⟩=some (.slice l1 ln l3)))
 have hrw:Hid (∀ W,Below W1.heap.size W1 W→TenR.rd W B ⟨nm,qu,nx,⟨s1,sn,s3,sl⟩,⟨g1,gn,g3,gl⟩,⟨t1,tn,t3,tl⟩,⟨l1,ln,l3,ll⟩⟩∧w.heap.size<W.heap.size∧HasMax W∧Below w.heap.size w W):=by
  show ∀ W,_→_
  intro W h
  have h1:=hb1.trans (h.mono (by omega))
  exact ⟨TenR.rd.below hr (h1.mono hB),by have:=h.size;omega,hmx.below h1,h1⟩
 have HZ:=Lib.hid hz
 have HSN:=Lib.hid (show sn=sl.length from hr.sets.1)
 have hTC:Hid (∀ W,Below W1.heap.size W1 W→Calls Tryz.prog 58 #[.agg #[.string ⟨nm.toArray⟩,.int .i64 qu,.int .i64 nx,.slice s1 sn s3,.slice g1 gn g3,.slice t1 tn t3,.slice l1 ln l3]] W fun e w'=>e=.returned (.int .i64 (tenE ⟨nm,qu,nx,⟨s1,sn,s3,sl⟩,⟨g1,gn,g3,gl⟩,⟨t1,tn,t3,tl⟩,⟨l1,ln,l3,ll⟩⟩))∧Below W.heap.size W w'):=fun W hb =>
  tcheck_any ⟨nm,qu,nx,⟨s1,sn,s3,sl⟩,⟨g1,gn,g3,gl⟩,⟨t1,tn,t3,tl⟩,⟨l1,ln,l3,ll⟩⟩ W B (hrw.out W hb).1 (by have:=(hrw.out W hb).2.1;omega) hz (hrw.out W hb).2.2.1
 have hPA:Hid (∀ W,Below W1.heap.size W1 W→Calls Tryz.prog 80 #[.string ⟨p.toArray⟩] W fun e w'=>e=.returned (.bool (pathB p))∧Below W.heap.size W w'):=fun W hb=>path_any ⟨p.toArray⟩ W (by simpa [ByteArray.size] using hp) (hrw.out W hb).2.2.1
 have hNA:Hid (∀ W,Calls Tryz.prog 83 #[.string ⟨n.toArray⟩] W fun e w'=>e=.returned (.bool (nameB n))∧Below W.heap.size W w'):=fun W=>name_any ⟨n.toArray⟩ W
 have hCN:Hid (∀ W,Calls Tryz.prog 83 #[.string ⟨g.toArray⟩] W fun e w'=>e=.returned (.bool (nameB g))∧Below W.heap.size W w'):=fun W=>name_any ⟨g.toArray⟩ W
 have hFD:Hid (∀ W,Below W1.heap.size W1 W→Calls Tryz.prog 57 #[.agg #[.string ⟨nm.toArray⟩,.int .i64 qu,.int .i64 nx,.slice s1 sn s3,.slice g1 gn g3,.slice t1 tn t3,.slice l1 ln l3],.string ⟨p.toArray⟩] W fun e w'=>e=.returned (.int .i64 (findS sl p))∧Below W.heap.size W w'):=fun W hb =>
  find_any _ _ _ _ _ _ sl sn HSN.out s1 s3 p W B (hrw.out W hb).1.sets.2.2 (by have:=(hrw.out W hb).2.1;omega) (by have:=hz.sets;simp only at this;omega)
 obtain ⟨E,hE⟩:∃ E,E=tenE ⟨nm,qu,nx,⟨s1,sn,s3,sl⟩,⟨g1,gn,g3,gl⟩,⟨t1,tn,t3,tl⟩,⟨l1,ln,l3,ll⟩⟩:=⟨_,rfl⟩
 rw [← hE] at h2 hTC
 have HE:=Lib.hid hE
 obtain ⟨bad,hbad⟩:∃ b,b=nameB g:=⟨_,rfl⟩
 rw [← hbad] at hCN
 have HBG:=Lib.hid hbad
 obtain ⟨bp,hbp⟩:∃ b,b=pathB p:=⟨_,rfl⟩
 rw [← hbp] at hPA
 obtain ⟨bn,hbn⟩:∃ b,b=nameB n:=⟨_,rfl⟩
 rw [← hbn] at hNA
 have HBP:=Lib.hid hbp
 have HBN:=Lib.hid hbn
 have HB1:=Lib.hid hb1
 have HSZ1:=Lib.hid hsz1
 have hc:=hTC.out W1 (Below.refl _ _)
 obtain ⟨c0,c1,c2,c3,c4,c5,c6⟩:=hT.out _ (Below.refl _ _)
 clear hb1 kT hr hz hsz1 hmx hTC hE hbad hbp hbn
 go_enter Tryz.func96,Tryz.ntmps96
 go_wp2_with fail
 rw [← hW1]
 clear hW1
 refine hc.mono ?_
 clear hc c0 c1 c2 c3 c4 c5 c6
 rintro e w2 ⟨rfl,hb2⟩
 have HW2:=Lib.hid hb2
 clear hb2
 rcases h2 with rfl | rfl
 ·have hc:=hPA.out w2 HW2.out
  clear hPA
  go_wp2_with fail
  refine hc.mono ?_
  clear hc
  rintro e w3 ⟨rfl,hb3⟩
  have HW3:=Lib.hid (HW2.out.trans (hb3.mono HW2.out.size))
  clear hb3 HW2
  cases bp with
  | false =>
   go_wp2_with fail
   refine bodyPost_ret (v:=.tuple #[.int .i64 0,.int .i64 0,.int .i64 31]) (by simp [results,Tryz.results96,go_sem]) rfl ⟨?_,HB1.out.trans (HW3.out.mono (by have:=HSZ1.out;omega))⟩
   unfold holdI
   rw [if_neg (by rw [← HE.out];decide),if_pos (.inl HBP.out.symm)]
   rfl
  | true =>
   have hc:=hNA.out w3
   clear hNA
   go_wp2_with fail
   refine hc.mono ?_
   clear hc
   rintro e w4 ⟨rfl,hb4⟩
   have HW4:=Lib.hid (HW3.out.trans (hb4.mono HW3.out.size))
   clear hb4 HW3
   cases bn with
   | false =>
    go_wp2_with fail
    refine bodyPost_ret (v:=.tuple #[.int .i64 0,.int .i64 0,.int .i64 31]) (by simp [results,Tryz.results96,go_sem]) rfl ⟨?_,HB1.out.trans (HW4.out.mono (by have:=HSZ1.out;omega))⟩
    unfold holdI
    rw [if_neg (by rw [← HE.out];decide),if_pos (.inr (.inl HBN.out.symm))]
    rfl
   | true =>
    have hc:=hCN.out w4
    clear hCN
    go_wp2_with fail
    refine hc.mono ?_
    clear hc
    rintro e w4' ⟨rfl,hb4'⟩
    have HW4:=Lib.hid (HW4.out.trans (hb4'.mono HW4.out.size))
    clear hb4'
    cases bad with
    | false =>
     go_wp2_with fail
     refine bodyPost_ret (v:=.tuple #[.int .i64 0,.int .i64 0,.int .i64 31]) (by simp [results,Tryz.results96,go_sem]) rfl ⟨?_,HB1.out.trans (HW4.out.mono (by have:=HSZ1.out;omega))⟩
     unfold holdI
     rw [if_neg (by rw [← HE.out];decide),if_pos (.inr (.inr HBG.out.symm))]
     rfl
    | true =>
     have hnb:¬ (pathB p=false∨nameB n=false∨nameB g=false):=by rw [← HBP.out,← HBN.out,← HBG.out];simp
     have HNB:=Lib.hid hnb
     have hc:=hFD.out w4' HW4.out
     obtain ⟨c0,c1,c2,c3,c4,c5,c6⟩:=hT.out _ HW4.out
     clear hFD hnb
     go_wp2_with fail
     refine hc.mono ?_
     clear hc c0 c1 c2 c3 c4 c5 c6
     rintro e w5 ⟨rfl,hb5⟩
     have HW5:=Lib.hid (HW4.out.trans (hb5.mono HW4.out.size))
     clear hb5 HW4
     rcases firstI_cases (fun s:SetR=>s.path == p) sl with ⟨h1,h2⟩ | ⟨k,hkl,h1,h2⟩
     ·have h1:findS sl p=-1:=h1
      rw [h1]
      go_wp2_with fail
      refine bodyPost_ret (v:=.tuple #[.int .i64 0,.int .i64 0,.int .i64 71]) (by simp [results,Tryz.results96,go_sem]) rfl ⟨?_,HB1.out.trans (HW5.out.mono (by have:=HSZ1.out;omega))⟩
      unfold holdI
      rw [if_neg (by rw [← HE.out];decide),if_neg HNB.out]
      simp only [h2]
      rfl
     ·have h1:findS sl p=(k:Int):=h1
      rw [h1]
      have hk0:¬ (k:Int)<0:=by omega
      have hk00:(0:Int)≤(k:Int):=by omega
      have hks:k<sn:=by have:=HSN.out;omega
      have hki:(k:Int)<(sn:Int):=by omega
      obtain ⟨ad,hsa,-,q0,q1,q2,q3,q4⟩:=set_at (hrw.out w5 HW5.out).1.sets.2.2 HSN.out hks
      simp only at hsa
      subst hsa
      have hx:=(hrw.out w5 HW5.out).1.eachS _ (List.getElem_mem hkl)
      have hzx:=HZ.out.eachS _ (List.getElem_mem hkl)
      have HV:Hid (holdI ⟨nm,qu,nx,⟨some ad,sn,s3,sl⟩,⟨g1,gn,g3,gl⟩,⟨t1,tn,t3,tl⟩,⟨l1,ln,l3,ll⟩⟩ p n g=if findN (sl[k]'hkl).snaps.l n<0 then (0,0,71) else ((k:Int),findN (sl[k]'hkl).snaps.l n,0)):=by
       show _=_
       unfold holdI
       rw [if_neg (by rw [← HE.out];decide),if_neg HNB.out]
       simp only [h2,h1]
      obtain ⟨x,hxx⟩:∃ x,x=sl[k]'hkl:=⟨_,rfl⟩
      rw [← hxx] at q0 q1 q2 q3 q4 hx hzx HV
      clear hxx h1 h2
      have hc:=snapAt_any (.string ⟨x.path.toArray⟩) (.string ⟨x.org.toArray⟩) (.slice x.body.A x.body.n x.body.c) (.slice x.own.A x.own.n x.own.c) x.snaps.l x.snaps.n hx.snaps.1 x.snaps.A x.snaps.c n w5 B hx.snaps.2.2 (by have:=(hrw.out w5 HW5.out).2.1;omega) (by have:=hzx.snaps;omega)
      obtain ⟨pa,og,⟨bA,bnn,bc,bl⟩,⟨zA,zn,zc,zl⟩,⟨oA,on,oc,ol⟩⟩:=x
      simp only at q0 q1 q2 q3 q4 hc HV
      obtain ⟨c0,c1,c2,c3,c4,c5,c6⟩:=hT.out _ HW5.out
      clear hx hzx hrw
      go_wp2_with fail
      refine hc.mono ?_
      clear hc c0 c1 c2 c3 c4 c5 c6 q0 q1 q2 q3 q4
      rintro e w6 ⟨rfl,hb6⟩
      obtain ⟨fv,hfv⟩:∃ v,v=findN zl n:=⟨_,rfl⟩
      rw [← hfv] at HV ⊢
      clear hfv
      by_cases hf:fv<0
      ·have HV1:=Lib.hid (HV.out.trans (if_pos hf))
       clear HV
       go_wp2_with fail
       refine bodyPost_ret (v:=.tuple #[.int .i64 0,.int .i64 0,.int .i64 71]) (by simp [results,Tryz.results96,go_sem]) rfl ⟨?_,HB1.out.trans ((HW5.out.trans (hb6.mono HW5.out.size)).mono (by have:=HSZ1.out;omega))⟩
       rw [HV1.out]
       rfl
      ·have HV1:=Lib.hid (HV.out.trans (if_neg hf))
       clear HV
       go_wp2_with fail
       refine bodyPost_ret (v:=.tuple #[.int .i64 (k:Int),.int .i64 fv,.int .i64 0]) (by simp [results,Tryz.results96,go_sem]) rfl ⟨?_,HB1.out.trans ((HW5.out.trans (hb6.mono HW5.out.size)).mono (by have:=HSZ1.out;omega))⟩
       rw [HV1.out]
       rfl
 ·go_wp2_with fail
  refine bodyPost_ret (v:=.tuple #[.int .i64 0,.int .i64 0,.int .i64 9]) (by simp [results,Tryz.results96,go_sem]) rfl ⟨?_,HB1.out.trans (HW2.out.mono (by have:=HSZ1.out;omega))⟩
  unfold holdI
  rw [if_pos HE.out.symm]
  rfl
end Go.Proofs.YtcgclpcocdappaaGreatDoor
namespace Go.Proofs.YtcgclpcocdappaaGreatDoor
open Go.RowKit
/-- a snapshot's places and an error, by content -/
def TenC.foundH (c:TenC) (p n g:BS):Int×Int×Int :=
 if (c.foundS p n (!nameB g)).2.2=0 then c.foundS p n (!nameB g) else (0,0,(c.foundS p n (!nameB g)).2.2)
theorem foundH_con (t:TenR) (p n g:BS):holdI t p n g=t.con.foundH p n g:=by
 unfold holdI TenC.foundH TenC.foundS TenC.askS
 rw [tenE_con,show t.con.sets=t.sets.l.map SetR.con from rfl,find_map]
 have e:(t.sets.l.find? fun x:SetR=>(SetR.con x).path == p)=t.sets.l.find? fun x=>x.path == p:=rfl
 rw [e]
 have hb2:(pathB p=false∨nameB n=false∨(!nameB g)=true)↔(pathB p=false∨nameB n=false∨nameB g=false):=by simp
 simp only [hb2]
 rcases t.con.E_two with hE | hE
 ·simp only [if_neg (show ¬ t.con.E=9 by rw [hE];decide)]
  by_cases hb:pathB p=false∨nameB n=false∨nameB g=false
  ·simp only [if_pos hb]
   simp
  ·simp only [if_neg hb]
   cases t.sets.l.find? (fun x=>x.path == p) with
   | none=>simp
   | some s =>
    simp only [Option.map_some]
    rw [findN_con,findS_con]
    by_cases h:s.con.findN n<0 <;> simp [h]
 ·simp only [if_pos hE]
  simp
theorem foundH_way (t:TenR) (sl:List SetR) (hs:t.sets.l=sl) (p n g:BS) (R:Int×Int×Int) (hR:R=t.con.foundH p n g) :
  (∃ E:Int,(E=9∨E=31∨E=71)∧R=(0,0,E)∧∃ a k',t.con.foundS p n (!nameB g)=(a,k',E))∨∃ (k i:Nat) (hk:k<sl.length) (hi:i<(sl[k]'hk).snaps.l.length),R=((k:Int),(i:Int),0)∧t.con.foundS p n (!nameB g)=((k:Int),(i:Int),0)∧AtS t.con p n (!nameB g) k∧t.con.sets[k]?=some (sl[k]'hk).con∧(sl[k]'hk).con.snaps[i]?=some ((sl[k]'hk).snaps.l[i]'hi).con∧((sl[k]'hk).snaps.l[i]'hi).nm=n:=by
 rcases found_way t sl hs p n (!nameB g) _ rfl with ⟨a,k,E,h1,h2⟩ | ⟨k,i,hk,hi,h1,h2⟩
 ·refine .inl ⟨E,h1,?_,a,k,h2⟩
  rw [hR]
  unfold TenC.foundH
  rw [h2,if_neg (by rcases h1 with rfl | rfl | rfl <;> simp)]
 ·refine .inr ⟨k,i,hk,hi,?_,h1,h2⟩
  rw [hR]
  unfold TenC.foundH
  rw [h1,if_pos rfl]
/-! ### tags -/
def posT (g:BS) (l:List BS):Nat:=posF (fun x=>cmpS x g) l
def isT (g:BS) (l:List BS):Bool:=atF (fun x=>cmpS x g) l
def insT (g:BS) (l:List BS):List BS:=l.take (posT g l)++g :: l.drop (posT g l)
def delT (g:BS) (l:List BS):List BS:=l.take (posT g l)++l.drop (posT g l+1)
def SnapC.tagged (x:SnapC) (l:List BS):SnapC:=⟨x.nm,x.gd,x.body,l,x.own⟩
def SetC.retag (s:SetC) (i:Nat) (x:SnapC) (l:List BS):SetC:=⟨s.path,s.org,s.body,s.snaps.set i (x.tagged l),s.own⟩
def TenC.hold (c:TenC) (p n g:BS):Int×TenC :=
 if (c.foundS p n (!nameB g)).2.2≠0 then ((c.foundS p n (!nameB g)).2.2,c) else match c.sets[(c.foundS p n (!nameB g)).1.toNat]? with
 | none=>(71,c)
 | some s=>match s.snaps[(c.foundS p n (!nameB g)).2.1.toNat]? with
  | none=>(71,c)
  | some x=>if isT g x.tags=true then (6,c) else if x.tags.length=4 then (3,c) else (0,c.putS (c.foundS p n (!nameB g)).1.toNat (s.retag (c.foundS p n (!nameB g)).2.1.toNat x (insT g x.tags)))
def TenC.release (c:TenC) (p n g:BS):Int×TenC :=
 if (c.foundS p n (!nameB g)).2.2≠0 then ((c.foundS p n (!nameB g)).2.2,c) else match c.sets[(c.foundS p n (!nameB g)).1.toNat]? with
 | none=>(71,c)
 | some s=>match s.snaps[(c.foundS p n (!nameB g)).2.1.toNat]? with
  | none=>(71,c)
  | some x=>if isT g x.tags=false then (71,c) else (0,c.putS (c.foundS p n (!nameB g)).1.toNat (s.retag (c.foundS p n (!nameB g)).2.1.toNat x (delT g x.tags)))
section
variable {c:TenC} {p n g:BS} {a k' E:Int} {k i:Nat} {s:SetC} {y:SnapC}
theorem hold_bad (h:c.foundS p n (!nameB g)=(a,k',E)) (hE:E≠0):c.hold p n g=(E,c):=by
 unfold TenC.hold
 rw [h,if_pos hE]
theorem hold_at (h:c.foundS p n (!nameB g)=((k:Int),(i:Int),0)) (hs:c.sets[k]?=some s) (hy:s.snaps[i]?=some y):c.hold p n g=if isT g y.tags=true then (6,c) else if y.tags.length=4 then (3,c) else (0,c.putS k (s.retag i y (insT g y.tags))):=by
 unfold TenC.hold
 rw [h]
 simp only [Int.toNat_natCast,hs,hy]
 rw [if_neg (by decide)]
theorem release_bad (h:c.foundS p n (!nameB g)=(a,k',E)) (hE:E≠0):c.release p n g=(E,c):=by
 unfold TenC.release
 rw [h,if_pos hE]
theorem release_at (h:c.foundS p n (!nameB g)=((k:Int),(i:Int),0)) (hs:c.sets[k]?=some s) (hy:s.snaps[i]?=some y):c.release p n g=if isT g y.tags=false then (71,c) else (0,c.putS k (s.retag i y (delT g y.tags))):=by
 unfold TenC.release
 rw [h]
 simp only [Int.toNat_natCast,hs,hy]
 rw [if_neg (by decide)]
end
/-! ### tags that may be stand in order -/
structure TagsOk (l:List BS):Prop where
 len:l.length≤4
 each:∀ x∈l,nameB x=true
 asc:l.Pairwise fun a b=>Op.bytesLess a b=true
theorem ascF_iff (p:Option BS) (l:List BS):ascF p l=true↔(∀ x∈l,nameB x=true)∧(l.Pairwise fun a b=>Op.bytesLess a b=true)∧∀ q,p=some q→∀ x∈l,Op.bytesLess q x=true:=by
 induction l generalizing p with
 | nil=>cases p <;> simp [ascF]
 | cons y l ih =>
  rw [ascF_cons,Bool.and_eq_true,Bool.and_eq_true,ih]
  constructor
  ·rintro ⟨⟨h1,h2⟩,h3,h4,h5⟩
   refine ⟨fun x hx=>?_,List.pairwise_cons.2 ⟨fun z hz=>h5 _ rfl z hz,h4⟩,fun q hq x hx=>?_⟩
   ·rcases List.mem_cons.1 hx with rfl | hx
    ·exact h1
    ·exact h3 x hx
   ·subst hq
    rcases List.mem_cons.1 hx with rfl | hx
    ·exact h2
    ·exact bl_trans h2 (h5 _ rfl x hx)
  ·rintro ⟨h1,h2,h3⟩
   have h4:=List.pairwise_cons.1 h2
   refine ⟨⟨h1 _ List.mem_cons_self,?_⟩,fun x hx=>h1 x (List.mem_cons_of_mem _ hx),h4.2,fun q hq x hx=>by cases hq;exact h4.1 x hx⟩
   cases p with
   | none=>rfl
   | some q=>exact h3 q rfl y List.mem_cons_self
theorem tagsB_iff (l:List BS):tagsB l=true↔TagsOk l:=by
 unfold tagsB
 rw [Bool.and_eq_true,decide_eq_true_eq,ascF_iff]
 exact ⟨fun h=>⟨h.1,h.2.1,h.2.2.1⟩,fun h=>⟨h.len,h.each,h.asc,fun q hq=>by cases hq⟩⟩
theorem TagsOk.sign {l:List BS} (h:TagsOk l) (g:BS):SignAsc (fun x=>cmpS x g) l:=by
 intro i j x y hij hx hy hc
 obtain ⟨hi,rfl⟩:=List.getElem?_eq_some_iff.1 hx
 obtain ⟨hj,rfl⟩:=List.getElem?_eq_some_iff.1 hy
 have h1:=List.pairwise_iff_getElem.1 h.asc i j hi hj hij
 exact (cmpS_neg _ _).2 (bl_trans h1 ((cmpS_neg _ _).1 hc))
/-- the tags ahead of one, and those behind -/
theorem tags_split (g:BS) (l:List BS):∃ A B,l=A++B∧posT g l=A.length∧(∀ x∈A,Op.bytesLess x g=true)∧(∀ b B',B=b :: B'→Op.bytesLess b g=false)∧isT g l=B.head?.any fun b=>cmpS b g == 0:=by
 refine ⟨l.takeWhile fun x=>decide (cmpS x g<0),l.dropWhile fun x=>decide (cmpS x g<0),List.takeWhile_append_dropWhile.symm,rfl,fun x hx=>?_,fun b B' h=>?_,?_⟩
 ·have:=List.all_eq_true.1 List.all_takeWhile x hx
  exact (cmpS_neg _ _).1 (by simpa using this)
 ·have h1:¬ (decide (cmpS b g<0))=true:=by
   have h2:=List.head_dropWhile_not (fun x=>decide (cmpS x g<0)) (l:=l) (by rw [h];exact List.cons_ne_nil _ _)
   simp only [h,List.head_cons] at h2
   rw [h2]
   decide
  cases hb:Op.bytesLess b g with
  | false=>rfl
  | true=>exact absurd (by simpa using (cmpS_neg b g).2 hb) h1
 ·unfold isT atF posF
  have h1:l[(l.takeWhile fun x=>decide (cmpS x g<0)).length]?=(l.dropWhile fun x=>decide (cmpS x g<0)).head?:=by
   have h2:l[(l.takeWhile fun x=>decide (cmpS x g<0)).length]?=(l.takeWhile (fun x=>decide (cmpS x g<0))++l.dropWhile (fun x=>decide (cmpS x g<0)))[(l.takeWhile fun x=>decide (cmpS x g<0)).length]?:=by rw [List.takeWhile_append_dropWhile]
   rw [h2,List.getElem?_append_right (Nat.le_refl _),Nat.sub_self,List.head?_eq_getElem?]
  rw [h1]
theorem posT_mid (g:BS) (A B:List BS) (h:∀ x∈A,Op.bytesLess x g=true):posT g (A++g :: B)=A.length:=by
 refine posF_eq _ _ _ (by simp) (fun k x hk hx=>?_) (fun x hx=>?_)
 ·rw [List.getElem?_append_left hk] at hx
  exact (cmpS_neg _ _).2 (h x (List.mem_of_getElem? hx))
 ·rw [List.getElem?_append_right (Nat.le_refl _),Nat.sub_self] at hx
  cases hx
  exact Int.le_of_eq ((cmpS_zero g g).2 rfl).symm
theorem isT_mid (g:BS) (A B:List BS) (h:∀ x∈A,Op.bytesLess x g=true):isT g (A++g :: B)=true:=by
 show ((A++g :: B)[posT g (A++g :: B)]?).any _=true
 rw [posT_mid g A B h,List.getElem?_append_right (Nat.le_refl _),Nat.sub_self]
 show (cmpS g g == 0)=true
 rw [(cmpS_zero g g).2 rfl]
 rfl
theorem insT_isT (g:BS) (l:List BS):isT g (insT g l)=true:=by
 obtain ⟨A,B,e,h1,h2,-,-⟩:=tags_split g l
 unfold insT
 rw [h1,e,List.take_left' rfl,List.drop_left' rfl]
 exact isT_mid g A B h2
theorem delT_insT (g:BS) (l:List BS):delT g (insT g l)=l:=by
 obtain ⟨A,B,e,h1,h2,-,-⟩:=tags_split g l
 unfold insT delT
 rw [h1]
 rw [e,List.take_left' rfl,List.drop_left' rfl,posT_mid g A B h2,List.take_left' rfl]
 congr 1
 rw [← List.drop_drop,List.drop_left' rfl]
 rfl
theorem insT_len (g:BS) (l:List BS):(insT g l).length=l.length+1:=by
 have:=posF_le (fun x=>cmpS x g) l
 unfold insT posT
 rw [List.length_append,List.length_take,List.length_cons,List.length_drop]
 omega
theorem insT_ok {g:BS} {l:List BS} (h:TagsOk l) (hg:nameB g=true) (hl:l.length≠4) (hi:isT g l=false):TagsOk (insT g l):=by
 obtain ⟨A,B,e,h1,h2,h3,h4⟩:=tags_split g l
 have hlen:=insT_len g l
 have hr:insT g l=A++g :: B:=by
  unfold insT
  rw [h1,e,List.take_left' rfl,List.drop_left' rfl]
 rw [hr] at hlen ⊢
 have hasc:=h.asc
 rw [e,List.pairwise_append] at hasc
 have hgB:∀ b∈B,Op.bytesLess g b=true:=by
  cases hB:B with
  | nil=>intro b hb;cases hb
  | cons b0 B' =>
   have h5:=h3 b0 B' hB
   have h6:cmpS b0 g≠0:=by
    intro h7
    rw [h4,hB] at hi
    simp [h7] at hi
   have h8:Op.bytesLess g b0=true:=bl_tri _ _ h5 (fun h9=>h6 ((cmpS_zero _ _).2 h9))
   intro b hb
   rcases List.mem_cons.1 hb with rfl | hb
   ·exact h8
   ·have:=hasc.2.1
    rw [hB] at this
    exact bl_trans h8 ((List.pairwise_cons.1 this).1 b hb)
 refine ⟨by have:=h.len;omega,fun x hx=>?_,?_⟩
 ·rcases List.mem_append.1 hx with hx | hx
  ·exact h.each x (by rw [e];exact List.mem_append_left _ hx)
  ·rcases List.mem_cons.1 hx with rfl | hx
   ·exact hg
   ·exact h.each x (by rw [e];exact List.mem_append_right _ hx)
 ·rw [List.pairwise_append]
  refine ⟨hasc.1,List.pairwise_cons.2 ⟨hgB,hasc.2.1⟩,fun a ha b hb=>?_⟩
  rcases List.mem_cons.1 hb with rfl | hb
  ·exact h2 a ha
  ·exact hasc.2.2 a ha b hb
end Go.Proofs.YtcgclpcocdappaaGreatDoor
namespace Go.Proofs.YtcgclpcocdappaaGreatDoor
open Go.RowKit
theorem Tryz.delSet_size:(Tryz.prog.info? 42).map (·.size)=some 5:=by kernel_rfl
theorem Tryz.delSet_zero (w:World):(zeroValue 42).run Tryz.prog w=.ok (.agg #[.string ByteArray.empty,.string ByteArray.empty,.slice none 0 0,.slice none 0 0,.slice none 0 0]) w:=by kernel_rfl
theorem delSet_splice (cur:List Value) (n i c0:Nat) (xs:List Value) (hx:cur.take (n*5)=xs) (hi:i<n) (hn:n≤c0) (hl:cur.length=c0*5) (zs:List Value) (hz:zs.length=1*5) :
  (splice (splice cur (i*5) (xs.drop ((i+1)*5))) ((n-1)*5) zs).take ((n-1)*5)=xs.take (i*5)++xs.drop ((i+1)*5)∧(splice (splice cur (i*5) (xs.drop ((i+1)*5))) ((n-1)*5) zs).length=c0*5:=by
 have hxl:xs.length=n*5:=by rw [← hx,List.length_take];omega
 have hdl:(xs.drop ((i+1)*5)).length=(n-1-i)*5:=by rw [List.length_drop,hxl];omega
 have h1:(splice cur (i*5) (xs.drop ((i+1)*5))).length=c0*5:=by
  unfold splice
  simp only [List.length_append,List.length_take,List.length_drop] at hdl ⊢
  omega
 refine ⟨?_,?_⟩
 ·have e1:(splice (splice cur (i*5) (xs.drop ((i+1)*5))) ((n-1)*5) zs).take ((n-1)*5)=(splice cur (i*5) (xs.drop ((i+1)*5))).take ((n-1)*5):=by
   show List.take _ (List.take _ (splice cur (i*5) (xs.drop ((i+1)*5)))++(zs++_))=_
   rw [List.take_append_of_le_length (by rw [List.length_take,h1];omega),List.take_take,Nat.min_self]
  rw [e1]
  have hc:cur.take (i*5)=xs.take (i*5):=by rw [← hx,List.take_take,Nat.min_eq_left (by omega)]
  have hL:(xs.take (i*5)++xs.drop ((i+1)*5)).length=(n-1)*5:=by rw [List.length_append,List.length_take,hdl,hxl];omega
  show List.take _ (cur.take (i*5)++(xs.drop ((i+1)*5)++_))=_
  rw [hc,← List.append_assoc,List.take_append_of_le_length (by rw [hL];exact Nat.le_refl _)]
  exact List.take_of_length_le (by rw [hL];exact Nat.le_refl _)
 ·show (List.take _ (splice cur (i*5) (xs.drop ((i+1)*5)))++(zs++List.drop _ _)).length=_
  rw [List.length_append,List.length_append,List.length_take,List.length_drop,h1,hz]
  omega
set_option maxRecDepth 100000 in
set_option maxHeartbeats 1000000 in
theorem delSet_any (xs:List Value) (h1:∀ u∈xs,u.oneCell'=true) (n i c0 base:Nat) (A0:Option Addr) (w:World) (hi:i<n) (hn:n≤5000000000000) (hown:w.ownsRow base 42 5 (.slice A0 n c0) n xs) :
  Calls Tryz.prog 105 #[.slice A0 n c0,.int .i64 i,.int .i64 ((i:Int)+1)] w fun e w'=>∃ v,e=.returned v∧w'.ownsRow base 42 5 v (n-1) (xs.take (i*5)++xs.drop ((i+1)*5))∧w.grownBy w' (Value.slice A0 n c0).ownBlock:=by
 rcases hown.2 with ⟨_,h0⟩ | ⟨g,cap,cur,hs,hbg,hh,hnc,hcm,hsz,hx⟩
 ·omega
 injection hs with e1 _ e2
 subst e1 e2
 have hh':w.heap[g]?=some (.cells cur.toList.toArray 42 (0,0)):=by simpa using hh
 have hcl:cur.toList.length=c0*5:=by simpa using hsz
 obtain ⟨cl,hcl0⟩:∃ cl,cl=cur.toList:=⟨_,rfl⟩
 rw [← hcl0] at hh' hcl hx
 have hxl:xs.length=n*5:=hown.1
 have hdl:(xs.drop ((i+1)*5)).length=(n-1-i)*5:=by rw [List.length_drop,hxl];omega
 have hcells:∀ (w':World),w'.heap[g]?=w.heap[g]?→∀ j v,(xs.drop ((i+1)*5))[j]?=some v→w'.cell? ((⟨g,(i+1)*5,none⟩:Addr).add j)=some v:=by
  intro w' hw j v hv
  have hv2:cl[(i+1)*5+j]?=some v:=by
   rw [List.getElem?_drop,← hx] at hv
   obtain ⟨hlt,_⟩:=List.getElem?_eq_some_iff.1 hv
   rw [List.length_take] at hlt
   rwa [List.getElem?_take_of_lt (by omega)] at hv
  have had:(⟨g,(i+1)*5,none⟩:Addr).add j=⟨g,(i+1)*5+j,none⟩:=by unfold Addr.add;split <;> simp_all
  rw [had,cell_of_row w' g _ _ _ _ (hw.trans hh')]
  simpa using hv2
 have hni:(i:Int)+1≤(n:Int):=by omega
 have hin:(i:Int)≤(n:Int):=by omega
 have hnci:(n:Int)≤(c0:Int):=by omega
 have hcmi:c0≤9223372036854775807:=by unfold maxLen at hcm;omega
 have hne:(((i:Int)) == (i:Int)+1)=false:=by rw [beq_eq_false_iff_ne];omega
 have ht1:((i:Int)+1).toNat=i+1:=by omega
 have hsub:n-(i+1)=n-1-i:=by omega
 have hi1c:(i:Int)+1≤(c0:Int):=by omega
 have hic:(i:Int)≤(c0:Int):=by omega
 have hi0:(0:Int)≤(i:Int)+1:=by omega
 have HC:=Lib.hid hcells
 have HH:=Lib.hid hh'
 have HDL:=Lib.hid hdl
 have HXL:=Lib.hid hxl
 have HCL:=Lib.hid hcl
 have HX:=Lib.hid hx
 have H1:=Lib.hid (fun u hu=>h1 u (List.mem_of_mem_drop (i:=(i+1)*5) hu))
 have HSP:=Lib.hid (fun zs hz=>delSet_splice cl n i c0 xs hx hi hnc hcl zs hz)
 have hgl:g<w.heap.size:=heap_lt hh'
 clear hcells hh' hdl hxl hcl hx h1 hown hh hsz hcl0
 go_enter Tryz.func105,Tryz.ntmps105
 go_wp2_with fail
 by_cases hlast:c0=i+1
 ·have hnl:n=i+1:=by omega
  subst hlast
  subst hnl
  have hic2:(i:Int)≤(i:Int)+1:=by omega
  have hnil:xs.drop ((i+1)*5)=[]:=List.drop_eq_nil_of_le (by rw [HXL.out];exact Nat.le_refl _)
  have HNIL:=Lib.hid hnil
  clear hnil
  go_region_law (refine step_appendK rfl _ _ 22 rfl 42 5 Tryz.underlying22 Tryz.delSet_size g i (i+1) ⟨g,0,none⟩ 0 0 (by simp [Act.eval,Act.put]) (by simp [Act.eval,Act.put]) cl 42 HH.out [] (by simp) (by simp) (by rw [HCL.out];simp;omega) (by omega) (by simp) ?_;intro w1 hg1 hgr1)
  have hgr:=grown_drew hgr1
  have HGR:=Lib.hid hgr
  have HG1:=hg1
  have hz1:∀ u∈(.agg #[.string ByteArray.empty,.string ByteArray.empty,.slice none 0 0,.slice none 0 0,.slice none 0 0]:Value).cells.toList,u.oneCell'=true:=fun u hu=>List.all_eq_true.1 (show ((.agg #[.string ByteArray.empty,.string ByteArray.empty,.slice none 0 0,.slice none 0 0,.slice none 0 0]:Value).cells.toList.all (·.oneCell'))=true from rfl) u hu
  clear hg1 hgr1 hgr
  simp only [Act.put,List.setIfInBounds_toArray]
  go_wp2_with (with_reducible refine wpList_clearK rfl (.tmp 31) 22 rfl 42 (.agg #[.string ByteArray.empty,.string ByteArray.empty,.slice none 0 0,.slice none 0 0,.slice none 0 0]) Tryz.underlying22 Tryz.delSet_zero hz1 g (i*5) 1 1 (by simp [Act.eval]) (splice cl (i*5) ([])) 42 HG1.out (by simp [splice,Value.cells,HCL.out];omega) ?_;intro w2 zs hzs hg2 hgr2)
  have hzz:zs.length=1*5:=by rw [hzs];rfl
  have hsp:=HSP.out zs hzz
  rw [HNIL.out,Nat.add_sub_cancel] at hsp
  have hrow:=own_of_row (base:=base) hg2.out hbg (Nat.le_succ i) hcm hsp.2 hsp.1
  have hgr:=HGR.out.trans hgr2
  have HROW:=Lib.hid hrow
  clear hrow hsp hg2 hgr2 hzs hzz
  go_ret
  exact ⟨_,rfl,by rw [HNIL.out];exact HROW.out,hgr⟩
 ·have hlt2:i+1<c0:=by omega
  obtain ⟨p,hp⟩:∃ p,p=n-1:=⟨_,rfl⟩
  have hip:i+(n-1-i)=p:=by omega
  have hnp1:n-p=1:=by omega
  have hpn:(p:Int)≤(n:Int):=by omega
  have hpc:(p:Int)≤(c0:Int):=by omega
  have hcp:¬ c0=p:=by omega
  have HIP:=Lib.hid hip
  have HP:=Lib.hid hp
  clear hip hp
  go_region_law (refine step_appendK rfl _ _ 22 rfl 42 5 Tryz.underlying22 Tryz.delSet_size g i c0 ⟨g,(i+1)*5,none⟩ (n-1-i) (c0-(i+1)) (by simp [Act.eval,Act.put]) (by simp [Act.eval,Act.put]) cl 42 HH.out (xs.drop ((i+1)*5)) HDL.out (HC.out _ rfl) (by rw [HDL.out,HCL.out];omega) (by omega) H1.out ?_;intro w1 hg1 hgr1)
  have hgr:=grown_drew hgr1
  have HGR:=Lib.hid hgr
  have HG1:=hg1
  have hz1:∀ u∈(.agg #[.string ByteArray.empty,.string ByteArray.empty,.slice none 0 0,.slice none 0 0,.slice none 0 0]:Value).cells.toList,u.oneCell'=true:=fun u hu=>List.all_eq_true.1 (show ((.agg #[.string ByteArray.empty,.string ByteArray.empty,.slice none 0 0,.slice none 0 0,.slice none 0 0]:Value).cells.toList.all (·.oneCell'))=true from rfl) u hu
  clear hg1 hgr1 hgr
  simp only [Act.put,List.setIfInBounds_toArray]
  rw [HIP.out]
  go_wp2_with (with_reducible refine wpList_clearK rfl (.tmp 31) 22 rfl 42 (.agg #[.string ByteArray.empty,.string ByteArray.empty,.slice none 0 0,.slice none 0 0,.slice none 0 0]) Tryz.underlying22 Tryz.delSet_zero hz1 g (p*5) 1 (c0-p) (by simp [Act.eval]) (splice cl (i*5) (xs.drop ((i+1)*5))) 42 HG1.out (by have h2:=(HSP.out (.agg #[.string ByteArray.empty,.string ByteArray.empty,.slice none 0 0,.slice none 0 0,.slice none 0 0]:Value).cells.toList rfl).2;have h3:=HDL.out;have h4:=HCL.out;have h5:=HP.out;unfold splice;simp only [List.length_append,List.length_take,List.length_drop] at h3 ⊢;simp [Value.cells];omega) ?_;intro w2 zs hzs hg2 hgr2)
  have hzz:zs.length=1*5:=by rw [hzs];rfl
  have hsp:=HSP.out zs hzz
  rw [← HP.out] at hsp
  have hrow:=own_of_row (base:=base) hg2.out hbg (by have:=HP.out;omega) hcm hsp.2 hsp.1
  have hgr:=HGR.out.trans hgr2
  have HROW:=Lib.hid hrow
  clear hrow hsp hg2 hgr2 hzs hzz
  go_ret
  exact ⟨_,rfl,by rw [← HP.out];exact HROW.out,hgr⟩
end Go.Proofs.YtcgclpcocdappaaGreatDoor
namespace Go.Proofs.YtcgclpcocdappaaGreatDoor
open Go.RowKit
/-! ### what stands under what -/
def kidsL (l:List SetR) (p:BS):List BS:=(l.filter fun s=>parB s.path == some p).map (·.path)
/-! ### what may be -/
end Go.Proofs.YtcgclpcocdappaaGreatDoor
namespace Go.Proofs.YtcgclpcocdappaaGreatDoor
open Go.RowKit
theorem kidsL_snoc (l:List SetR) (x:SetR) (p:BS):kidsL (l++[x]) p=kidsL l p++(if parB x.path=some p then [x.path] else []):=by
 unfold kidsL
 rw [List.filter_append,List.map_append]
 congr 1
 by_cases h:parB x.path=some p
 ·rw [if_pos h,List.filter_cons_of_pos (by simpa using h)];rfl
 ·rw [if_neg h,List.filter_cons_of_neg (by simpa using h)];rfl
set_option maxRecDepth 100000 in
set_option maxHeartbeats 4000000 in
theorem kids_any (v0 v1 v2 v4 v5 v6:Value) (l:List SetR) (n:Nat) (hnl:n=l.length) (A:Option Addr) (c:Nat) (p:BS) (w:World) (B:Nat) (hr:Reads w B 5 A n (cellsK encSet l)) (hB:B≤w.heap.size) (hn:n≤1000000000000) (hv:∀ y∈l,y.path.length≤4000000000) (hmx:HasMax w) :
  Calls Tryz.prog 103 #[.agg #[v0,v1,v2,.slice A n c,v4,v5,v6],.string ⟨p.toArray⟩] w fun e w'=>∃ A1 c1,e=.returned (.slice A1 (kidsL l p).length c1)∧w'.ownsRow w.heap.size 9 1 (.slice A1 (kidsL l p).length c1) (kidsL l p).length (scells (kidsL l p))∧Below w.heap.size w w':=by
 obtain ⟨i0,hi0,hz0,hz1,hz2⟩:=info_parts Tryz.infoS
 have HN:=Lib.hid hnl
 have hb1:=(Below.refl w.heap.size w).alloc (Nat.le_refl _) (.cells #[v0,v1,v2,.slice A n c,v4,v5,v6] 27)
 have kT:=Blk.new w 27 #[v0,v1,v2,.slice A n c,v4,v5,v6]
 obtain ⟨W1,hW1⟩:∃ W,W=w.alloc (.cells #[v0,v1,v2,.slice A n c,v4,v5,v6] 27):=⟨_,rfl⟩
 have hsz1:W1.heap.size=w.heap.size+1:=by rw [hW1];simp
 rw [← hW1] at hb1 kT
 have hT:Hid (∀ W',Below W1.heap.size W1 W'→W'.cell? ⟨w.heap.size,3,none⟩=some (.slice A n c)):=fun W' hB'=>(kT.below hB' (by omega)).cell 3
 have hR:=Lib.hid (fun (W':World) (hB':Below W1.heap.size W1 W')=>(⟨hr.below ((hb1.trans (hB'.mono (by omega))).mono hB),hmx.below (hb1.trans (hB'.mono (by omega)))⟩:Reads W' B 5 A n (cellsK encSet l)∧HasMax W'))
 have HB1:=Lib.hid hb1
 have HSZ1:=Lib.hid hsz1
 have HVS:=Lib.hid hv
 obtain ⟨KL,hKL⟩:∃ K,K=kidsL l p:=⟨_,rfl⟩
 rw [← hKL]
 have HKL:=Lib.hid hKL
 clear hnl hr kT hsz1 hv hKL
 go_enter Tryz.func103,Tryz.ntmps103
 go_wp2_with fail
 rw [← hW1]
 clear hW1
 go_loopw [5,13] (fun a j wr=>∃ (k m:Nat) (A1:Option Addr) (c1:Nat),k≤n∧m≤k∧a=.slice A1 m c1∧j=.int .i64 (k:Int)∧Hid (m=(kidsL (l.take k) p).length)∧wr.ownsRow W1.heap.size 9 1 (.slice A1 m c1) m (scells (kidsL (l.take k) p))∧Below W1.heap.size W1 wr) (fun _ j _=>n-(intOf j).toNat)
 case atStart=>exact ⟨0,0,none,0,Nat.zero_le _,Nat.zero_le _,rfl,rfl,rfl,⟨rfl,.inl ⟨rfl,rfl⟩⟩,Below.refl _ _⟩
 case round =>
  clear hb1
  obtain ⟨k,m,A1,c1,hk,hmk,rfl,rfl,hml,hown,hbw⟩:=hrel
  by_cases hlt:k<n
  ·obtain ⟨hrw,hmw⟩:=hR.out _ hbw
   obtain ⟨ad,rfl,-,c0,c1',c2,c3,c4⟩:=set_at hrw HN.out hlt
   have hki:(k:Int)<(n:Int):=by omega
   have hkl:k<l.length:=by have:=HN.out;omega
   obtain ⟨x,hx⟩:∃ x,x=l[k]'hkl:=⟨_,rfl⟩
   have hxl:=HVS.out x (by rw [hx];exact List.getElem_mem _)
   rw [← hx] at c0 c1' c2 c3 c4
   have htk:=List.take_succ_eq_append_getElem hkl
   rw [← hx] at htk
   have HNT:Hid (kidsL (l.take (k+1)) p=kidsL (l.take k) p++(if parB x.path=some p then [x.path] else [])):=by
    show _=_
    rw [htk,kidsL_snoc]
   obtain ⟨W0,hW0⟩:∃ W0,W0=wr.alloc (.cells #[.string ⟨x.path.toArray⟩,.string ⟨x.org.toArray⟩,.slice x.body.A x.body.n x.body.c,.slice x.snaps.A x.snaps.n x.snaps.c,.slice x.own.A x.own.n x.own.c] 42):=⟨_,rfl⟩
   have hblk:Blk W0 wr.heap.size 42 #[.string ⟨x.path.toArray⟩,.string ⟨x.org.toArray⟩,.slice x.body.A x.body.n x.body.c,.slice x.snaps.A x.snaps.n x.snaps.c,.slice x.own.A x.own.n x.own.c]:=by rw [hW0];exact Blk.new wr _ _
   have hszW:W0.heap.size=wr.heap.size+1:=by rw [hW0];show (wr.heap.push _).size=_;rw [Array.size_push]
   have hwr:=hbw.size
   have hsz1:=HSZ1.out
   have hb1W:Below W1.heap.size W1 W0:=by rw [hW0];exact hbw.alloc hbw.size _
   have HB2:=Lib.hid hb1W
   have HSZ:=Lib.hid hszW
   have hpn:=parent_any ⟨x.path.toArray⟩ W0 (by show x.path.length≤_;exact hxl) (hR.out _ hb1W).2
   rw [show (ByteArray.mk x.path.toArray).data.toList=x.path from rfl] at hpn
   have hown0:Hid (∀ W,Below W0.heap.size W0 W→W.ownsRow W1.heap.size 9 1 (.slice A1 m c1) m (scells (kidsL (l.take k) p))∧W.cell? ⟨wr.heap.size,0,none⟩=some (.string ⟨x.path.toArray⟩)):=by
    show ∀ W,_→_
    intro W hb
    refine ⟨own_below (w:=W0) ?_ hb,(hblk.below hb (by omega)).cell 0⟩
    rw [hW0]
    exact hown.alloc _
   obtain ⟨xp,xo,⟨b1,b2,b3,bl⟩,⟨s1,s2,s3,sl⟩,⟨o1,o2,o3,ol⟩⟩:=x
   simp only at c0 c1' c2 c3 c4 HNT hW0 hpn hown0
   clear hx htk hxl hblk hrw hown hR hT hmw
   go_wp2_with fail
   rw [← hW0]
   clear hW0 hszW c0 c1' c2 c3 c4
   refine hpn.mono ?_
   clear hpn
   rintro e w4 ⟨hb4,⟨hpar,rfl⟩ | ⟨hne,hpb,rfl⟩⟩
   ·have HNT2:Hid (kidsL (l.take (k+1)) p=kidsL (l.take k) p):=by
     show _=_
     rw [HNT.out]
     unfold parB
     rw [if_pos hpar]
     simp
    have ho4:=(hown0.out _ hb4).1
    have hbf:=HB2.out.trans (hb4.mono (by have:=HSZ.out;omega))
    clear hpar hown0 hb4
    go_wp2_with fail
    go_roundw
    case rel=>exact ⟨k+1,m,A1,c1,by omega,by omega,rfl,by go_num,by rw [HNT2.out];exact hml.out,by rw [HNT2.out];exact ho4,hbf⟩
    case measure=>simp [intOf];omega
   ·have hpe:parB xp=some (upL xp):=by
     unfold parB
     rw [if_neg (by rw [hpb];simp [hne])]
    rw [hpe] at HNT
    obtain ⟨ho4,q0⟩:=hown0.out _ hb4
    have hbf:=HB2.out.trans (hb4.mono (by have:=HSZ.out;omega))
    have hbF:=HB1.out.trans (hbf.mono (by omega))
    have hbase:=hbf.size
    obtain ⟨up,hup⟩:∃ u,u=upL xp:=⟨_,rfl⟩
    rw [← hup] at HNT ⊢
    clear hne hpb hpe hup hown0 hb4
    by_cases hupp:up=p
    ·subst hupp
     have HNT2:Hid (kidsL (l.take (k+1)) up=kidsL (l.take k) up++[xp]):=by
      show _=_
      rw [HNT.out,if_pos rfl]
     clear HNT
     go_wp2_with (at_builtin;(refine wpList_push w4 rfl (.tmp 29) (.tmp 32) 48 rfl W1.heap.size 9 i0 (.string ByteArray.empty) 1 16 Tryz.underlying48 hi0 hz0 hz1 hz2 rfl (by omega) (.slice A1 m c1) m _ rfl ho4 1 #[.string ⟨xp.toArray⟩] 9 rfl rfl (by simp [Value.oneCell']) (by unfold maxLen;omega) (by omega) hbase ?_);intro v' w' ho' hb' hg')
     obtain ⟨A2,c2,rfl,_,_,_⟩:=own_form ho'
     have hb'2:=hbf.trans hb'
     go_wp2_with fail
     go_roundw
     case rel=>exact ⟨k+1,m+1,A2,c2,by omega,by omega,rfl,by go_num,by show _=_;rw [HNT2.out,List.length_append,← hml.out];rfl,by rw [HNT2.out,scells_append];exact ho',hb'2⟩
     case measure=>simp [intOf];omega
    ·have hne:(up == p)=false:=by simpa using hupp
     have HNT2:Hid (kidsL (l.take (k+1)) p=kidsL (l.take k) p):=by
      show _=_
      rw [HNT.out,if_neg (by intro e;exact hupp (Option.some.inj e))]
      simp
     clear hupp
     go_wp2_with fail
     go_roundw
     case rel=>exact ⟨k+1,m,A1,c1,by omega,by omega,rfl,by go_num,by rw [HNT2.out];exact hml.out,by rw [HNT2.out];exact ho4,hbf⟩
     case measure=>simp [intOf];omega
  ·have hkn:k=n:=by omega
   have hall:l.take k=l:=List.take_of_length_le (by rw [hkn,HN.out];exact Nat.le_refl _)
   rw [hall,← HKL.out] at hown
   have HM:Hid (m=KL.length):=by show _=_;rw [hml.out,hall,HKL.out]
   have HO:=Lib.hid (own_mono hown (show w.heap.size≤W1.heap.size by have:=HSZ1.out;omega))
   have HBF:=Lib.hid (HB1.out.trans (hbw.mono (by have:=HSZ1.out;omega)))
   clear hkn hall hml hown hbw
   go_wp2_with fail
   go_ret
   refine ⟨A1,c1,by rw [← HM.out];rfl,by rw [← HM.out];exact HO.out,HBF.out⟩
end Go.Proofs.YtcgclpcocdappaaGreatDoor
