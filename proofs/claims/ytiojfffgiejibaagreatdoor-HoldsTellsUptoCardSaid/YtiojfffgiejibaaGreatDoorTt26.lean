/-
  snaps.asked, snaps.found: a set's place, and its snapshot's. tree.Clones, by its contract. snaps.found, snaps.guid: by their contracts.
-/
import Derived.Test.YtiojfffgiejibaaGreatDoorTtM1
import Derived.WalkKit
import Derived.WalkSpells
import Derived.Below
import Derived.Laws.OwnMore
import Derived.Deep.AppendLies
import Derived.Deep.Draws
import Derived.Laws.Rows
import Derived.Maps.AppendAt
import Derived.RegionTactic
import Derived.OwnWalk
import Derived.Deep.QuietTactic
import Derived.BigQuiet
import Derived.Lib.Hide
import Derived.Laws.CopyOwn
import Derived.IntWalk
import Derived.Test.YtiojfffgiejibaaGreatDoorRows
import Derived.Handy
import Derived.Deep.Quiet
import Derived.ProofKit
import Derived.OpenShut
import Derived.ShutString
import Derived.ChangeOld
import Derived.Carry
import Derived.SizedLaws
import Derived.JoinedCond
import Derived.Deep.CondSized
import Derived.Deep.Slices
import Derived.Deep.Fields
import Derived.Lib.SmallJoins
import Derived.Orders
import Derived.Lib.SplitLaws
import Derived.Lib.LastIndexByte
import Derived.Lib.Strings
import Derived.Sort.Walk0
import Derived.Sort.KeysCollected
import Derived.Deep.MidRow
import Derived.Shelf.Strings.Search1
import Derived.Shelf.Strings.Search2
import Derived.Shelf.Strings.Search3
import Derived.Shelf.Strings.Cut
import Derived.Shelf.Strings.Count
import Derived.Shelf.LaysM
import Derived.Shelf.Strings.Shaped
import Derived.Shelf.Strings.LastIndex
import Derived.Shelf.Strings.Split
import Derived.Shelf.Strings.SplitShaped
import Derived.Shelf.Unicode.Decode
import Derived.Shelf.Strings.RuneCount
import Derived.Shelf.Strings.Explode
import Derived.Shelf.Unicode.DecodeSlow
import Derived.Shelf.Slices.Turned
import Derived.Test.YtiojfffgiejibaaGreatDoorProg
import Derived.Laws.BytesString
import Derived.Laws.IdiomStrings
import Derived.Lib.ConvBytes
import Derived.Deep.DeepCutAuto
import Derived.Great.BuildSlice
import Derived.Test.YtiojfffgiejibaaGreatDoorT0
import Derived.Test.YtiojfffgiejibaaGreatDoorTt1
import Derived.Test.YtiojfffgiejibaaGreatDoorTt2
import Derived.Test.YtiojfffgiejibaaGreatDoorTt3
import Derived.Test.YtiojfffgiejibaaGreatDoorTt5
import Derived.Test.YtiojfffgiejibaaGreatDoorTt7
import Derived.Test.YtiojfffgiejibaaGreatDoorTt8
import Derived.Test.YtiojfffgiejibaaGreatDoorTt9
import Derived.Test.YtiojfffgiejibaaGreatDoorTt10
import Derived.Test.YtiojfffgiejibaaGreatDoorTt12
import Derived.Test.YtiojfffgiejibaaGreatDoorTt16
import Derived.Test.YtiojfffgiejibaaGreatDoorTt19
import Derived.Test.YtiojfffgiejibaaGreatDoorTt20
import Derived.Test.YtiojfffgiejibaaGreatDoorTt21
import Derived.Test.YtiojfffgiejibaaGreatDoorTt23
namespace Go.Proofs.YtiojfffgiejibaaGreatDoor
open Go.RowKit
set_option maxRecDepth 100000 in
set_option maxHeartbeats 1000000 in
theorem indexF_any (l:List Bool) (x:Bool) (n:Nat) (hnl:n=l.length) (A:Option Addr) (c:Nat) (w:World) (B:Nat) (hr:Reads w B 1 A n (cellsK (fun b:Bool=>[Value.bool b]) l)) (hn:n≤5000000000000) :
  Calls Tryz.prog 157 #[.slice A n c,.bool x] w fun e w'=>e=.returned (.int .i64 (firstI (fun y=>y == x) l))∧w'=w:=by
 have HN:=Lib.hid hnl
 clear hnl
 go_enter Tryz.func157,Tryz.ntmps157
 go_wp2_with fail
 go_loopw [8] (fun j wr=>∃ k:Nat,k≤n∧j=.int .i64 (k:Int)∧Hid (∀ y∈l.take k,(y == x)=false)∧wr=w) (fun j _=>n-(intOf j).toNat)
 case atStart=>exact ⟨0,Nat.zero_le _,rfl,(show ∀ y∈_,_ by simp),rfl⟩
 case round =>
  obtain ⟨k,hk,rfl,hno,hww⟩:=hrel
  have hww:=hww.symm
  subst hww
  by_cases hlt:k<n
  ·have hki:(k:Int)<(n:Int):=tZ1
   have hkl:k<l.length:=tZ9
   obtain ⟨ad,rfl,_,hel⟩:=Reads.elAll (enc:=fun b:Bool=>[Value.bool b]) (k:=1) (fun _=>rfl) hr HN.out hlt
   have hcell:=hel 0 _ rfl
   rw [Nat.mul_one] at hcell
   have hcell:w.cell? (ad.add k)=some (.bool (l[k]'hkl)):=hcell
   clear hel
   obtain ⟨y,hy⟩:∃ y,y=l[k]'hkl:=⟨_,rfl⟩
   rw [← hy] at hcell
   have htk:=List.take_succ_eq_append_getElem hkl
   rw [← hy] at htk
   have HTK:=Lib.hid htk
   have HX:=Lib.hid (show l[k]?=some y by rw [hy];exact List.getElem?_eq_getElem _)
   exact mZ36
  ·have hkn:k=n:=tZ1
   have HF:Hid (firstI (fun y=>y == x) l=-1):=by
    show _=_
    exact mZ34
   clear hr hkn
   go_wp2_with fail
   go_ret
   exact ⟨by rw [HF.out];rfl,rfl⟩
theorem any_containsB (l:List Bool) (x:Bool):l.any (fun y=>y == x)=l.contains x:=by
 exact mZ37
set_option maxRecDepth 100000 in
theorem containsF_any (l:List Bool) (x:Bool) (n:Nat) (hnl:n=l.length) (A:Option Addr) (c:Nat) (w:World) (B:Nat) (hr:Reads w B 1 A n (cellsK (fun b:Bool=>[Value.bool b]) l)) (hn:n≤5000000000000) :
  Calls Tryz.prog 122 #[.slice A n c,.bool x] w fun e w'=>e=.returned (.bool (l.contains x))∧w'=w:=by
 have hc:=Lib.hid (indexF_any l x n hnl A c w B hr hn)
 have HA:=Lib.hid ((firstI_any (fun y=>y == x) l).trans (any_containsB l x))
 clear hnl hr
 go_enter Tryz.func122,Tryz.ntmps122
 exact mZ38
/-- what is asked of a set and a snapshot: places and an error -/
def askI (t:TenR) (p n:BS) (bad:Bool):Int×Int×Int :=
 if tenE t=9 then (0,0,9) else if pathB p=false∨nameB n=false∨bad=true then (0,0,31) else
  match t.sets.l.find? (fun s=>s.path == p) with
  | none=>(0,0,71)
  | some s=>(findS t.sets.l p,findN s.snaps.l n,0)
def askV (x:Int×Int×Int):Value:=.tuple #[.int .i64 x.1,.int .i64 x.2.1,.int .i64 x.2.2]
set_option maxRecDepth 100000 in
set_option maxHeartbeats 4000000 in
theorem asked_any (t:TenR) (p n:BS) (ms:List Bool) (mA:Option Addr) (mn mc:Nat) (w:World) (B:Nat) (hB:B≤w.heap.size) (hr:t.rd w B) (hz:t.sz) (hp:p.length≤4000000000) (hmx:HasMax w) (hmn:mn=ms.length) (hm5:mn≤5) (hms:Reads w B 1 mA mn (cellsK (fun b:Bool=>[Value.bool b]) ms)) :
  Calls Tryz.prog 67 #[t.val,.string ⟨p.toArray⟩,.string ⟨n.toArray⟩,.slice mA mn mc] w fun e w'=>e=.returned (askV (askI t p n (ms.contains false)))∧Below w.heap.size w w':=by
 have h2:=tenE_09 t
 obtain ⟨nm,qu,nx,⟨s1,sn,s3,sl⟩,⟨g1,gn,g3,gl⟩,⟨t1,tn,t3,tl⟩,⟨l1,ln,l3,ll⟩⟩:=t
 show Calls Tryz.prog 67 #[.agg #[.string ⟨nm.toArray⟩,.int .i64 qu,.int .i64 nx,.slice s1 sn s3,.slice g1 gn g3,.slice t1 tn t3,.slice l1 ln l3],.string ⟨p.toArray⟩,.string ⟨n.toArray⟩,.slice mA mn mc] w _
 have hb1:=(Below.refl w.heap.size w).alloc (Nat.le_refl _) (.cells #[.string ⟨nm.toArray⟩,.int .i64 qu,.int .i64 nx,.slice s1 sn s3,.slice g1 gn g3,.slice t1 tn t3,.slice l1 ln l3] 27)
 have kT:=Blk.new w 27 #[.string ⟨nm.toArray⟩,.int .i64 qu,.int .i64 nx,.slice s1 sn s3,.slice g1 gn g3,.slice t1 tn t3,.slice l1 ln l3]
 obtain ⟨W1,hW1⟩:∃ W,W=w.alloc (.cells #[.string ⟨nm.toArray⟩,.int .i64 qu,.int .i64 nx,.slice s1 sn s3,.slice g1 gn g3,.slice t1 tn t3,.slice l1 ln l3] 27):=⟨_,rfl⟩
 have hsz1:W1.heap.size=w.heap.size+1:=tZ35
 rw [← hW1] at hb1 kT
 have hT:=Lib.hid (fun (W':World) (hB':Below W1.heap.size W1 W')=>(⟨(kT.below hB' tZ1).cell 0,(kT.below hB' tZ1).cell 1,(kT.below hB' tZ1).cell 2,(kT.below hB' tZ1).cell 3,(kT.below hB' tZ1).cell 4,(kT.below hB' tZ1).cell 5,(kT.below hB' tZ1).cell 6⟩:W'.cell? ⟨w.heap.size,0,none⟩=some (.string ⟨nm.toArray⟩)∧W'.cell? ⟨w.heap.size,1,none⟩=some (.int .i64 qu)∧W'.cell? ⟨w.heap.size,2,none⟩=some (.int .i64 nx)∧W'.cell? ⟨w.heap.size,3,none⟩=some (.slice s1 sn s3)∧W'.cell? ⟨w.heap.size,4,none⟩=some (.slice g1 gn g3)∧W'.cell? ⟨w.heap.size,5,none⟩=some (.slice t1 tn t3)∧W'.cell? ⟨w.heap.size,6,none⟩=some (.slice l1 ln l3)))
 have hrw:Hid (∀ W,Below W1.heap.size W1 W→TenR.rd W B ⟨nm,qu,nx,⟨s1,sn,s3,sl⟩,⟨g1,gn,g3,gl⟩,⟨t1,tn,t3,tl⟩,⟨l1,ln,l3,ll⟩⟩∧w.heap.size<W.heap.size∧HasMax W∧Below w.heap.size w W):=by
  exact mZ152
 have HZ:=Lib.hid hz
 have HSN:=Lib.hid (show sn=sl.length from hr.sets.1)
 have hTC:Hid (∀ W,Below W1.heap.size W1 W→Calls Tryz.prog 58 #[.agg #[.string ⟨nm.toArray⟩,.int .i64 qu,.int .i64 nx,.slice s1 sn s3,.slice g1 gn g3,.slice t1 tn t3,.slice l1 ln l3]] W fun e w'=>e=.returned (.int .i64 (tenE ⟨nm,qu,nx,⟨s1,sn,s3,sl⟩,⟨g1,gn,g3,gl⟩,⟨t1,tn,t3,tl⟩,⟨l1,ln,l3,ll⟩⟩))∧Below W.heap.size W w'):=fun W hb =>
  tcheck_any ⟨nm,qu,nx,⟨s1,sn,s3,sl⟩,⟨g1,gn,g3,gl⟩,⟨t1,tn,t3,tl⟩,⟨l1,ln,l3,ll⟩⟩ W B (hrw.out W hb).1 tZ48 hz (hrw.out W hb).2.2.1
 have hPA:Hid (∀ W,Below W1.heap.size W1 W→Calls Tryz.prog 72 #[.string ⟨p.toArray⟩] W fun e w'=>e=.returned (.bool (pathB p))∧Below W.heap.size W w'):=fun W hb=>path_any ⟨p.toArray⟩ W tZ98 (hrw.out W hb).2.2.1
 have hNA:Hid (∀ W,Calls Tryz.prog 77 #[.string ⟨n.toArray⟩] W fun e w'=>e=.returned (.bool (nameB n))∧Below W.heap.size W w'):=fun W=>name_any ⟨n.toArray⟩ W
 have hCN:Hid (∀ W,Below W1.heap.size W1 W→Calls Tryz.prog 122 #[.slice mA mn mc,.bool false] W fun e w'=>e=.returned (.bool (ms.contains false))∧w'=W):=fun W hb=>containsF_any ms false mn hmn mA mc W B (hms.below ((hrw.out W hb).2.2.2.mono hB)) tZ1
 have hFD:Hid (∀ W,Below W1.heap.size W1 W→Calls Tryz.prog 42 #[.agg #[.string ⟨nm.toArray⟩,.int .i64 qu,.int .i64 nx,.slice s1 sn s3,.slice g1 gn g3,.slice t1 tn t3,.slice l1 ln l3],.string ⟨p.toArray⟩] W fun e w'=>e=.returned (.int .i64 (findS sl p))∧Below W.heap.size W w'):=fun W hb =>
  find_any _ _ _ _ _ _ sl sn HSN.out s1 s3 p W B (hrw.out W hb).1.sets.2.2 tZ48 tZ29
 obtain ⟨E,hE⟩:∃ E,E=tenE ⟨nm,qu,nx,⟨s1,sn,s3,sl⟩,⟨g1,gn,g3,gl⟩,⟨t1,tn,t3,tl⟩,⟨l1,ln,l3,ll⟩⟩:=⟨_,rfl⟩
 rw [← hE] at h2 hTC
 have HE:=Lib.hid hE
 obtain ⟨bad,hbad⟩:∃ b,b=ms.contains false:=⟨_,rfl⟩
 rw [← hbad] at hCN ⊢
 obtain ⟨bp,hbp⟩:∃ b,b=pathB p:=⟨_,rfl⟩
 rw [← hbp] at hPA
 obtain ⟨bn,hbn⟩:∃ b,b=nameB n:=⟨_,rfl⟩
 rw [← hbn] at hNA
 have HBP:=Lib.hid hbp
 have HBN:=Lib.hid hbn
 have HB1:=Lib.hid hb1
 have HSZ1:=Lib.hid hsz1
 have hc:=hTC.out W1 (Below.refl _ _)
 obtain ⟨c0,c1,c2,c3,c4,c5,c6⟩:=hT.out _ (Below.refl _ _)
 clear hb1 kT hr hz hsz1 hmx hTC hE hbad hbp hbn hms hmn
 go_enter Tryz.func67,Tryz.ntmps67
 go_wp2_with fail
 rw [← hW1]
 clear hW1
 refine hc.mono ?_
 clear hc c0 c1 c2 c3 c4 c5 c6
 rintro e w2 ⟨rfl,hb2⟩
 have HW2:=Lib.hid hb2
 clear hb2
 rcases h2 with rfl | rfl
 ·have hc:=hPA.out w2 HW2.out
  clear hPA
  go_wp2_with fail
  refine hc.mono ?_
  clear hc
  rintro e w3 ⟨rfl,hb3⟩
  have HW3:=Lib.hid (HW2.out.trans (hb3.mono HW2.out.size))
  clear hb3 HW2
  cases bp with
  | false =>
   go_wp2_with fail
   refine bodyPost_ret (v:=.tuple #[.int .i64 0,.int .i64 0,.int .i64 31]) tZ46 rfl ⟨?_,HB1.out.trans (HW3.out.mono tZ10)⟩
   unfold askI
   rw [if_neg tZ37,if_pos (.inl HBP.out.symm)]
   rfl
  | true =>
   have hc:=hNA.out w3
   clear hNA
   go_wp2_with fail
   refine hc.mono ?_
   clear hc
   rintro e w4 ⟨rfl,hb4⟩
   have HW4:=Lib.hid (HW3.out.trans (hb4.mono HW3.out.size))
   clear hb4 HW3
   cases bn with
   | false =>
    go_wp2_with fail
    refine bodyPost_ret (v:=.tuple #[.int .i64 0,.int .i64 0,.int .i64 31]) tZ46 rfl ⟨?_,HB1.out.trans (HW4.out.mono tZ10)⟩
    unfold askI
    rw [if_neg tZ37,if_pos (.inr (.inl HBN.out.symm))]
    rfl
   | true =>
    have hc:=hCN.out w4 HW4.out
    clear hCN
    go_wp2_with fail
    refine hc.mono ?_
    clear hc
    rintro e w4' ⟨rfl,hw⟩
    rw [hw]
    clear hw w4'
    cases bad with
    | true =>
     go_wp2_with fail
     refine bodyPost_ret (v:=.tuple #[.int .i64 0,.int .i64 0,.int .i64 31]) tZ46 rfl ⟨?_,HB1.out.trans (HW4.out.mono tZ10)⟩
     unfold askI
     rw [if_neg tZ37,if_pos (.inr (.inr rfl))]
     rfl
    | false =>
     have hnb:¬ (pathB p=false∨nameB n=false∨false=true):=by rw [← HBP.out,← HBN.out];simp
     have HNB:=Lib.hid hnb
     have hc:=hFD.out w4 HW4.out
     obtain ⟨c0,c1,c2,c3,c4,c5,c6⟩:=hT.out _ HW4.out
     clear hFD hnb
     go_wp2_with fail
     refine hc.mono ?_
     clear hc c0 c1 c2 c3 c4 c5 c6
     rintro e w5 ⟨rfl,hb5⟩
     have HW5:=Lib.hid (HW4.out.trans (hb5.mono HW4.out.size))
     clear hb5 HW4
     rcases firstI_cases (fun s:SetR=>s.path == p) sl with ⟨h1,h2⟩ | ⟨k,hkl,h1,h2⟩
     ·have h1:findS sl p=-1:=h1
      rw [h1]
      go_wp2_with fail
      refine bodyPost_ret (v:=.tuple #[.int .i64 0,.int .i64 0,.int .i64 71]) tZ46 rfl ⟨?_,HB1.out.trans (HW5.out.mono tZ10)⟩
      unfold askI
      rw [if_neg tZ37,if_neg HNB.out]
      simp only [h2]
      rfl
     ·have h1:findS sl p=(k:Int):=h1
      rw [h1]
      have hk0:¬ (k:Int)<0:=tZ1
      have hk00:(0:Int)≤(k:Int):=tZ1
      have hks:k<sn:=tZ55
      have hki:(k:Int)<(sn:Int):=tZ1
      obtain ⟨ad,hsa,-,q0,q1,q2,q3,q4⟩:=set_at (hrw.out w5 HW5.out).1.sets.2.2 HSN.out hks
      simp only at hsa
      subst hsa
      have hx:=(hrw.out w5 HW5.out).1.eachS _ (List.getElem_mem hkl)
      have hzx:=HZ.out.eachS _ (List.getElem_mem hkl)
      have HV:Hid (askI ⟨nm,qu,nx,⟨some ad,sn,s3,sl⟩,⟨g1,gn,g3,gl⟩,⟨t1,tn,t3,tl⟩,⟨l1,ln,l3,ll⟩⟩ p n false=((k:Int),findN (sl[k]'hkl).snaps.l n,0)):=by
       show _=_
       unfold askI
       rw [if_neg tZ37,if_neg HNB.out]
       simp only [h2,h1]
      obtain ⟨x,hxx⟩:∃ x,x=sl[k]'hkl:=⟨_,rfl⟩
      rw [← hxx] at q0 q1 q2 q3 q4 hx hzx HV
      clear hxx h1 h2
      have hc:=snapAt_any (.string ⟨x.path.toArray⟩) (.string ⟨x.org.toArray⟩) (.slice x.body.A x.body.n x.body.c) (.slice x.own.A x.own.n x.own.c) x.snaps.l x.snaps.n hx.snaps.1 x.snaps.A x.snaps.c n w5 B hx.snaps.2.2 tZ133 tZ104
      obtain ⟨pa,og,⟨bA,bnn,bc,bl⟩,⟨zA,zn,zc,zl⟩,⟨oA,on,oc,ol⟩⟩:=x
      simp only at q0 q1 q2 q3 q4 hc HV
      obtain ⟨c0,c1,c2,c3,c4,c5,c6⟩:=hT.out _ HW5.out
      clear hx hzx hrw
      go_wp2_with fail
      refine hc.mono ?_
      clear hc c0 c1 c2 c3 c4 c5 c6 q0 q1 q2 q3 q4
      rintro e w6 ⟨rfl,hb6⟩
      go_wp2_with fail
      refine bodyPost_ret (v:=.tuple #[.int .i64 (k:Int),.int .i64 (findN zl n),.int .i64 0]) tZ46 rfl ⟨?_,HB1.out.trans ((HW5.out.trans (hb6.mono HW5.out.size)).mono tZ10)⟩
      rw [HV.out]
      rfl
 ·go_wp2_with fail
  refine bodyPost_ret (v:=.tuple #[.int .i64 0,.int .i64 0,.int .i64 9]) tZ46 rfl ⟨?_,HB1.out.trans (HW2.out.mono tZ10)⟩
  unfold askI
  rw [if_pos HE.out.symm]
  rfl
end Go.Proofs.YtiojfffgiejibaaGreatDoor
namespace Go.Proofs.YtiojfffgiejibaaGreatDoor
open Go.RowKit
/-- is a set a clone of a snapshot of a set's (or of any, where no name is asked)? -/
def clP (p q:BS) (o:BS):Bool:=match splitL o with
 | none=>false
 | some (a,b)=>a == p && (q == [] || b == q)
def clonesL (l:List SetR) (p q:BS):List BS:=(l.filter fun s=>clP p q s.org).map (·.path)
theorem clonesL_snoc (l:List SetR) (x:SetR) (p q:BS):clonesL (l++[x]) p q=clonesL l p q++(if clP p q x.org=true then [x.path] else []):=by
 unfold clonesL
 rw [List.filter_append,List.map_append]
 congr 1
 by_cases h:clP p q x.org=true
 ·rw [if_pos h,List.filter_cons_of_pos tZ63];rfl
 ·rw [if_neg h,List.filter_cons_of_neg tZ63];rfl
set_option maxRecDepth 100000 in
set_option maxHeartbeats 4000000 in
theorem clones_any (v0 v1 v2 v4 v5 v6:Value) (l:List SetR) (n:Nat) (hnl:n=l.length) (A:Option Addr) (c:Nat) (p nq:BS) (w:World) (B:Nat) (hr:Reads w B 5 A n (cellsK encSet l)) (hB:B≤w.heap.size) (hn:n≤1000000000000) (hv:∀ y∈l,y.org.length≤4000000000) (hmx:HasMax w) :
  Calls Tryz.prog 52 #[.agg #[v0,v1,v2,.slice A n c,v4,v5,v6],.string ⟨p.toArray⟩,.string ⟨nq.toArray⟩] w fun e w'=>∃ A1 c1,e=.returned (.slice A1 (clonesL l p nq).length c1)∧w'.ownsRow w.heap.size 9 1 (.slice A1 (clonesL l p nq).length c1) (clonesL l p nq).length (scells (clonesL l p nq))∧Below w.heap.size w w':=by
 obtain ⟨i0,hi0,hz0,hz1,hz2⟩:=info_parts Tryz.infoS
 have HN:=Lib.hid hnl
 have hb1:=(Below.refl w.heap.size w).alloc (Nat.le_refl _) (.cells #[v0,v1,v2,.slice A n c,v4,v5,v6] 27)
 have kT:=Blk.new w 27 #[v0,v1,v2,.slice A n c,v4,v5,v6]
 obtain ⟨W1,hW1⟩:∃ W,W=w.alloc (.cells #[v0,v1,v2,.slice A n c,v4,v5,v6] 27):=⟨_,rfl⟩
 have hsz1:W1.heap.size=w.heap.size+1:=tZ35
 rw [← hW1] at hb1 kT
 have hT:Hid (∀ W',Below W1.heap.size W1 W'→W'.cell? ⟨w.heap.size,3,none⟩=some (.slice A n c)):=fun W' hB'=>(kT.below hB' tZ1).cell 3
 have hR:=Lib.hid (fun (W':World) (hB':Below W1.heap.size W1 W')=>(⟨hr.below ((hb1.trans (hB'.mono tZ1)).mono hB),hmx.below (hb1.trans (hB'.mono tZ1))⟩:Reads W' B 5 A n (cellsK encSet l)∧HasMax W'))
 have HB1:=Lib.hid hb1
 have HSZ1:=Lib.hid hsz1
 have HVS:=Lib.hid hv
 obtain ⟨KL,hKL⟩:∃ K,K=clonesL l p nq:=⟨_,rfl⟩
 rw [← hKL]
 have HKL:=Lib.hid hKL
 clear hnl hr kT hsz1 hv hKL
 go_enter Tryz.func52,Tryz.ntmps52
 go_wp2_with fail
 rw [← hW1]
 clear hW1
 go_loopw [7,16] (fun a j wr=>∃ (k m:Nat) (A1:Option Addr) (c1:Nat),k≤n∧m≤k∧a=.slice A1 m c1∧j=.int .i64 (k:Int)∧Hid (m=(clonesL (l.take k) p nq).length)∧wr.ownsRow W1.heap.size 9 1 (.slice A1 m c1) m (scells (clonesL (l.take k) p nq))∧Below W1.heap.size W1 wr) (fun _ j _=>n-(intOf j).toNat)
 case atStart=>exact ⟨0,0,none,0,Nat.zero_le _,Nat.zero_le _,rfl,rfl,rfl,⟨rfl,.inl ⟨rfl,rfl⟩⟩,Below.refl _ _⟩
 case round =>
  clear hb1
  obtain ⟨k,m,A1,c1,hk,hmk,rfl,rfl,hml,hown,hbw⟩:=hrel
  by_cases hlt:k<n
  ·obtain ⟨hrw,hmw⟩:=hR.out _ hbw
   obtain ⟨ad,rfl,-,c0,c1',c2,c3,c4⟩:=set_at hrw HN.out hlt
   have hki:(k:Int)<(n:Int):=tZ1
   have hkl:k<l.length:=tZ9
   obtain ⟨x,hx⟩:∃ x,x=l[k]'hkl:=⟨_,rfl⟩
   have hxl:=HVS.out x tZ14
   rw [← hx] at c0 c1' c2 c3 c4
   have htk:=List.take_succ_eq_append_getElem hkl
   rw [← hx] at htk
   have HNT:Hid (clonesL (l.take (k+1)) p nq=clonesL (l.take k) p nq++(if clP p nq x.org=true then [x.path] else [])):=by
    show _=_
    rw [htk,clonesL_snoc]
   obtain ⟨W0,hW0⟩:∃ W0,W0=wr.alloc (.cells #[.string ⟨x.path.toArray⟩,.string ⟨x.org.toArray⟩,.slice x.body.A x.body.n x.body.c,.slice x.snaps.A x.snaps.n x.snaps.c,.slice x.own.A x.own.n x.own.c] 56):=⟨_,rfl⟩
   have hblk:Blk W0 wr.heap.size 56 #[.string ⟨x.path.toArray⟩,.string ⟨x.org.toArray⟩,.slice x.body.A x.body.n x.body.c,.slice x.snaps.A x.snaps.n x.snaps.c,.slice x.own.A x.own.n x.own.c]:=tZ65
   have hszW:W0.heap.size=wr.heap.size+1:=tZ17
   have hwr:=hbw.size
   have hsz1:=HSZ1.out
   have hb1W:Below W1.heap.size W1 W0:=tZ33
   have HB2:=Lib.hid hb1W
   have HSZ:=Lib.hid hszW
   have hpn:=split_any ⟨x.org.toArray⟩ W0 (by show x.org.length≤_;exact hxl) (hR.out _ hb1W).2
   rw [show (ByteArray.mk x.org.toArray).data.toList=x.org from rfl] at hpn
   have hown0:Hid (∀ W,Below W0.heap.size W0 W→W.ownsRow W1.heap.size 9 1 (.slice A1 m c1) m (scells (clonesL (l.take k) p nq))∧W.cell? ⟨wr.heap.size,0,none⟩=some (.string ⟨x.path.toArray⟩)):=by
    show ∀ W,_→_
    intro W hb
    refine ⟨own_below (w:=W0) ?_ hb,(hblk.below hb tZ1).cell 0⟩
    rw [hW0]
    exact hown.alloc _
   obtain ⟨xp,xo,⟨b1,b2,b3,bl⟩,⟨s1,s2,s3,sl⟩,⟨o1,o2,o3,ol⟩⟩:=x
   simp only at c0 c1' c2 c3 c4 HNT hW0 hpn hown0
   clear hx htk hxl hblk hrw hown hR hT hmw
   go_wp2_with fail
   rw [← hW0]
   clear hW0 hszW c0 c1' c2 c3 c4
   refine hpn.mono ?_
   clear hpn
   rintro e w4 ⟨rfl,hb4⟩
   obtain ⟨ho4,q0⟩:=hown0.out _ hb4
   have hbf:=HB2.out.trans (hb4.mono tZ6)
   have hbF:=HB1.out.trans (hbf.mono tZ1)
   have hbase:=hbf.size
   clear hown0 hb4
   rcases splitV_cases xo with ⟨hs1,hs2⟩ | ⟨sa,sb,hs1,hs2,-,-⟩
   ·rw [hs2]
    have HS1:=Lib.hid hs1
    clear hs1 hs2
    have HNT2:Hid (clonesL (l.take (k+1)) p nq=clonesL (l.take k) p nq):=by
     show _=_
     rw [HNT.out,if_neg (by unfold clP;rw [HS1.out];simp)]
     simp
    exact mZ153
   ·rw [hs2]
    have HCL:Hid (clP p nq xo=(sa == p && (nq == [] || sb == nq))):=by show _=_;unfold clP;rw [hs1]
    clear hs1 hs2
    by_cases hap:sa=p
    ·have hap1:(sa == p)=true:=by simpa using hap
     by_cases hq:nq=[]
     ·subst hq
      have HNT2:Hid (clonesL (l.take (k+1)) p []=clonesL (l.take k) p []++[xp]):=by
       show _=_
       rw [HNT.out,if_pos (by rw [HCL.out,hap1];rfl)]
      exact mZ154
     ·have hq1:(nq == [])=false:=by simpa using hq
      have hq2:(nq.toArray == #[])=false:=by simpa using hq
      by_cases hb:sb=nq
      ·subst hb
       have hq3:(sb == sb)=true:=tZ4
       have HNT2:Hid (clonesL (l.take (k+1)) p sb=clonesL (l.take k) p sb++[xp]):=by
        show _=_
        rw [HNT.out,if_pos (by rw [HCL.out,hap1,hq3];simp)]
       exact mZ154
      ·have hb1:(sb == nq)=false:=by simpa using hb
       have HNT2:Hid (clonesL (l.take (k+1)) p nq=clonesL (l.take k) p nq):=by
        show _=_
        rw [HNT.out,if_neg (by rw [HCL.out,hap1,hq1,hb1];simp)]
        simp
       exact mZ153
    ·have hap1:(sa == p)=false:=by simpa using hap
     have HNT2:Hid (clonesL (l.take (k+1)) p nq=clonesL (l.take k) p nq):=by
      show _=_
      rw [HNT.out,if_neg (by rw [HCL.out,hap1];simp)]
      simp
     exact mZ153
  ·have hkn:k=n:=tZ1
   have hall:l.take k=l:=List.take_of_length_le tZ16
   rw [hall,← HKL.out] at hown
   have HM:Hid (m=KL.length):=by show _=_;rw [hml.out,hall,HKL.out]
   have HO:=Lib.hid (own_mono hown (show w.heap.size≤W1.heap.size by have:=HSZ1.out;omega))
   have HBF:=Lib.hid (HB1.out.trans (hbw.mono tZ10))
   clear hkn hall hml hown hbw
   go_wp2_with fail
   go_ret
   refine ⟨A1,c1,by rw [← HM.out];rfl,by rw [← HM.out];exact HO.out,HBF.out⟩
end Go.Proofs.YtiojfffgiejibaaGreatDoor
namespace Go.Proofs.YtiojfffgiejibaaGreatDoor
open Go.RowKit
/-- likewise, of a snapshot that must be there -/
def foundI (t:TenR) (p n:BS) (bad:Bool):Int×Int×Int :=
 if (askI t p n bad).2.2=0∧(askI t p n bad).2.1<0 then ((askI t p n bad).1,(askI t p n bad).2.1,71) else askI t p n bad
set_option maxRecDepth 100000 in
set_option maxHeartbeats 2000000 in
theorem found_any (t:TenR) (p n:BS) (ms:List Bool) (mA:Option Addr) (mn mc:Nat) (w:World) (B:Nat) (hB:B≤w.heap.size) (hr:t.rd w B) (hz:t.sz) (hp:p.length≤4000000000) (hmx:HasMax w) (hmn:mn=ms.length) (hm5:mn≤5) (hms:Reads w B 1 mA mn (cellsK (fun b:Bool=>[Value.bool b]) ms)) :
  Calls Tryz.prog 71 #[t.val,.string ⟨p.toArray⟩,.string ⟨n.toArray⟩,.slice mA mn mc] w fun e w'=>e=.returned (askV (foundI t p n (ms.contains false)))∧Below w.heap.size w w':=by
 obtain ⟨nm,qu,nx,⟨s1,sn,s3,sl⟩,⟨g1,gn,g3,gl⟩,⟨t1,tn,t3,tl⟩,⟨l1,ln,l3,ll⟩⟩:=t
 show Calls Tryz.prog 71 #[.agg #[.string ⟨nm.toArray⟩,.int .i64 qu,.int .i64 nx,.slice s1 sn s3,.slice g1 gn g3,.slice t1 tn t3,.slice l1 ln l3],.string ⟨p.toArray⟩,.string ⟨n.toArray⟩,.slice mA mn mc] w _
 have hb1:=(Below.refl w.heap.size w).alloc (Nat.le_refl _) (.cells #[.string ⟨nm.toArray⟩,.int .i64 qu,.int .i64 nx,.slice s1 sn s3,.slice g1 gn g3,.slice t1 tn t3,.slice l1 ln l3] 27)
 have hc:Calls Tryz.prog 67 #[.agg #[.string ⟨nm.toArray⟩,.int .i64 qu,.int .i64 nx,.slice s1 sn s3,.slice g1 gn g3,.slice t1 tn t3,.slice l1 ln l3],.string ⟨p.toArray⟩,.string ⟨n.toArray⟩,.slice mA mn mc] (w.alloc (.cells #[.string ⟨nm.toArray⟩,.int .i64 qu,.int .i64 nx,.slice s1 sn s3,.slice g1 gn g3,.slice t1 tn t3,.slice l1 ln l3] 27)) _:=asked_any ⟨nm,qu,nx,⟨s1,sn,s3,sl⟩,⟨g1,gn,g3,gl⟩,⟨t1,tn,t3,tl⟩,⟨l1,ln,l3,ll⟩⟩ p n ms mA mn mc (w.alloc (.cells #[.string ⟨nm.toArray⟩,.int .i64 qu,.int .i64 nx,.slice s1 sn s3,.slice g1 gn g3,.slice t1 tn t3,.slice l1 ln l3] 27)) B tZ7 (TenR.rd.below hr (hb1.mono hB)) hz hp (hmx.below hb1) hmn hm5 (hms.below (hb1.mono hB))
 obtain ⟨V,hV⟩:∃ V,V=askI ⟨nm,qu,nx,⟨s1,sn,s3,sl⟩,⟨g1,gn,g3,gl⟩,⟨t1,tn,t3,tl⟩,⟨l1,ln,l3,ll⟩⟩ p n (ms.contains false):=⟨_,rfl⟩
 have hF:Hid (foundI ⟨nm,qu,nx,⟨s1,sn,s3,sl⟩,⟨g1,gn,g3,gl⟩,⟨t1,tn,t3,tl⟩,⟨l1,ln,l3,ll⟩⟩ p n (ms.contains false)=if V.2.2=0∧V.2.1<0 then (V.1,V.2.1,71) else V):=by show _=_;unfold foundI;rw [← hV]
 rw [← hV] at hc
 obtain ⟨a,k,e0⟩:=V
 simp only [askV] at hc hF
 have HB1:=Lib.hid hb1
 clear hb1 hr hz hmx hms hmn hV
 go_enter Tryz.func71,Tryz.ntmps71
 go_wp2_with fail
 refine hc.mono ?_
 clear hc
 rintro e w2 ⟨rfl,hb2⟩
 have HB2:=Lib.hid (HB1.out.trans (hb2.mono HB1.out.size))
 clear hb2 HB1
 by_cases he:e0=0
 ·subst he
  by_cases hk:k<0
  ·have HF1:Hid (foundI ⟨nm,qu,nx,⟨s1,sn,s3,sl⟩,⟨g1,gn,g3,gl⟩,⟨t1,tn,t3,tl⟩,⟨l1,ln,l3,ll⟩⟩ p n (ms.contains false)=(a,k,71)):=by show _=_;rw [hF.out,if_pos ⟨rfl,hk⟩]
   clear hF
   go_wp2_with fail
   exact bodyPost_ret (v:=.tuple #[.int .i64 a,.int .i64 k,.int .i64 71]) tZ79 rfl ⟨by rw [HF1.out];rfl,HB2.out⟩
  ·have HF1:Hid (foundI ⟨nm,qu,nx,⟨s1,sn,s3,sl⟩,⟨g1,gn,g3,gl⟩,⟨t1,tn,t3,tl⟩,⟨l1,ln,l3,ll⟩⟩ p n (ms.contains false)=(a,k,0)):=by show _=_;rw [hF.out,if_neg (fun h=>hk h.2)]
   clear hF
   go_wp2_with fail
   exact bodyPost_ret (v:=.tuple #[.int .i64 a,.int .i64 k,.int .i64 0]) tZ79 rfl ⟨by rw [HF1.out];rfl,HB2.out⟩
 ·have HF1:Hid (foundI ⟨nm,qu,nx,⟨s1,sn,s3,sl⟩,⟨g1,gn,g3,gl⟩,⟨t1,tn,t3,tl⟩,⟨l1,ln,l3,ll⟩⟩ p n (ms.contains false)=(a,k,e0)):=by show _=_;rw [hF.out,if_neg (fun h=>he h.1)]
  clear hF
  have heb:(e0 == 0)=false:=by simpa using he
  go_wp2_with fail
  exact bodyPost_ret (v:=.tuple #[.int .i64 a,.int .i64 k,.int .i64 e0]) tZ79 rfl ⟨by rw [HF1.out];rfl,HB2.out⟩
/-- the next number of a set's -/
def guidI (nx:Int) (l:List SnapR):Int:=match l.getLast? with
 | none=>nx
 | some x=>max nx (x.gd+1)
set_option maxRecDepth 100000 in
set_option maxHeartbeats 2000000 in
theorem guid_any (v0 v1 v3 v4 v5 v6:Value) (nx:Int) (u0 u1 u2 u4:Value) (zl:List SnapR) (zA:Option Addr) (zn zc:Nat) (w:World) (B:Nat) (hB:B≤w.heap.size) (hz:Reads w B 5 zA zn (cellsK encSnap zl)) (hn:zn=zl.length) (hm:zn≤1000000) (hg:∀ x∈zl,-4000000000000000000≤x.gd∧x.gd≤4000000000000000000) :
  Calls Tryz.prog 68 #[.agg #[v0,v1,.int .i64 nx,v3,v4,v5,v6],.agg #[u0,u1,u2,.slice zA zn zc,u4]] w fun e w'=>e=.returned (.int .i64 (guidI nx zl))∧Below w.heap.size w w':=by
 have hb1:=(Below.refl w.heap.size w).alloc (Nat.le_refl _) (.cells #[v0,v1,.int .i64 nx,v3,v4,v5,v6] 27)
 have hb2:=hb1.alloc hb1.size (.cells #[u0,u1,u2,.slice zA zn zc,u4] 56)
 have HB2:=Lib.hid hb2
 have hz2:=hz.below (hb2.mono hB)
 have HN:=Lib.hid hn
 rcases Nat.eq_zero_or_pos zn with h0 | h0
 ·subst h0
  have hl:zl=[]:=List.eq_nil_of_length_eq_zero hn.symm
  subst hl
  clear hb1 hb2 hz hz2 hn
  go_enter Tryz.func68,Tryz.ntmps68
  go_wp2_with fail
  go_ret
  exact ⟨rfl,HB2.out⟩
 ·have hlt:zn-1<zn:=tZ1
  have hzi:(0:Int)<(zn:Int):=tZ1
  have hsub:IntKind.i64.wrap ((zn:Int)-1)=((zn-1:Nat):Int):=by rw [show (zn:Int)-1=((zn-1:Nat):Int) by omega];exact IntWalk.i64_in _ tZ1
  have hi2:((zn-1:Nat):Int)<(zn:Int):=tZ1
  obtain ⟨ad,rfl,-,r0,r1,r2,r3,r4⟩:=snap_at hz2 hn hlt
  have hkl:zn-1<zl.length:=tZ1
  have hgl:=hg _ (List.getElem_mem hkl)
  have HL:Hid (zl.getLast?=some (zl[zn-1]'hkl)):=by
   show _=_
   rw [List.getLast?_eq_getElem?,← hn,List.getElem?_eq_getElem hkl]
  obtain ⟨x,hx⟩:∃ x,x=zl[zn-1]'hkl:=⟨_,rfl⟩
  rw [← hx] at r1 HL hgl
  have hadd:IntKind.i64.wrap (x.gd+1)=x.gd+1:=IntWalk.i64_in _ tZ1
  clear hb1 hb2 hz hz2 hn hx r0 r2 r3 r4 hg
  go_enter Tryz.func68,Tryz.ntmps68
  go_wp2_with fail
  go_ret
  refine ⟨?_,HB2.out⟩
  unfold guidI
  rw [HL.out]
  rfl
end Go.Proofs.YtiojfffgiejibaaGreatDoor
