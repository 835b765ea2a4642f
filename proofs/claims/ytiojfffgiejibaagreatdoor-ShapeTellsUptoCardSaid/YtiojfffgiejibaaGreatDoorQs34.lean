/-
  The page's set, by its contract. The page's Grants, by its contract (for tenants).
-/
import Derived.Test.YtiojfffgiejibaaGreatDoorQsM1
import Derived.WalkKit
import Derived.WalkSpells
import Derived.Below
import Derived.Laws.OwnMore
import Derived.Deep.AppendLies
import Derived.Deep.Draws
import Derived.Laws.Rows
import Derived.Maps.AppendAt
import Derived.RegionTactic
import Derived.OwnWalk
import Derived.Deep.QuietTactic
import Derived.BigQuiet
import Derived.Lib.Hide
import Derived.Laws.CopyOwn
import Derived.IntWalk
import Derived.Test.YtiojfffgiejibaaGreatDoorRows
import Derived.Handy
import Derived.Deep.Quiet
import Derived.Orders
import Derived.Lib.SplitLaws
import Derived.Lib.LastIndexByte
import Derived.Lib.Strings
import Derived.ShutString
import Derived.Sort.Walk0
import Derived.Sort.KeysCollected
import Derived.Shelf.Strings.Search1
import Derived.Shelf.Strings.Search2
import Derived.Shelf.Strings.Search3
import Derived.Shelf.Strings.Cut
import Derived.Shelf.Strings.Count
import Derived.Shelf.LaysM
import Derived.Shelf.Strings.Shaped
import Derived.Shelf.Strings.LastIndex
import Derived.Shelf.Strings.Split
import Derived.Shelf.Strings.SplitShaped
import Derived.Shelf.Unicode.Decode
import Derived.Shelf.Strings.RuneCount
import Derived.Shelf.Strings.Explode
import Derived.Shelf.Unicode.DecodeSlow
import Derived.Shelf.Slices.Turned
import Derived.Test.YtiojfffgiejibaaGreatDoorProg
import Derived.Laws.BytesString
import Derived.Laws.IdiomStrings
import Derived.Lib.ConvBytes
import Derived.Deep.MidRow
import Derived.Test.YtiojfffgiejibaaGreatDoorQ0
import Derived.Test.YtiojfffgiejibaaGreatDoorQs1
import Derived.Test.YtiojfffgiejibaaGreatDoorQs2
import Derived.Test.YtiojfffgiejibaaGreatDoorQs3
import Derived.Test.YtiojfffgiejibaaGreatDoorQs5
import Derived.Test.YtiojfffgiejibaaGreatDoorQs6
import Derived.Test.YtiojfffgiejibaaGreatDoorQs7
import Derived.Test.YtiojfffgiejibaaGreatDoorQs10
import Derived.Test.YtiojfffgiejibaaGreatDoorQs12
import Derived.Test.YtiojfffgiejibaaGreatDoorQs13
import Derived.Test.YtiojfffgiejibaaGreatDoorQs14
import Derived.Test.YtiojfffgiejibaaGreatDoorQs15
import Derived.Test.YtiojfffgiejibaaGreatDoorQs25
import Derived.Test.YtiojfffgiejibaaGreatDoorQs28
namespace Go.Proofs.YtiojfffgiejibaaGreatDoor
open Go.RowKit
set_option maxRecDepth 100000 in
set_option maxHeartbeats 8000000 in
theorem refSet_any (v0 v1 v2 v4 v5 v6:Value) (all:List SetR) (n:Nat) (hnl:n=all.length) (A:Option Addr) (c:Nat) (x:SetR) (w:World) (B:Nat) (hr:Reads w B 5 A n (cellsK encSet all)) (he:∀ y∈all,y.rd w B) (hxr:x.rd w B) (hB:B≤w.heap.size) (hn:n≤1000000000000) (hv:∀ y∈all,y.sz) (hxs:x.sz) :
  Calls Tryz.prog 115 #[.agg #[v0,v1,v2,.slice A n c,v4,v5,v6],.agg #[.string ⟨x.path.toArray⟩,.string ⟨x.org.toArray⟩,.slice x.body.A x.body.n x.body.c,.slice x.snaps.A x.snaps.n x.snaps.c,.slice x.own.A x.own.n x.own.c]] w fun e w'=>e=.returned (.bool (setB all x))∧Below w.heap.size w w':=by
 have hb1:=(Below.refl w.heap.size w).alloc (Nat.le_refl _) (.cells #[v0,v1,v2,.slice A n c,v4,v5,v6] 27)
 have hb2:=hb1.alloc hb1.size (.cells #[.string ⟨x.path.toArray⟩,.string ⟨x.org.toArray⟩,.slice x.body.A x.body.n x.body.c,.slice x.snaps.A x.snaps.n x.snaps.c,.slice x.own.A x.own.n x.own.c] 56)
 have k1:=(Blk.new w 27 #[v0,v1,v2,.slice A n c,v4,v5,v6]).alloc (.cells #[.string ⟨x.path.toArray⟩,.string ⟨x.org.toArray⟩,.slice x.body.A x.body.n x.body.c,.slice x.snaps.A x.snaps.n x.snaps.c,.slice x.own.A x.own.n x.own.c] 56)
 have k2:=Blk.new (w.alloc (.cells #[v0,v1,v2,.slice A n c,v4,v5,v6] 27)) 56 #[.string ⟨x.path.toArray⟩,.string ⟨x.org.toArray⟩,.slice x.body.A x.body.n x.body.c,.slice x.snaps.A x.snaps.n x.snaps.c,.slice x.own.A x.own.n x.own.c]
 rw [show (w.alloc (.cells #[v0,v1,v2,.slice A n c,v4,v5,v6] 27)).heap.size=w.heap.size+1 by simp] at k2
 obtain ⟨W2,hW2⟩:∃ W,W=(w.alloc (.cells #[v0,v1,v2,.slice A n c,v4,v5,v6] 27)).alloc (.cells #[.string ⟨x.path.toArray⟩,.string ⟨x.org.toArray⟩,.slice x.body.A x.body.n x.body.c,.slice x.snaps.A x.snaps.n x.snaps.c,.slice x.own.A x.own.n x.own.c] 56):=⟨_,rfl⟩
 have hsz:W2.heap.size=w.heap.size+2:=tZ40
 rw [← hW2] at hb2 k1 k2
 have hS:=Lib.hid (fun (W':World) (hB':Below W2.heap.size W2 W') =>
  (⟨(k1.below hB' tZ1).cell 0,(k1.below hB' tZ1).cell 1,(k1.below hB' tZ1).cell 2,(k1.below hB' tZ1).cell 3,(k1.below hB' tZ1).cell 4,(k1.below hB' tZ1).cell 5,(k1.below hB' tZ1).cell 6,(k2.below hB' tZ1).cell 0,(k2.below hB' tZ1).cell 1,(k2.below hB' tZ1).cell 2,(k2.below hB' tZ1).cell 3,(k2.below hB' tZ1).cell 4⟩ :
   W'.cell? ⟨w.heap.size,0,none⟩=some v0∧W'.cell? ⟨w.heap.size,1,none⟩=some v1∧W'.cell? ⟨w.heap.size,2,none⟩=some v2∧W'.cell? ⟨w.heap.size,3,none⟩=some (.slice A n c)∧W'.cell? ⟨w.heap.size,4,none⟩=some v4∧W'.cell? ⟨w.heap.size,5,none⟩=some v5∧W'.cell? ⟨w.heap.size,6,none⟩=some v6∧W'.cell? ⟨w.heap.size+1,0,none⟩=some (.string ⟨x.path.toArray⟩)∧W'.cell? ⟨w.heap.size+1,1,none⟩=some (.string ⟨x.org.toArray⟩)∧W'.cell? ⟨w.heap.size+1,2,none⟩=some (.slice x.body.A x.body.n x.body.c)∧W'.cell? ⟨w.heap.size+1,3,none⟩=some (.slice x.snaps.A x.snaps.n x.snaps.c)∧W'.cell? ⟨w.heap.size+1,4,none⟩=some (.slice x.own.A x.own.n x.own.c)))
 have HSZ:=Lib.hid hsz
 have HB2:=Lib.hid hb2
 have HNL:=Lib.hid hnl
 have hrd:∀ (y:SetR),y.rd w B→∀ W',Below W2.heap.size W2 W'→y.rd W' B:=fun y hy W' hB'=>⟨hy.body.below ((hb2.trans (hB'.mono tZ1)).mono hB),hy.snaps.below ((hb2.trans (hB'.mono tZ1)).mono hB),fun z hz=>⟨(hy.each z hz).body.below ((hb2.trans (hB'.mono tZ1)).mono hB),(hy.each z hz).tags.below ((hb2.trans (hB'.mono tZ1)).mono hB),(hy.each z hz).own.below ((hb2.trans (hB'.mono tZ1)).mono hB)⟩,hy.own.below ((hb2.trans (hB'.mono tZ1)).mono hB)⟩
 have hR:=Lib.hid (fun (W':World) (hB':Below W2.heap.size W2 W')=>(⟨hr.below ((hb2.trans (hB'.mono tZ1)).mono hB),hB'.size,fun y hy=>hrd y (he y hy) W' hB'⟩:Reads W' B 5 A n (cellsK encSet all)∧W2.heap.size≤W'.heap.size∧∀ y∈all,y.rd W' B))
 have HVS:=Lib.hid hv
 have hPn:Hid (∀ W,Below W2.heap.size W2 W→Calls Tryz.prog 92 #[.string ⟨x.path.toArray⟩] W fun e W'=>Below W.heap.size W W'∧((x.path=[]∨pathB x.path=false)∧e=.returned (.tuple #[.string ⟨#[]⟩,.bool false])∨x.path≠[]∧pathB x.path=true∧e=.returned (.tuple #[.string ⟨(upL x.path).toArray⟩,.bool true]))):=fun W _ =>
  refParent_any ⟨x.path.toArray⟩ W tZ53
 have hPa:Hid (∀ W,Below W2.heap.size W2 W→Calls Tryz.prog 75 #[.string ⟨x.path.toArray⟩] W fun e W'=>e=.returned (.bool (pathB x.path))∧Below W.heap.size W W'):=fun W _=>refPath_any ⟨x.path.toArray⟩ W tZ53
 have hFd:Hid (∀ (p:BS) W,Below W2.heap.size W2 W→Calls Tryz.prog 33 #[.agg #[v0,v1,v2,.slice A n c,v4,v5,v6],.string ⟨p.toArray⟩] W fun e W'=>e=.returned (.int .i64 (findS all p))∧Below W.heap.size W W'):=fun p W hb =>
  refFind_any v0 v1 v2 v4 v5 v6 all n HNL.out A c p W B (hR.out _ hb).1 tZ20 tZ1
 have hBk:Hid (∀ W,Below W2.heap.size W2 W→Calls Tryz.prog 153 #[.slice x.body.A x.body.n x.body.c] W fun e W'=>e=.returned (.int .i64 (if okL x.body.l=true then 0 else 9))∧Below W.heap.size W W'):=fun W hb =>
  refCheckB_any x.body.l x.body.n (hrd x hxr W hb).body.1 x.body.A x.body.c W B (hrd x hxr W hb).body.2.2 hxs.body
 have hPr:Hid (∀ W,Below W2.heap.size W2 W→Calls Tryz.prog 154 #[.slice x.own.A x.own.n x.own.c] W fun e W'=>e=.returned (.int .i64 (if propsB x.own.l=true then 0 else 9))∧Below W.heap.size W W'):=fun W hb =>
  refPropsB_any x.own.l x.own.n (hrd x hxr W hb).own.1 x.own.A x.own.c W B (hrd x hxr W hb).own.2.2 hxs.own hxs.props
 have hSn:Hid (∀ W,Below W2.heap.size W2 W→Calls Tryz.prog 155 #[.slice x.snaps.A x.snaps.n x.snaps.c] W fun e W'=>e=.returned (.bool (snapsB x.snaps.l))∧Below W.heap.size W W'):=fun W hb =>
  refSnaps_any x.snaps.l x.snaps.n (hrd x hxr W hb).snaps.1 x.snaps.A x.snaps.c W B (hrd x hxr W hb).snaps.2.2 (hrd x hxr W hb).each tZ20 hxs.snaps hxs.each
 have hSp:Hid (∀ W,Below W2.heap.size W2 W→Calls Tryz.prog 104 #[.string ⟨x.org.toArray⟩] W fun e W'=>e=.returned (splitV x.org)∧Below W.heap.size W W'):=fun W _=>refSplit_any ⟨x.org.toArray⟩ W (by show x.org.length≤_;exact hxs.org)
 have HV0:Hid (setB all x=(pathB x.path && ((match parB x.path with | none=>true | some u=>all.any fun y=>y.path == u) && (okL x.body.l && (propsB x.own.l && (snapsB x.snaps.l && originP all x.path x.org)))))):=by
  show _=_
  rw [setB_eq]
  cases parB x.path with
  | none =>
   simp only
   generalize pathB x.path=a1
   generalize okL x.body.l=a3
   generalize propsB x.own.l=a4
   generalize snapsB x.snaps.l=a5
   generalize originP all x.path x.org=a6
   cases a1 <;> cases a3 <;> cases a4 <;> cases a5 <;> cases a6 <;> rfl
  | some u =>
   simp only
   generalize pathB x.path=a1
   generalize (all.any fun y=>y.path == u)=a2
   generalize okL x.body.l=a3
   generalize propsB x.own.l=a4
   generalize snapsB x.snaps.l=a5
   generalize originP all x.path x.org=a6
   cases a1 <;> cases a2 <;> cases a3 <;> cases a4 <;> cases a5 <;> cases a6 <;> rfl
 have HFL:Hid (∀ u,parB x.path=some u→(findS all u<0→(all.any fun y=>y.path == u)=false)∧(0≤findS all u→(all.any fun y=>y.path == u)=true)):=by
  show ∀ u,_→_
  intro u _
  have:=firstI_any (fun y:SetR=>y.path == u) all
  rw [← this]
  exact ⟨fun h=>decide_eq_false (by show ¬ (0:Int)≤findS all u;omega),fun h=>decide_eq_true h⟩
 obtain ⟨V,hV⟩:∃ V,V=setB all x:=⟨_,rfl⟩
 rw [← hV] at HV0 ⊢
 obtain ⟨xp,xo,⟨b1,b2,b3,bl⟩,⟨s1,s2,s3,sl⟩,⟨o1,o2,o3,ol⟩⟩:=x
 simp only at hW2 hS hPn hPa hBk hPr hSn hSp HV0 HFL ⊢
 obtain ⟨bPa,hbPa⟩:∃ b,b=pathB xp:=⟨_,rfl⟩
 obtain ⟨bB,hbB⟩:∃ b,b=okL bl:=⟨_,rfl⟩
 obtain ⟨bP,hbP⟩:∃ b,b=propsB ol:=⟨_,rfl⟩
 obtain ⟨bS,hbS⟩:∃ b,b=snapsB sl:=⟨_,rfl⟩
 rw [← hbPa] at HV0 hPa
 rw [← hbB] at HV0 hBk
 rw [← hbP] at HV0 hPr
 rw [← hbS] at HV0 hSn
 have HPA:=Lib.hid hbPa
 clear hV hbPa hbB hbP hbS hb1 hb2 k1 k2 hsz hnl hr he hxr hv hxs hrd
 have hW0:=Below.refl W2.heap.size W2
 have hpn:=hPn.out _ hW0
 clear hPn
 go_enter Tryz.func115,Tryz.ntmps115
 go_wp2_with fail
 rw [← hW2]
 clear hW2
 refine hpn.mono ?_
 clear hpn
 rintro e w4 ⟨hb4,⟨hpar,rfl⟩ | ⟨hne,hpb,rfl⟩⟩
 ·have HV:Hid (V=(bPa && (bB && (bP && (bS && originP all xp xo))))):=by
   show _=_
   rw [HV0.out]
   unfold parB
   rw [if_pos hpar]
   simp
  clear HV0 HFL hpar HPA
  as_aux_lemma =>
   obtain ⟨t0,t1,t2,t3,t4,t5,t6,q0,q1,q2,q3,q4⟩:=hS.out _ hb4
   have hc:=hPa.out _ hb4
   cases bPa with
   | false =>
    go_wp2_with fail
    refine hc.mono ?_
    clear hc
    rintro e w11 ⟨rfl,hbw11⟩
    have hWw11:=hb4.trans (hbw11.mono hb4.size)
    exact mZ188
   | true =>
    go_wp2_with fail
    refine hc.mono ?_
    clear hc
    rintro e w11 ⟨rfl,hbw11⟩
    have hWw11:=hb4.trans (hbw11.mono hb4.size)
    clear hbw11
    obtain ⟨t0,t1,t2,t3,t4,t5,t6,q0,q1,q2,q3,q4⟩:=hS.out _ hWw11
    have hc:=hBk.out _ hWw11
    cases bB with
    | false =>
     exact mZ189
    | true =>
     rw [if_pos rfl] at hc
     go_wp2_with fail
     refine hc.mono ?_
     clear hc
     rintro e w12 ⟨rfl,hbw12⟩
     have hWw12:=hWw11.trans (hbw12.mono hWw11.size)
     clear hbw12
     obtain ⟨t0,t1,t2,t3,t4,t5,t6,q0,q1,q2,q3,q4⟩:=hS.out _ hWw12
     have hc:=hPr.out _ hWw12
     cases bP with
     | false =>
      rw [if_neg tZ4] at hc
      exact mZ190
     | true =>
      rw [if_pos rfl] at hc
      go_wp2_with fail
      refine hc.mono ?_
      clear hc
      rintro e w13 ⟨rfl,hbw13⟩
      have hWw13:=hWw12.trans (hbw13.mono hWw12.size)
      clear hbw13
      obtain ⟨t0,t1,t2,t3,t4,t5,t6,q0,q1,q2,q3,q4⟩:=hS.out _ hWw13
      have hc:=hSn.out _ hWw13
      cases bS with
      | false =>
       go_wp2_with fail
       refine hc.mono ?_
       clear hc
       rintro e w14 ⟨rfl,hbw14⟩
       have hWw14:=hWw13.trans (hbw14.mono hWw13.size)
       clear hbw14
       obtain ⟨t0,t1,t2,t3,t4,t5,t6,q0,q1,q2,q3,q4⟩:=hS.out _ hWw14
       have HB:Hid (V=false):=tZ10
       go_wp2_with fail
       go_ret
       exact ⟨by rw [HB.out];rfl,HB2.out.trans (hWw14.mono tZ6)⟩
      | true =>
       go_wp2_with fail
       refine hc.mono ?_
       clear hc
       rintro e w14 ⟨rfl,hbw14⟩
       have hWw14:=hWw13.trans (hbw14.mono hWw13.size)
       clear hbw14
       obtain ⟨t0,t1,t2,t3,t4,t5,t6,q0,q1,q2,q3,q4⟩:=hS.out _ hWw14
       have HO:Hid (V=originP all xp xo):=tZ10
       as_aux_lemma =>
        by_cases ho:xo=[]
        ·subst ho
         have HE:Hid (V=true):=by show _=_;rw [HO.out];rfl
         go_wp2_with fail
         go_ret
         exact ⟨by rw [HE.out];rfl,HB2.out.trans (hWw14.mono tZ6)⟩
        ·have ho1:(xo == [])=false:=by simpa using ho
         have ho2:xo.isEmpty=false:=by cases xo <;> simp_all
         have HE:Hid (V=match splitL xo with
          | none=>false
          | some (p,n)=>!(p == xp) && match all.find? (fun x=>x.path == p) with
           | none=>false
           | some x=>x.snaps.l.any fun y=>y.nm == n):=tZ84
         have hc:=hSp.out _ hWw14
         clear ho HO HV
         rcases splitV_cases xo with ⟨h1,h2⟩ | ⟨p,m,h1,h2,h3,h4⟩
         ·rw [h2] at hc
          rw [h1] at HE
          clear h1 h2
          go_wp2_with fail
          refine (hc).mono ?_
          rintro e w21 ⟨rfl,hb21⟩
          have hWw21:=hWw14.trans (hb21.mono hWw14.size)
          exact mZ192
         ·rw [h2] at hc
          rw [h1] at HE
          clear h1 h2
          have HE:Hid (V=(!(p == xp) && match all.find? (fun x=>x.path == p) with
           | none=>false
           | some x=>x.snaps.l.any fun y=>y.nm == m)):=HE
          go_wp2_with fail
          refine (hc).mono ?_
          rintro e w21 ⟨rfl,hb21⟩
          have hWw21:=hWw14.trans (hb21.mono hWw14.size)
          exact mZ191
 ·have hpe:parB xp=some (upL xp):=by
   exact mZ96
  obtain ⟨z,hz⟩:∃ z,z=findS all (upL xp):=⟨_,rfl⟩
  have hF:z<0∨0≤z:=tZ1
  have hFi:=Lib.hid (fun W hb=>hFd.out (upL xp) W hb)
  obtain ⟨HF1,HF2⟩:=HFL.out _ hpe
  have HVU:Hid (V=(bPa && ((all.any fun y=>y.path == upL xp) && (bB && (bP && (bS && originP all xp xo)))))):=by
   show _=_
   rw [HV0.out,hpe]
  rw [← hz] at hFi HF1 HF2
  have hpt:bPa=true:=HPA.out.trans hpb
  subst hpt
  obtain ⟨up,hup⟩:∃ u,u=upL xp:=⟨_,rfl⟩
  rw [← hup] at hFi HF1 HF2 HVU ⊢
  have hc:=hPa.out _ hb4
  obtain ⟨t0,t1,t2,t3,t4,t5,t6,q0,q1,q2,q3,q4⟩:=hS.out _ hb4
  clear HV0 HFL HPA hne hpb hpe hz hup hPa
  as_aux_lemma =>
   go_wp2_with fail
   refine (hc).mono ?_
   rintro e w5 ⟨rfl,hb5⟩
   have hWw5:=hb4.trans (hb5.mono hb4.size)
   clear hb5
   obtain ⟨t0,t1,t2,t3,t4,t5,t6,q0,q1,q2,q3,q4⟩:=hS.out _ hWw5
   clear hc
   have hc:=hFi.out _ hWw5
   go_wp2_with fail
   refine (hc).mono ?_
   rintro e w6 ⟨rfl,hb6⟩
   have hWw6:=hWw5.trans (hb6.mono hWw5.size)
   clear hb6
   obtain ⟨t0,t1,t2,t3,t4,t5,t6,q0,q1,q2,q3,q4⟩:=hS.out _ hWw6
   clear hc
   rcases hF with hF | hF
   ·have HV:Hid (V=false):=by show _=_;rw [HVU.out,HF1 hF];rfl
    clear HF1 HF2 HVU
    go_wp2_with fail
    go_ret
    exact ⟨by rw [HV.out];rfl,HB2.out.trans (hWw6.mono tZ6)⟩
   ·have HV:Hid (V=(bB && (bP && (bS && originP all xp xo)))):=by show _=_;rw [HVU.out,HF2 hF];rfl
    clear HF1 HF2 HVU
    have hc:=hBk.out _ hWw6
    cases bB with
    | false =>
     rw [if_neg tZ4] at hc
     go_wp2_with fail
     refine hc.mono ?_
     clear hc
     rintro e w11 ⟨rfl,hbw11⟩
     have hWw11:=hWw6.trans (hbw11.mono hWw6.size)
     exact mZ188
    | true =>
     rw [if_pos rfl] at hc
     go_wp2_with fail
     refine hc.mono ?_
     clear hc
     rintro e w11 ⟨rfl,hbw11⟩
     have hWw11:=hWw6.trans (hbw11.mono hWw6.size)
     clear hbw11
     obtain ⟨t0,t1,t2,t3,t4,t5,t6,q0,q1,q2,q3,q4⟩:=hS.out _ hWw11
     have hc:=hPr.out _ hWw11
     cases bP with
     | false =>
      exact mZ189
     | true =>
      rw [if_pos rfl] at hc
      go_wp2_with fail
      refine hc.mono ?_
      clear hc
      rintro e w12 ⟨rfl,hbw12⟩
      have hWw12:=hWw11.trans (hbw12.mono hWw11.size)
      clear hbw12
      obtain ⟨t0,t1,t2,t3,t4,t5,t6,q0,q1,q2,q3,q4⟩:=hS.out _ hWw12
      have hc:=hSn.out _ hWw12
      cases bS with
      | false =>
       exact mZ190
      | true =>
       go_wp2_with fail
       refine hc.mono ?_
       clear hc
       rintro e w13 ⟨rfl,hbw13⟩
       have hWw13:=hWw12.trans (hbw13.mono hWw12.size)
       clear hbw13
       obtain ⟨t0,t1,t2,t3,t4,t5,t6,q0,q1,q2,q3,q4⟩:=hS.out _ hWw13
       have HO:Hid (V=originP all xp xo):=tZ10
       as_aux_lemma =>
        by_cases ho:xo=[]
        ·subst ho
         have HE:Hid (V=true):=by show _=_;rw [HO.out];rfl
         go_wp2_with fail
         go_ret
         exact ⟨by rw [HE.out];rfl,HB2.out.trans (hWw13.mono tZ6)⟩
        ·have ho1:(xo == [])=false:=by simpa using ho
         have ho2:xo.isEmpty=false:=by cases xo <;> simp_all
         have HE:Hid (V=match splitL xo with
          | none=>false
          | some (p,n)=>!(p == xp) && match all.find? (fun x=>x.path == p) with
           | none=>false
           | some x=>x.snaps.l.any fun y=>y.nm == n):=tZ84
         have hc:=hSp.out _ hWw13
         clear ho HO HV
         rcases splitV_cases xo with ⟨h1,h2⟩ | ⟨p,m,h1,h2,h3,h4⟩
         ·rw [h2] at hc
          rw [h1] at HE
          clear h1 h2
          go_wp2_with fail
          refine (hc).mono ?_
          rintro e w21 ⟨rfl,hb21⟩
          have hWw21:=hWw13.trans (hb21.mono hWw13.size)
          exact mZ192
         ·rw [h2] at hc
          rw [h1] at HE
          clear h1 h2
          have HE:Hid (V=(!(p == xp) && match all.find? (fun x=>x.path == p) with
           | none=>false
           | some x=>x.snaps.l.any fun y=>y.nm == m)):=HE
          go_wp2_with fail
          refine (hc).mono ?_
          rintro e w21 ⟨rfl,hb21⟩
          have hWw21:=hWw13.trans (hb21.mono hWw13.size)
          exact mZ191
end Go.Proofs.YtiojfffgiejibaaGreatDoor
namespace Go.Proofs.YtiojfffgiejibaaGreatDoor
open Go.RowKit
set_option maxRecDepth 100000 in
set_option maxHeartbeats 4000000 in
theorem refGrants_any (l:GL) (n:Nat) (hnl:n=l.length) (A:Option Addr) (c:Nat) (w:World) (B:Nat) (hr:Reads w B 3 A n (gcells l)) (hB:B≤w.heap.size) (hn:n≤5000000000000) (hv:lenG l) :
  Calls Tryz.prog 114 #[.slice A n c] w fun e w'=>e=.returned (.int .i64 (grantsE l))∧Below w.heap.size w w':=by
 have HN:=Lib.hid hnl
 obtain ⟨E,hE⟩:∃ E,E=grantsE l:=⟨_,rfl⟩
 have hPE:Hid (∀ b,grantsFrom none l=b→E=if b=true∧n≤16 then 0 else 9):=by
  show ∀ b,_→_
  rintro b rfl
  rw [hE]
  unfold grantsE grantsB
  rw [← hnl]
  by_cases h8:n≤16
  ·simp [h8]
  ·simp [h8]
 rw [← hE]
 clear hnl hE
 go_enter Tryz.func114,Tryz.ntmps114
 go_wp2_with fail
 go_loopw [3] (fun j wr=>∃ k:Nat,k≤n∧j=.int .i64 (k:Int)∧Hid (grantsFrom none l=grantsFrom (prevG l k) (l.drop k))∧Below w.heap.size w wr) (fun j _=>n-(intOf j).toNat)
 case atStart=>exact ⟨0,Nat.zero_le _,rfl,rfl,Below.refl _ _⟩
 case round =>
  obtain ⟨k,hk,rfl,hok,hbw⟩:=hrel
  by_cases hlt:k<n
  ·have hrw:=hr.below (hbw.mono hB)
   obtain ⟨ad,rfl,hadB,c0,c1,c2⟩:=hrw.el3 HN.out hlt
   have hki:(k:Int)<(n:Int):=tZ1
   have hkl:k<l.length:=tZ9
   obtain ⟨x,hx⟩:∃ x,x=l[k]'hkl:=⟨_,rfl⟩
   have hxl:=hv x tZ12
   rw [← hx] at c0 c1 c2
   have hdr:=List.drop_eq_getElem_cons hkl
   rw [← hx] at hdr
   have HX:=Lib.hid hx
   have HDR:=Lib.hid hdr
   obtain ⟨xu,xp,xz⟩:=x
   simp only at c0 c1 c2 hxl
   have hb1:=hbw.alloc hbw.size (.cells #[.string ⟨xu.toArray⟩,.string ⟨xp.toArray⟩,.int .i64 xz] 104)
   have hbad:Hid ((nameB xu=false∨pathB xp=false∨xz<1∨255<xz∨(∃ y,prevG l k=some y∧¬ cmpG y.1 y.2.1 xu xp<0))→E=9):=by
    exact mZ101
   have hgood:Hid (nameB xu=true→pathB xp=true→1≤xz→xz≤255→(∀ y,prevG l k=some y→cmpG y.1 y.2.1 xu xp<0)→grantsFrom none l=grantsFrom (prevG l (k+1)) (l.drop (k+1))):=by
    exact mZ100
   have hN:∀ W,Calls Tryz.prog 79 #[.string ⟨xu.toArray⟩] W fun e W'=>e=.returned (.bool (nameB xu))∧W'=W:=fun W=>refName_s ⟨xu.toArray⟩ W (by show xu.length≤_;omega)
   have hV:∀ W,Calls Tryz.prog 75 #[.string ⟨xp.toArray⟩] W fun e W'=>e=.returned (.bool (pathB xp))∧Below W.heap.size W W':=fun W=>refPath_any ⟨xp.toArray⟩ W tZ133
   have hwlt:wr.heap.size<(wr.alloc (.cells #[.string ⟨xu.toArray⟩,.string ⟨xp.toArray⟩,.int .i64 xz] 104)).heap.size:=tZ3
   have k0:=(Blk.new wr 104 #[.string ⟨xu.toArray⟩,.string ⟨xp.toArray⟩,.int .i64 xz]).cell 0
   have k1:=(Blk.new wr 104 #[.string ⟨xu.toArray⟩,.string ⟨xp.toArray⟩,.int .i64 xz]).cell 1
   have k2:=(Blk.new wr 104 #[.string ⟨xu.toArray⟩,.string ⟨xp.toArray⟩,.int .i64 xz]).cell 2
   have hbsz:=hbw.size
   have hS:=Lib.hid (fun (W':World) (hB':Below (wr.alloc (.cells #[.string ⟨xu.toArray⟩,.string ⟨xp.toArray⟩,.int .i64 xz] 104)).heap.size (wr.alloc (.cells #[.string ⟨xu.toArray⟩,.string ⟨xp.toArray⟩,.int .i64 xz] 104)) W') =>
    (⟨(hB'.cell (p:=⟨wr.heap.size,0,none⟩) hwlt).trans k0,(hB'.cell (p:=⟨wr.heap.size,1,none⟩) hwlt).trans k1,(hB'.cell (p:=⟨wr.heap.size,2,none⟩) hwlt).trans k2,hr.below ((hbw.alloc hbw.size (.cells #[.string ⟨xu.toArray⟩,.string ⟨xp.toArray⟩,.int .i64 xz] 104)).trans (hB'.mono (Nat.le_trans hbsz (Nat.le_of_lt hwlt))) |>.mono hB)⟩ :
     W'.cell? ⟨wr.heap.size,0,none⟩=some (.string ⟨xu.toArray⟩)∧W'.cell? ⟨wr.heap.size,1,none⟩=some (.string ⟨xp.toArray⟩)∧W'.cell? ⟨wr.heap.size,2,none⟩=some (.int .i64 xz)∧Reads W' B 3 (some ad) n (gcells l)))
   clear hx hdr hok hxl hv k0 k1 k2
   obtain ⟨bn,hbn0⟩:∃ b,b=nameB xu:=⟨_,rfl⟩
   obtain ⟨bp,hbp0⟩:∃ b,b=pathB xp:=⟨_,rfl⟩
   rw [← hbn0] at hbad hgood hN
   rw [← hbp0] at hbad hgood hV
   clear hbn0 hbp0
   cases bn with
   | false =>
    have HB:=Lib.hid (hbad.out (.inl rfl))
    clear hr hrw hbad hgood hV hS
    go_wp2_with fail
    refine (hN _).mono ?_
    rintro e w4 ⟨rfl,rfl⟩
    go_wp2_with fail
    go_ret
    exact ⟨by rw [HB.out];rfl,hb1⟩
   | true =>
    cases bp with
    | false =>
     have HB:=Lib.hid (hbad.out (.inr (.inl rfl)))
     exact mZ193
    | true =>
     by_cases z1:xz<1
     ·have HB:=Lib.hid (hbad.out (.inr (.inr (.inl z1))))
      exact mZ193
     by_cases z2:255<xz
     ·have HB:=Lib.hid (hbad.out (.inr (.inr (.inr (.inl z2)))))
      exact mZ193
     rcases Nat.eq_zero_or_pos k with h0 | h0
     ·have HG:=Lib.hid (hgood.out rfl rfl tZ1 tZ1 (fun y hy=>by subst h0;cases hy))
      have d4:decide ((0:Int)<(k:Int))=false:=tZ7
      have d4':decide (0<k)=false:=tZ7
      clear h0 hr hrw hbad hgood
      go_wp2_with fail
      refine (hN _).mono ?_
      rintro e w4 ⟨rfl,rfl⟩
      go_wp2_with fail
      refine (hV _).mono ?_
      rintro e w5 ⟨rfl,hb5⟩
      have hbf:=hb1.trans (hb5.mono hb1.size)
      obtain ⟨q0,q1,q2,hprev⟩:=hS.out _ hb5
      clear hS hb5 hb1
      clear hprev
      go_wp2_with fail
      go_big_quiet (fail)
      exact mZ194
     ·have d4:decide ((0:Int)<(k:Int))=true:=tZ7
      have d4':decide (0<k)=true:=tZ7
      have hk1l:k-1<l.length:=tZ1
      obtain ⟨y,hy⟩:∃ y,y=l[k-1]'hk1l:=⟨_,rfl⟩
      have hpv:prevG l k=some y:=by
       exact mZ99
      have i1:(1:Int)≤(k:Int):=tZ1
      have i2:(k:Int)-1<(n:Int):=tZ1
      have i3:IntKind.i64.wrap ((k:Int)-1)=(k:Int)-1:=IntWalk.i64_in _ tZ1
      have i4:((k:Int)-1).toNat=k-1:=tZ1
      have HP:Hid (∀ W',Reads W' B 3 (some ad) n (gcells l)→W'.cell? (ad.add ((k-1)*3))=some (.string ⟨y.1.toArray⟩)∧W'.cell? ⟨(ad.add ((k-1)*3)).block,(ad.add ((k-1)*3)).off+1,none⟩=some (.string ⟨y.2.1.toArray⟩)):=by
       show ∀ W',_→_
       intro W' hr'
       obtain ⟨ad2,e2,-,p0,p1,-⟩:=(hr'.el3 HN.out (i:=k-1) tZ1)
       injection e2 with e2
       subst e2
       rw [← hy] at p0 p1
       exact ⟨p0,p1⟩
      obtain ⟨yu,yp,yz⟩:=y
      simp only at HP
      have hgt:=gtrS 9 yu xu
      have hge:=geqS 9 yp xp
      have hbadO:=fun (h:¬ cmpG yu yp xu xp<0)=>hbad.out (.inr (.inr (.inr (.inr ⟨_,hpv,h⟩))))
      have hgoodO:=fun (h:cmpG yu yp xu xp<0)=>hgood.out rfl rfl tZ1 tZ1 (fun y' hy'=>by rw [hpv] at hy';cases hy';exact h)
      clear hbad hgood h0 hpv hy hr hrw
      by_cases hyx:yu=xu
      ·subst hyx
       rw [show (Op.bytesLess yu yu || yu == yu)=true by simp] at hgt
       by_cases hpp:Op.bytesLess yp xp=true
       ·have HG:=Lib.hid (hgoodO ((cmpG_neg _ _ _ _).2 (.inr ⟨rfl,hpp⟩)))
        rw [hpp] at hge
        clear hbadO hgoodO hpp
        go_wp2_with fail
        refine (hN _).mono ?_
        rintro e w4 ⟨rfl,rfl⟩
        go_wp2_with fail
        refine (hV _).mono ?_
        rintro e w5 ⟨rfl,hb5⟩
        have hbf:=hb1.trans (hb5.mono hb1.size)
        obtain ⟨q0,q1,q2,hprev⟩:=hS.out _ hb5
        clear hS hb5 hb1
        obtain ⟨p0,p1⟩:=HP.out _ hprev
        clear hprev
        go_wp2_with fail
        go_big_quiet (fail)
        clear hgt hge
        exact mZ194
       ·have HB:=Lib.hid (hbadO (fun h=>by
         rcases (cmpG_neg _ _ _ _).1 h with h | h
         ·rw [bl_irrefl] at h;cases h
         ·exact hpp h.2))
        rw [show Op.bytesLess yp xp=false by simpa using hpp] at hge
        clear hbadO hgoodO hpp
        go_wp2_with fail
        refine (hN _).mono ?_
        rintro e w4 ⟨rfl,rfl⟩
        go_wp2_with fail
        refine (hV _).mono ?_
        rintro e w5 ⟨rfl,hb5⟩
        have hbf:=hb1.trans (hb5.mono hb1.size)
        obtain ⟨q0,q1,q2,hprev⟩:=hS.out _ hb5
        clear hS hb5 hb1
        obtain ⟨p0,p1⟩:=HP.out _ hprev
        clear hprev
        go_wp2_with fail
        go_big_quiet (fail)
        clear hgt hge
        go_wp2_with fail
        go_ret
        exact ⟨by rw [HB.out];rfl,below_drewN hbf _⟩
      ·have hne:(yu == xu)=false:=by simpa using hyx
       by_cases hbl:Op.bytesLess yu xu=true
       ·have HG:=Lib.hid (hgoodO ((cmpG_neg _ _ _ _).2 (.inl hbl)))
        rw [show (Op.bytesLess yu xu || yu == xu)=true by rw [hbl];rfl] at hgt
        clear hbadO hgoodO hbl hge
        go_wp2_with fail
        refine (hN _).mono ?_
        rintro e w4 ⟨rfl,rfl⟩
        go_wp2_with fail
        refine (hV _).mono ?_
        rintro e w5 ⟨rfl,hb5⟩
        have hbf:=hb1.trans (hb5.mono hb1.size)
        obtain ⟨q0,q1,q2,hprev⟩:=hS.out _ hb5
        clear hS hb5 hb1
        obtain ⟨p0,p1⟩:=HP.out _ hprev
        clear hprev
        go_wp2_with fail
        go_big_quiet (fail)
        clear hgt
        exact mZ194
       ·have HB:=Lib.hid (hbadO (fun h=>by
         rcases (cmpG_neg _ _ _ _).1 h with h | h
         ·exact hbl h
         ·exact hyx h.1))
        rw [show (Op.bytesLess yu xu || yu == xu)=false by rw [hne,show Op.bytesLess yu xu=false by simpa using hbl];rfl] at hgt
        clear hbadO hgoodO hbl hge
        go_wp2_with fail
        refine (hN _).mono ?_
        rintro e w4 ⟨rfl,rfl⟩
        go_wp2_with fail
        refine (hV _).mono ?_
        rintro e w5 ⟨rfl,hb5⟩
        have hbf:=hb1.trans (hb5.mono hb1.size)
        obtain ⟨q0,q1,q2,hprev⟩:=hS.out _ hb5
        clear hS hb5 hb1
        obtain ⟨p0,p1⟩:=HP.out _ hprev
        clear hprev
        go_wp2_with fail
        go_big_quiet (fail)
        clear hgt
        go_wp2_with fail
        go_ret
        exact ⟨by rw [HB.out];rfl,below_drewN hbf _⟩
  ·have hkn:k=n:=tZ1
   have hF:Hid (E=if n≤16 then 0 else 9):=by
    exact mZ86
   clear hok hr hkn hPE
   by_cases h8:n≤16
   ·have hi8:¬ (16:Int)<(n:Int):=tZ1
    have HV:Hid (E=0):=tZ138
    clear hF
    go_wp2_with fail
    go_ret
    exact ⟨by rw [HV.out];rfl,hbw⟩
   ·have hi8:(16:Int)<(n:Int):=tZ1
    have HV:Hid (E=9):=tZ139
    clear hF
    go_wp2_with fail
    go_ret
    exact ⟨by rw [HV.out];rfl,hbw⟩
end Go.Proofs.YtiojfffgiejibaaGreatDoor
