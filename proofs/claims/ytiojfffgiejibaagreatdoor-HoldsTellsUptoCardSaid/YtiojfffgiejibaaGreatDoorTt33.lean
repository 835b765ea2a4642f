/-
  The page's set, by its contract. 'copy' at elements of several cells into a row that is known whole; the plain facts of what slices.Insert and slices.Delete make of a row.
-/
import Derived.Test.YtiojfffgiejibaaGreatDoorTtM1
import Derived.WalkKit
import Derived.WalkSpells
import Derived.Below
import Derived.Laws.OwnMore
import Derived.Deep.AppendLies
import Derived.Deep.Draws
import Derived.Laws.Rows
import Derived.Maps.AppendAt
import Derived.RegionTactic
import Derived.OwnWalk
import Derived.Deep.QuietTactic
import Derived.BigQuiet
import Derived.Lib.Hide
import Derived.Laws.CopyOwn
import Derived.IntWalk
import Derived.Test.YtiojfffgiejibaaGreatDoorRows
import Derived.Handy
import Derived.Deep.Quiet
import Derived.Orders
import Derived.Lib.SplitLaws
import Derived.Lib.LastIndexByte
import Derived.Lib.Strings
import Derived.ShutString
import Derived.Sort.Walk0
import Derived.Sort.KeysCollected
import Derived.Shelf.Strings.Search1
import Derived.Shelf.Strings.Search2
import Derived.Shelf.Strings.Search3
import Derived.Shelf.Strings.Cut
import Derived.Shelf.Strings.Count
import Derived.Shelf.LaysM
import Derived.Shelf.Strings.Shaped
import Derived.Shelf.Strings.LastIndex
import Derived.Shelf.Strings.Split
import Derived.Shelf.Strings.SplitShaped
import Derived.Shelf.Unicode.Decode
import Derived.Shelf.Strings.RuneCount
import Derived.Shelf.Strings.Explode
import Derived.Shelf.Unicode.DecodeSlow
import Derived.Shelf.Slices.Turned
import Derived.Test.YtiojfffgiejibaaGreatDoorProg
import Derived.Laws.BytesString
import Derived.Laws.IdiomStrings
import Derived.Lib.ConvBytes
import Derived.Deep.MidRow
import Derived.Lib.Overlaps
import Derived.Lib.AppendZerosOnto
import Derived.Deep.RegionLaw
import Derived.Test.YtiojfffgiejibaaGreatDoorT0
import Derived.Test.YtiojfffgiejibaaGreatDoorTt1
import Derived.Test.YtiojfffgiejibaaGreatDoorTt2
import Derived.Test.YtiojfffgiejibaaGreatDoorTt3
import Derived.Test.YtiojfffgiejibaaGreatDoorTt5
import Derived.Test.YtiojfffgiejibaaGreatDoorTt6
import Derived.Test.YtiojfffgiejibaaGreatDoorTt7
import Derived.Test.YtiojfffgiejibaaGreatDoorTt10
import Derived.Test.YtiojfffgiejibaaGreatDoorTt12
import Derived.Test.YtiojfffgiejibaaGreatDoorTt14
import Derived.Test.YtiojfffgiejibaaGreatDoorTt25
import Derived.Test.YtiojfffgiejibaaGreatDoorTt27
import Derived.Test.YtiojfffgiejibaaGreatDoorTt29
namespace Go.Proofs.YtiojfffgiejibaaGreatDoor
open Go.RowKit
set_option maxRecDepth 100000 in
set_option maxHeartbeats 8000000 in
theorem refSet_any (v0 v1 v2 v4 v5 v6:Value) (all:List SetR) (n:Nat) (hnl:n=all.length) (A:Option Addr) (c:Nat) (x:SetR) (w:World) (B:Nat) (hr:Reads w B 5 A n (cellsK encSet all)) (he:∀ y∈all,y.rd w B) (hxr:x.rd w B) (hB:B≤w.heap.size) (hn:n≤1000000000000) (hv:∀ y∈all,y.sz) (hxs:x.sz) :
  Calls Tryz.prog 115 #[.agg #[v0,v1,v2,.slice A n c,v4,v5,v6],.agg #[.string ⟨x.path.toArray⟩,.string ⟨x.org.toArray⟩,.slice x.body.A x.body.n x.body.c,.slice x.snaps.A x.snaps.n x.snaps.c,.slice x.own.A x.own.n x.own.c]] w fun e w'=>e=.returned (.bool (setB all x))∧Below w.heap.size w w':=by
 have hb1:=(Below.refl w.heap.size w).alloc (Nat.le_refl _) (.cells #[v0,v1,v2,.slice A n c,v4,v5,v6] 27)
 have hb2:=hb1.alloc hb1.size (.cells #[.string ⟨x.path.toArray⟩,.string ⟨x.org.toArray⟩,.slice x.body.A x.body.n x.body.c,.slice x.snaps.A x.snaps.n x.snaps.c,.slice x.own.A x.own.n x.own.c] 56)
 have k1:=(Blk.new w 27 #[v0,v1,v2,.slice A n c,v4,v5,v6]).alloc (.cells #[.string ⟨x.path.toArray⟩,.string ⟨x.org.toArray⟩,.slice x.body.A x.body.n x.body.c,.slice x.snaps.A x.snaps.n x.snaps.c,.slice x.own.A x.own.n x.own.c] 56)
 have k2:=Blk.new (w.alloc (.cells #[v0,v1,v2,.slice A n c,v4,v5,v6] 27)) 56 #[.string ⟨x.path.toArray⟩,.string ⟨x.org.toArray⟩,.slice x.body.A x.body.n x.body.c,.slice x.snaps.A x.snaps.n x.snaps.c,.slice x.own.A x.own.n x.own.c]
 rw [show (w.alloc (.cells #[v0,v1,v2,.slice A n c,v4,v5,v6] 27)).heap.size=w.heap.size+1 by simp] at k2
 obtain ⟨W2,hW2⟩:∃ W,W=(w.alloc (.cells #[v0,v1,v2,.slice A n c,v4,v5,v6] 27)).alloc (.cells #[.string ⟨x.path.toArray⟩,.string ⟨x.org.toArray⟩,.slice x.body.A x.body.n x.body.c,.slice x.snaps.A x.snaps.n x.snaps.c,.slice x.own.A x.own.n x.own.c] 56):=⟨_,rfl⟩
 have hsz:W2.heap.size=w.heap.size+2:=tZ34
 rw [← hW2] at hb2 k1 k2
 have hS:=Lib.hid (fun (W':World) (hB':Below W2.heap.size W2 W') =>
  (⟨(k1.below hB' tZ1).cell 0,(k1.below hB' tZ1).cell 1,(k1.below hB' tZ1).cell 2,(k1.below hB' tZ1).cell 3,(k1.below hB' tZ1).cell 4,(k1.below hB' tZ1).cell 5,(k1.below hB' tZ1).cell 6,(k2.below hB' tZ1).cell 0,(k2.below hB' tZ1).cell 1,(k2.below hB' tZ1).cell 2,(k2.below hB' tZ1).cell 3,(k2.below hB' tZ1).cell 4⟩ :
   W'.cell? ⟨w.heap.size,0,none⟩=some v0∧W'.cell? ⟨w.heap.size,1,none⟩=some v1∧W'.cell? ⟨w.heap.size,2,none⟩=some v2∧W'.cell? ⟨w.heap.size,3,none⟩=some (.slice A n c)∧W'.cell? ⟨w.heap.size,4,none⟩=some v4∧W'.cell? ⟨w.heap.size,5,none⟩=some v5∧W'.cell? ⟨w.heap.size,6,none⟩=some v6∧W'.cell? ⟨w.heap.size+1,0,none⟩=some (.string ⟨x.path.toArray⟩)∧W'.cell? ⟨w.heap.size+1,1,none⟩=some (.string ⟨x.org.toArray⟩)∧W'.cell? ⟨w.heap.size+1,2,none⟩=some (.slice x.body.A x.body.n x.body.c)∧W'.cell? ⟨w.heap.size+1,3,none⟩=some (.slice x.snaps.A x.snaps.n x.snaps.c)∧W'.cell? ⟨w.heap.size+1,4,none⟩=some (.slice x.own.A x.own.n x.own.c)))
 have HSZ:=Lib.hid hsz
 have HB2:=Lib.hid hb2
 have HNL:=Lib.hid hnl
 have hrd:∀ (y:SetR),y.rd w B→∀ W',Below W2.heap.size W2 W'→y.rd W' B:=fun y hy W' hB'=>⟨hy.body.below ((hb2.trans (hB'.mono tZ1)).mono hB),hy.snaps.below ((hb2.trans (hB'.mono tZ1)).mono hB),fun z hz=>⟨(hy.each z hz).body.below ((hb2.trans (hB'.mono tZ1)).mono hB),(hy.each z hz).tags.below ((hb2.trans (hB'.mono tZ1)).mono hB),(hy.each z hz).own.below ((hb2.trans (hB'.mono tZ1)).mono hB)⟩,hy.own.below ((hb2.trans (hB'.mono tZ1)).mono hB)⟩
 have hR:=Lib.hid (fun (W':World) (hB':Below W2.heap.size W2 W')=>(⟨hr.below ((hb2.trans (hB'.mono tZ1)).mono hB),hB'.size,fun y hy=>hrd y (he y hy) W' hB'⟩:Reads W' B 5 A n (cellsK encSet all)∧W2.heap.size≤W'.heap.size∧∀ y∈all,y.rd W' B))
 have HVS:=Lib.hid hv
 have hPn:Hid (∀ W,Below W2.heap.size W2 W→Calls Tryz.prog 92 #[.string ⟨x.path.toArray⟩] W fun e W'=>Below W.heap.size W W'∧((x.path=[]∨pathB x.path=false)∧e=.returned (.tuple #[.string ⟨#[]⟩,.bool false])∨x.path≠[]∧pathB x.path=true∧e=.returned (.tuple #[.string ⟨(upL x.path).toArray⟩,.bool true]))):=fun W _ =>
  refParent_any ⟨x.path.toArray⟩ W tZ64
 have hPa:Hid (∀ W,Below W2.heap.size W2 W→Calls Tryz.prog 75 #[.string ⟨x.path.toArray⟩] W fun e W'=>e=.returned (.bool (pathB x.path))∧Below W.heap.size W W'):=fun W _=>refPath_any ⟨x.path.toArray⟩ W tZ64
 have hFd:Hid (∀ (p:BS) W,Below W2.heap.size W2 W→Calls Tryz.prog 33 #[.agg #[v0,v1,v2,.slice A n c,v4,v5,v6],.string ⟨p.toArray⟩] W fun e W'=>e=.returned (.int .i64 (findS all p))∧Below W.heap.size W W'):=fun p W hb =>
  refFind_any v0 v1 v2 v4 v5 v6 all n HNL.out A c p W B (hR.out _ hb).1 tZ19 tZ1
 have hBk:Hid (∀ W,Below W2.heap.size W2 W→Calls Tryz.prog 153 #[.slice x.body.A x.body.n x.body.c] W fun e W'=>e=.returned (.int .i64 (if okL x.body.l=true then 0 else 9))∧Below W.heap.size W W'):=fun W hb =>
  refCheckB_any x.body.l x.body.n (hrd x hxr W hb).body.1 x.body.A x.body.c W B (hrd x hxr W hb).body.2.2 hxs.body
 have hPr:Hid (∀ W,Below W2.heap.size W2 W→Calls Tryz.prog 154 #[.slice x.own.A x.own.n x.own.c] W fun e W'=>e=.returned (.int .i64 (if propsB x.own.l=true then 0 else 9))∧Below W.heap.size W W'):=fun W hb =>
  refPropsB_any x.own.l x.own.n (hrd x hxr W hb).own.1 x.own.A x.own.c W B (hrd x hxr W hb).own.2.2 hxs.own hxs.props
 have hSn:Hid (∀ W,Below W2.heap.size W2 W→Calls Tryz.prog 155 #[.slice x.snaps.A x.snaps.n x.snaps.c] W fun e W'=>e=.returned (.bool (snapsB x.snaps.l))∧Below W.heap.size W W'):=fun W hb =>
  refSnaps_any x.snaps.l x.snaps.n (hrd x hxr W hb).snaps.1 x.snaps.A x.snaps.c W B (hrd x hxr W hb).snaps.2.2 (hrd x hxr W hb).each tZ19 hxs.snaps hxs.each
 have hSp:Hid (∀ W,Below W2.heap.size W2 W→Calls Tryz.prog 104 #[.string ⟨x.org.toArray⟩] W fun e W'=>e=.returned (splitV x.org)∧Below W.heap.size W W'):=fun W _=>refSplit_any ⟨x.org.toArray⟩ W (by show x.org.length≤_;exact hxs.org)
 have HV0:Hid (setB all x=(pathB x.path && ((match parB x.path with | none=>true | some u=>all.any fun y=>y.path == u) && (okL x.body.l && (propsB x.own.l && (snapsB x.snaps.l && originP all x.path x.org)))))):=by
  show _=_
  rw [setB_eq]
  cases parB x.path with
  | none =>
   simp only
   generalize pathB x.path=a1
   generalize okL x.body.l=a3
   generalize propsB x.own.l=a4
   generalize snapsB x.snaps.l=a5
   generalize originP all x.path x.org=a6
   cases a1 <;> cases a3 <;> cases a4 <;> cases a5 <;> cases a6 <;> rfl
  | some u =>
   simp only
   generalize pathB x.path=a1
   generalize (all.any fun y=>y.path == u)=a2
   generalize okL x.body.l=a3
   generalize propsB x.own.l=a4
   generalize snapsB x.snaps.l=a5
   generalize originP all x.path x.org=a6
   cases a1 <;> cases a2 <;> cases a3 <;> cases a4 <;> cases a5 <;> cases a6 <;> rfl
 have HFL:Hid (∀ u,parB x.path=some u→(findS all u<0→(all.any fun y=>y.path == u)=false)∧(0≤findS all u→(all.any fun y=>y.path == u)=true)):=by
  show ∀ u,_→_
  intro u _
  have:=firstI_any (fun y:SetR=>y.path == u) all
  rw [← this]
  exact ⟨fun h=>decide_eq_false (by show ¬ (0:Int)≤findS all u;omega),fun h=>decide_eq_true h⟩
 obtain ⟨V,hV⟩:∃ V,V=setB all x:=⟨_,rfl⟩
 rw [← hV] at HV0 ⊢
 obtain ⟨xp,xo,⟨b1,b2,b3,bl⟩,⟨s1,s2,s3,sl⟩,⟨o1,o2,o3,ol⟩⟩:=x
 simp only at hW2 hS hPn hPa hBk hPr hSn hSp HV0 HFL ⊢
 obtain ⟨bPa,hbPa⟩:∃ b,b=pathB xp:=⟨_,rfl⟩
 obtain ⟨bB,hbB⟩:∃ b,b=okL bl:=⟨_,rfl⟩
 obtain ⟨bP,hbP⟩:∃ b,b=propsB ol:=⟨_,rfl⟩
 obtain ⟨bS,hbS⟩:∃ b,b=snapsB sl:=⟨_,rfl⟩
 rw [← hbPa] at HV0 hPa
 rw [← hbB] at HV0 hBk
 rw [← hbP] at HV0 hPr
 rw [← hbS] at HV0 hSn
 have HPA:=Lib.hid hbPa
 clear hV hbPa hbB hbP hbS hb1 hb2 k1 k2 hsz hnl hr he hxr hv hxs hrd
 have hW0:=Below.refl W2.heap.size W2
 have hpn:=hPn.out _ hW0
 clear hPn
 go_enter Tryz.func115,Tryz.ntmps115
 go_wp2_with fail
 rw [← hW2]
 clear hW2
 refine hpn.mono ?_
 clear hpn
 rintro e w4 ⟨hb4,⟨hpar,rfl⟩ | ⟨hne,hpb,rfl⟩⟩
 ·have HV:Hid (V=(bPa && (bB && (bP && (bS && originP all xp xo))))):=by
   show _=_
   rw [HV0.out]
   unfold parB
   rw [if_pos hpar]
   simp
  clear HV0 HFL hpar HPA
  as_aux_lemma =>
   obtain ⟨t0,t1,t2,t3,t4,t5,t6,q0,q1,q2,q3,q4⟩:=hS.out _ hb4
   have hc:=hPa.out _ hb4
   cases bPa with
   | false =>
    go_wp2_with fail
    refine hc.mono ?_
    clear hc
    rintro e w11 ⟨rfl,hbw11⟩
    have hWw11:=hb4.trans (hbw11.mono hb4.size)
    exact mZ174
   | true =>
    go_wp2_with fail
    refine hc.mono ?_
    clear hc
    rintro e w11 ⟨rfl,hbw11⟩
    have hWw11:=hb4.trans (hbw11.mono hb4.size)
    clear hbw11
    obtain ⟨t0,t1,t2,t3,t4,t5,t6,q0,q1,q2,q3,q4⟩:=hS.out _ hWw11
    have hc:=hBk.out _ hWw11
    cases bB with
    | false =>
     exact mZ175
    | true =>
     rw [if_pos rfl] at hc
     go_wp2_with fail
     refine hc.mono ?_
     clear hc
     rintro e w12 ⟨rfl,hbw12⟩
     have hWw12:=hWw11.trans (hbw12.mono hWw11.size)
     clear hbw12
     obtain ⟨t0,t1,t2,t3,t4,t5,t6,q0,q1,q2,q3,q4⟩:=hS.out _ hWw12
     have hc:=hPr.out _ hWw12
     cases bP with
     | false =>
      rw [if_neg tZ3] at hc
      exact mZ176
     | true =>
      rw [if_pos rfl] at hc
      go_wp2_with fail
      refine hc.mono ?_
      clear hc
      rintro e w13 ⟨rfl,hbw13⟩
      have hWw13:=hWw12.trans (hbw13.mono hWw12.size)
      clear hbw13
      obtain ⟨t0,t1,t2,t3,t4,t5,t6,q0,q1,q2,q3,q4⟩:=hS.out _ hWw13
      have hc:=hSn.out _ hWw13
      cases bS with
      | false =>
       go_wp2_with fail
       refine hc.mono ?_
       clear hc
       rintro e w14 ⟨rfl,hbw14⟩
       have hWw14:=hWw13.trans (hbw14.mono hWw13.size)
       clear hbw14
       obtain ⟨t0,t1,t2,t3,t4,t5,t6,q0,q1,q2,q3,q4⟩:=hS.out _ hWw14
       have HB:Hid (V=false):=tZ13
       go_wp2_with fail
       go_ret
       exact ⟨by rw [HB.out];rfl,HB2.out.trans (hWw14.mono tZ6)⟩
      | true =>
       go_wp2_with fail
       refine hc.mono ?_
       clear hc
       rintro e w14 ⟨rfl,hbw14⟩
       have hWw14:=hWw13.trans (hbw14.mono hWw13.size)
       clear hbw14
       obtain ⟨t0,t1,t2,t3,t4,t5,t6,q0,q1,q2,q3,q4⟩:=hS.out _ hWw14
       have HO:Hid (V=originP all xp xo):=tZ13
       as_aux_lemma =>
        by_cases ho:xo=[]
        ·subst ho
         have HE:Hid (V=true):=by show _=_;rw [HO.out];rfl
         go_wp2_with fail
         go_ret
         exact ⟨by rw [HE.out];rfl,HB2.out.trans (hWw14.mono tZ6)⟩
        ·have ho1:(xo == [])=false:=by simpa using ho
         have ho2:xo.isEmpty=false:=by cases xo <;> simp_all
         have HE:Hid (V=match splitL xo with
          | none=>false
          | some (p,n)=>!(p == xp) && match all.find? (fun x=>x.path == p) with
           | none=>false
           | some x=>x.snaps.l.any fun y=>y.nm == n):=tZ100
         have hc:=hSp.out _ hWw14
         clear ho HO HV
         rcases splitV_cases xo with ⟨h1,h2⟩ | ⟨p,m,h1,h2,h3,h4⟩
         ·rw [h2] at hc
          rw [h1] at HE
          clear h1 h2
          go_wp2_with fail
          refine (hc).mono ?_
          rintro e w21 ⟨rfl,hb21⟩
          have hWw21:=hWw14.trans (hb21.mono hWw14.size)
          exact mZ178
         ·rw [h2] at hc
          rw [h1] at HE
          clear h1 h2
          have HE:Hid (V=(!(p == xp) && match all.find? (fun x=>x.path == p) with
           | none=>false
           | some x=>x.snaps.l.any fun y=>y.nm == m)):=HE
          go_wp2_with fail
          refine (hc).mono ?_
          rintro e w21 ⟨rfl,hb21⟩
          have hWw21:=hWw14.trans (hb21.mono hWw14.size)
          exact mZ177
 ·have hpe:parB xp=some (upL xp):=by
   unfold parB
   rw [if_neg (by rw [hpb];simp [hne])]
  obtain ⟨z,hz⟩:∃ z,z=findS all (upL xp):=⟨_,rfl⟩
  have hF:z<0∨0≤z:=tZ1
  have hFi:=Lib.hid (fun W hb=>hFd.out (upL xp) W hb)
  obtain ⟨HF1,HF2⟩:=HFL.out _ hpe
  have HVU:Hid (V=(bPa && ((all.any fun y=>y.path == upL xp) && (bB && (bP && (bS && originP all xp xo)))))):=by
   show _=_
   rw [HV0.out,hpe]
  rw [← hz] at hFi HF1 HF2
  have hpt:bPa=true:=HPA.out.trans hpb
  subst hpt
  obtain ⟨up,hup⟩:∃ u,u=upL xp:=⟨_,rfl⟩
  rw [← hup] at hFi HF1 HF2 HVU ⊢
  have hc:=hPa.out _ hb4
  obtain ⟨t0,t1,t2,t3,t4,t5,t6,q0,q1,q2,q3,q4⟩:=hS.out _ hb4
  clear HV0 HFL HPA hne hpb hpe hz hup hPa
  as_aux_lemma =>
   go_wp2_with fail
   refine (hc).mono ?_
   rintro e w5 ⟨rfl,hb5⟩
   have hWw5:=hb4.trans (hb5.mono hb4.size)
   clear hb5
   obtain ⟨t0,t1,t2,t3,t4,t5,t6,q0,q1,q2,q3,q4⟩:=hS.out _ hWw5
   clear hc
   have hc:=hFi.out _ hWw5
   go_wp2_with fail
   refine (hc).mono ?_
   rintro e w6 ⟨rfl,hb6⟩
   have hWw6:=hWw5.trans (hb6.mono hWw5.size)
   clear hb6
   obtain ⟨t0,t1,t2,t3,t4,t5,t6,q0,q1,q2,q3,q4⟩:=hS.out _ hWw6
   clear hc
   rcases hF with hF | hF
   ·have HV:Hid (V=false):=by show _=_;rw [HVU.out,HF1 hF];rfl
    clear HF1 HF2 HVU
    go_wp2_with fail
    go_ret
    exact ⟨by rw [HV.out];rfl,HB2.out.trans (hWw6.mono tZ6)⟩
   ·have HV:Hid (V=(bB && (bP && (bS && originP all xp xo)))):=by show _=_;rw [HVU.out,HF2 hF];rfl
    clear HF1 HF2 HVU
    have hc:=hBk.out _ hWw6
    cases bB with
    | false =>
     rw [if_neg tZ3] at hc
     go_wp2_with fail
     refine hc.mono ?_
     clear hc
     rintro e w11 ⟨rfl,hbw11⟩
     have hWw11:=hWw6.trans (hbw11.mono hWw6.size)
     exact mZ174
    | true =>
     rw [if_pos rfl] at hc
     go_wp2_with fail
     refine hc.mono ?_
     clear hc
     rintro e w11 ⟨rfl,hbw11⟩
     have hWw11:=hWw6.trans (hbw11.mono hWw6.size)
     clear hbw11
     obtain ⟨t0,t1,t2,t3,t4,t5,t6,q0,q1,q2,q3,q4⟩:=hS.out _ hWw11
     have hc:=hPr.out _ hWw11
     cases bP with
     | false =>
      exact mZ175
     | true =>
      rw [if_pos rfl] at hc
      go_wp2_with fail
      refine hc.mono ?_
      clear hc
      rintro e w12 ⟨rfl,hbw12⟩
      have hWw12:=hWw11.trans (hbw12.mono hWw11.size)
      clear hbw12
      obtain ⟨t0,t1,t2,t3,t4,t5,t6,q0,q1,q2,q3,q4⟩:=hS.out _ hWw12
      have hc:=hSn.out _ hWw12
      cases bS with
      | false =>
       exact mZ176
      | true =>
       go_wp2_with fail
       refine hc.mono ?_
       clear hc
       rintro e w13 ⟨rfl,hbw13⟩
       have hWw13:=hWw12.trans (hbw13.mono hWw12.size)
       clear hbw13
       obtain ⟨t0,t1,t2,t3,t4,t5,t6,q0,q1,q2,q3,q4⟩:=hS.out _ hWw13
       have HO:Hid (V=originP all xp xo):=tZ13
       as_aux_lemma =>
        by_cases ho:xo=[]
        ·subst ho
         have HE:Hid (V=true):=by show _=_;rw [HO.out];rfl
         go_wp2_with fail
         go_ret
         exact ⟨by rw [HE.out];rfl,HB2.out.trans (hWw13.mono tZ6)⟩
        ·have ho1:(xo == [])=false:=by simpa using ho
         have ho2:xo.isEmpty=false:=by cases xo <;> simp_all
         have HE:Hid (V=match splitL xo with
          | none=>false
          | some (p,n)=>!(p == xp) && match all.find? (fun x=>x.path == p) with
           | none=>false
           | some x=>x.snaps.l.any fun y=>y.nm == n):=tZ100
         have hc:=hSp.out _ hWw13
         clear ho HO HV
         rcases splitV_cases xo with ⟨h1,h2⟩ | ⟨p,m,h1,h2,h3,h4⟩
         ·rw [h2] at hc
          rw [h1] at HE
          clear h1 h2
          go_wp2_with fail
          refine (hc).mono ?_
          rintro e w21 ⟨rfl,hb21⟩
          have hWw21:=hWw13.trans (hb21.mono hWw13.size)
          exact mZ178
         ·rw [h2] at hc
          rw [h1] at HE
          clear h1 h2
          have HE:Hid (V=(!(p == xp) && match all.find? (fun x=>x.path == p) with
           | none=>false
           | some x=>x.snaps.l.any fun y=>y.nm == m)):=HE
          go_wp2_with fail
          refine (hc).mono ?_
          rintro e w21 ⟨rfl,hb21⟩
          have hWw21:=hWw13.trans (hb21.mono hWw13.size)
          exact mZ177
end Go.Proofs.YtiojfffgiejibaaGreatDoor
namespace Go.Proofs.YtiojfffgiejibaaGreatDoor
open Go.RowKit
section
variable {P:Program}
theorem run_copy_rowK (w:World) (dT sT ty elem:TypeId) (k:Nat) (g o dLen dCap:Nat) (a:Addr) (sLen sCap m:Nat) (cur:Array Value) (t:TypeId) (cs:List Value)
  (hu:P.underlying dT=some (.slice elem)) (hs:(P.info? elem).map (·.size)=some k)
  (hg:w.heap[g]?=some (.cells cur t (0,0))) (hm:m=Nat.min sLen dLen) (hn:cs.length=m*k)
  (hsrc:∀ j v,cs[j]?=some v→w.cell? (a.add j)=some v) (hfit:o+cs.length≤cur.size) (h1:∀ v∈cs,v.oneCell'=true) :
  (Builtin.copy_ #[dT,sT] ty #[.slice (some ⟨g,o,none⟩) dLen dCap,.slice (some a) sLen sCap]).run P w =
   .ok (goInt m) (w.setRow g (cur.toList.take o++cs++cur.toList.drop (o+cs.length)).toArray):=by
 have hl:=run_loadCells_list (P:=P) w a cs hsrc
 have hst:=run_storeCells_at P g o t cs 0 cur w hg (by simpa using hfit) h1
 cases hq:P.info? elem with
 | none=>simp [hq] at hs
 | some i =>
  have hi:i.size=k:=by simpa [hq] using hs
  simp [Builtin.copy_,run_underlying hu,Builtin.lenOf,Builtin.firstCells,sizeOf,typeInfo,hq,hi,← hm,← hn,hl,hst]
theorem grown_setRow {w:World} {g:Nat} (cs:Array Value):w.grownBy (w.setRow g cs) (some g) :=
 ⟨rfl,rfl,rfl,by simp [World.setRow],fun k hk hne=>setRow_other w g k cs (by intro e;exact hne (by rw [e]))⟩
theorem grown_drew {w w':World} {r:Option Nat} (h:w.drew.grownBy w' r):w.grownBy w' r:=⟨h.os,h.tape,h.output,h.size,h.block⟩
theorem wp_copyK {o:Oper} {a:Act} {w:World} {K:Act→World→Prop} {Q:Exit→Act→World→Prop} (d s:Operand) (dT sT:TypeId)
  (ho:o.op=.call { callee:=.builtin .copy,args:=#[d,s],argTypes:=#[dT,sT] }) (elem:TypeId) (k:Nat) (hu:P.underlying dT=some (.slice elem)) (hsz:(P.info? elem).map (·.size)=some k)
  (g off dLen dCap:Nat) (ad:Addr) (sLen sCap m:Nat) (hd:a.eval d=.slice (some ⟨g,off,none⟩) dLen dCap) (hs:a.eval s=.slice (some ad) sLen sCap)
  (cur:List Value) (t:TypeId) (hg:w.heap[g]?=some (.cells cur.toArray t (0,0))) (cs:List Value) (hm:m=Nat.min sLen dLen) (hn:cs.length=m*k)
  (hsrc:∀ j v,cs[j]?=some v→w.cell? (ad.add j)=some v) (hfit:off+cs.length≤cur.length) (h1:∀ v∈cs,v.oneCell'=true)
  (h:∀ w',Hid (w'.heap[g]?=some (.cells (splice cur off cs).toArray t (0,0)))→w.grownBy w' (some g)→K (a.put o.dst (goInt m)) w'):o.wp P a w K Q:=by
 have hrun:=run_copy_rowK (P:=P) w dT sT o.type elem k g off dLen dCap ad sLen sCap m cur.toArray t cs hu hsz hg hm hn hsrc (by simpa using hfit) h1
 unfold Oper.wp
 simp [execOp,ho,resolve,invoke,builtin,hd,hs,hrun,Result.andThen]
 exact h _ (show _=_ by simpa [splice] using setRow_heap w g _ _ t _ hg) (grown_setRow _)
theorem wpList_copyK {w:World} {ops:Array Oper} {rest:List Oper} {o:Oper} {a:Act} {Q:Exit→Act→World→Prop} (hgd:o.guard=none) (d s:Operand) (dT sT:TypeId)
  (ho:o.op=.call { callee:=.builtin .copy,args:=#[d,s],argTypes:=#[dT,sT] }) (elem:TypeId) (k:Nat) (hu:P.underlying dT=some (.slice elem)) (hsz:(P.info? elem).map (·.size)=some k)
  (g off dLen dCap:Nat) (ad:Addr) (sLen sCap m:Nat) (hd:a.eval d=.slice (some ⟨g,off,none⟩) dLen dCap) (hs:a.eval s=.slice (some ad) sLen sCap)
  (cur:List Value) (t:TypeId) (hg:w.heap[g]?=some (.cells cur.toArray t (0,0))) (cs:List Value) (hm:m=Nat.min sLen dLen) (hn:cs.length=m*k)
  (hsrc:∀ j v,cs[j]?=some v→w.cell? (ad.add j)=some v) (hfit:off+cs.length≤cur.length) (h1:∀ v∈cs,v.oneCell'=true)
  (h:∀ w',Hid (w'.heap[g]?=some (.cells (splice cur off cs).toArray t (0,0)))→w.grownBy w' (some g)→wpList P ops Q rest (a.put o.dst (goInt m)) w'):wpList P ops Q (o :: rest) a w :=
 wpList_plain hgd fun _ hK=>wp_copyK d s dT sT ho elem k hu hsz g off dLen dCap ad sLen sCap m hd hs cur t hg cs hm hn hsrc hfit h1 (fun w' h1 h2=>hK _ _ (h w' h1 h2))
theorem step_copyK {ops:Array Oper} {o:Oper} {a:Act} {w:World} {K:Act→World→Prop} {Q:Exit→Act→World→Prop} {E:Prop} (hgd:o.guard=none) (d s:Operand) (dT sT:TypeId)
  (ho:o.op=.call { callee:=.builtin .copy,args:=#[d,s],argTypes:=#[dT,sT] }) (elem:TypeId) (k:Nat) (hu:P.underlying dT=some (.slice elem)) (hsz:(P.info? elem).map (·.size)=some k)
  (g off dLen dCap:Nat) (ad:Addr) (sLen sCap m:Nat) (hd:a.eval d=.slice (some ⟨g,off,none⟩) dLen dCap) (hs:a.eval s=.slice (some ad) sLen sCap)
  (cur:List Value) (t:TypeId) (hg:w.heap[g]?=some (.cells cur.toArray t (0,0))) (cs:List Value) (hm:m=Nat.min sLen dLen) (hn:cs.length=m*k)
  (hsrc:∀ j v,cs[j]?=some v→w.cell? (ad.add j)=some v) (hfit:off+cs.length≤cur.length) (h1:∀ v∈cs,v.oneCell'=true)
  (h:∀ w',Hid (w'.heap[g]?=some (.cells (splice cur off cs).toArray t (0,0)))→w.grownBy w' (some g)→K (a.put o.dst (goInt m)) w') :
  if Region.wanted o (yielded ops a.tmps)=true then Oper.wp P o a w K Q else E:=by
 have hw:Region.wanted o (yielded ops a.tmps)=true:=tZ127
 rw [if_pos hw]
 exact wp_copyK d s dT sT ho elem k hu hsz g off dLen dCap ad sLen sCap m hd hs cur t hg cs hm hn hsrc hfit h1 h
end
/-! ### what becomes of a row -/
theorem take_shift {cur xs N:List Value} {a b c:Nat} (hx:cur.take c=xs) (ha:a≤c) (hN:N.length=b) (hl:c+b≤cur.length) :
  (splice (splice cur (a+b) (xs.drop a)) a N).take (c+b)=xs.take a++N++xs.drop a:=by
 have hxl:xs.length=c:=tZ89
 have e1:splice cur (a+b) (xs.drop a)=cur.take (a+b)++(xs.drop a++cur.drop (c+b)):=by
  unfold splice
  rw [List.length_drop,hxl,show a+b+(c-a)=c+b by omega]
 have e2:(splice cur (a+b) (xs.drop a)).take a=xs.take a:=by
  rw [e1,List.take_append_of_le_length tZ77,List.take_take,Nat.min_eq_left tZ1,← hx,List.take_take,Nat.min_eq_left ha]
 have e3:(splice cur (a+b) (xs.drop a)).drop (a+N.length)=xs.drop a++cur.drop (c+b):=by
  rw [e1,hN,List.drop_append_of_le_length tZ77,List.drop_eq_nil_of_le tZ77,List.nil_append]
 have e4:splice (splice cur (a+b) (xs.drop a)) a N=(xs.take a++N++xs.drop a)++cur.drop (c+b):=by
  show _++(N++_)=_
  rw [e2,e3]
  simp
 rw [e4,List.take_append_of_le_length tZ7,List.take_of_length_le tZ7]
theorem take_grow {ROW X1 N X2:List Value} {a b c:Nat} (h1:ROW.take a=X1) (ha:X1.length=a) (hN:N.length=b) (h2:X2.length=c) :
  (splice (splice ROW a N) (a+b) X2).take (a+b+c)=X1++N++X2:=by
 have e1:splice ROW a N=(X1++N)++ROW.drop (a+b):=by
  show _++(N++_)=_
  rw [h1,hN];simp
 have e2:splice (splice ROW a N) (a+b) X2=(X1++N++X2)++(ROW.drop (a+b)).drop c:=by
  show _++(X2++_)=_
  rw [e1,h2,List.take_append_of_le_length tZ7,List.take_of_length_le tZ7,List.drop_append,List.drop_eq_nil_of_le tZ7,List.nil_append]
  simp only [List.length_append,ha,hN]
  rw [show a+b+c-(a+b)=c by omega]
  simp
 rw [e2,List.take_append_of_le_length tZ7,List.take_of_length_le tZ7]
theorem own_of_row {w:World} {base g n cap sz:Nat} {E:TypeId} {cur:List Value} {xs:List Value} (hg:w.heap[g]?=some (.cells cur.toArray E (0,0))) (hb:base≤g) (hn:n≤cap) (hm:cap≤maxLen) (hl:cur.length=cap*sz) (hx:cur.take (n*sz)=xs) :
  w.ownsRow base E sz (.slice (some ⟨g,0,none⟩) n cap) n xs:=by
 refine ⟨?_,.inr ⟨g,cap,cur.toArray,rfl,hb,hg,hn,hm,by simpa using hl,by simpa using hx⟩⟩
 rw [← hx,List.length_take,hl]
 exact Nat.min_eq_left (Nat.mul_le_mul_right _ hn)
theorem grown_fresh {w W w':World} {k:Nat} {r:Option Nat} (h:w.grownBy W r) (h2:W.grownBy w' (some k)) (hk:w.heap.size≤k):w.grownBy w' r :=
 ⟨h2.os.trans h.os,h2.tape.trans h.tape,h2.output.trans h.output,Nat.le_trans h.size h2.size,fun j hj hne=>(h2.block j (Nat.lt_of_lt_of_le hj h.size) (by intro e;injection e with e;omega)).trans (h.block j hj hne)⟩
theorem heap_lt {w:World} {g:Nat} {o:Obj} (h:w.heap[g]?=some o):g<w.heap.size:=(Array.getElem?_eq_some_iff.1 h).1
theorem shape_of {w:World} {g:Nat} {cs:Array Value} {t:TypeId} (h:w.heap[g]?=some (.cells cs t (0,0))):w.shape? g=some (t,cs.size):=by simp [World.shape?,h]
end Go.Proofs.YtiojfffgiejibaaGreatDoor
