/-
  The page's set, by its contract. A drawn region whose operations read and make memory, with one store at an operation S, behind which only operations stand that look at no memory.
-/
import Derived.WalkKit
import Derived.WalkSpells
import Derived.Below
import Derived.Laws.OwnMore
import Derived.Deep.AppendLies
import Derived.Deep.Draws
import Derived.Laws.Rows
import Derived.Maps.AppendAt
import Derived.RegionTactic
import Derived.OwnWalk
import Derived.Deep.QuietTactic
import Derived.BigQuiet
import Derived.Lib.Hide
import Derived.Laws.CopyOwn
import Derived.IntWalk
import Derived.Test.YtcgclpcocdappaaGreatDoorRows
import Derived.Handy
import Derived.Deep.Quiet
import Derived.Orders
import Derived.Lib.SplitLaws
import Derived.Lib.LastIndexByte
import Derived.Lib.Strings
import Derived.ShutString
import Derived.Sort.Walk0
import Derived.Sort.KeysCollected
import Derived.Shelf.Strings.Search1
import Derived.Shelf.Strings.Search2
import Derived.Shelf.Strings.Search3
import Derived.Shelf.Strings.Cut
import Derived.Shelf.Strings.Count
import Derived.Shelf.LaysM
import Derived.Shelf.Strings.Shaped
import Derived.Shelf.Strings.LastIndex
import Derived.Shelf.Strings.Split
import Derived.Shelf.Strings.SplitShaped
import Derived.Shelf.Unicode.Decode
import Derived.Shelf.Strings.RuneCount
import Derived.Shelf.Strings.Explode
import Derived.Shelf.Unicode.DecodeSlow
import Derived.Test.YtcgclpcocdappaaGreatDoorProg
import Derived.Laws.BytesString
import Derived.Laws.IdiomStrings
import Derived.Lib.ConvBytes
import Derived.Deep.MidRow
import Derived.Test.YtcgclpcocdappaaGreatDoorG0
import Derived.Test.YtcgclpcocdappaaGreatDoorGg1
import Derived.Test.YtcgclpcocdappaaGreatDoorGg2
import Derived.Test.YtcgclpcocdappaaGreatDoorGg3
import Derived.Test.YtcgclpcocdappaaGreatDoorGg5
import Derived.Test.YtcgclpcocdappaaGreatDoorGg6
import Derived.Test.YtcgclpcocdappaaGreatDoorGg7
import Derived.Test.YtcgclpcocdappaaGreatDoorGg9
import Derived.Test.YtcgclpcocdappaaGreatDoorGg10
import Derived.Test.YtcgclpcocdappaaGreatDoorGg11
import Derived.Test.YtcgclpcocdappaaGreatDoorGg12
import Derived.Test.YtcgclpcocdappaaGreatDoorGg15
import Derived.Test.YtcgclpcocdappaaGreatDoorGg22
import Derived.Test.YtcgclpcocdappaaGreatDoorGg24
import Derived.Test.YtcgclpcocdappaaGreatDoorGg26
namespace Go.Proofs.YtcgclpcocdappaaGreatDoor
open Go.RowKit
set_option maxRecDepth 100000 in
set_option maxHeartbeats 8000000 in
theorem refSet_any (v0 v1 v2 v4 v5 v6:Value) (all:List SetR) (n:Nat) (hnl:n=all.length) (A:Option Addr) (c:Nat) (x:SetR) (w:World) (B:Nat) (hr:Reads w B 5 A n (cellsK encSet all)) (he:∀ y∈all,y.rd w B) (hxr:x.rd w B) (hB:B≤w.heap.size) (hn:n≤1000000000000) (hv:∀ y∈all,y.sz) (hxs:x.sz) :
  Calls Tryz.prog 66 #[.agg #[v0,v1,v2,.slice A n c,v4,v5,v6],.agg #[.string ⟨x.path.toArray⟩,.string ⟨x.org.toArray⟩,.slice x.body.A x.body.n x.body.c,.slice x.snaps.A x.snaps.n x.snaps.c,.slice x.own.A x.own.n x.own.c]] w fun e w'=>e=.returned (.bool (setB all x))∧Below w.heap.size w w':=by
 have hb1:=(Below.refl w.heap.size w).alloc (Nat.le_refl _) (.cells #[v0,v1,v2,.slice A n c,v4,v5,v6] 27)
 have hb2:=hb1.alloc hb1.size (.cells #[.string ⟨x.path.toArray⟩,.string ⟨x.org.toArray⟩,.slice x.body.A x.body.n x.body.c,.slice x.snaps.A x.snaps.n x.snaps.c,.slice x.own.A x.own.n x.own.c] 42)
 have k1:=(Blk.new w 27 #[v0,v1,v2,.slice A n c,v4,v5,v6]).alloc (.cells #[.string ⟨x.path.toArray⟩,.string ⟨x.org.toArray⟩,.slice x.body.A x.body.n x.body.c,.slice x.snaps.A x.snaps.n x.snaps.c,.slice x.own.A x.own.n x.own.c] 42)
 have k2:=Blk.new (w.alloc (.cells #[v0,v1,v2,.slice A n c,v4,v5,v6] 27)) 42 #[.string ⟨x.path.toArray⟩,.string ⟨x.org.toArray⟩,.slice x.body.A x.body.n x.body.c,.slice x.snaps.A x.snaps.n x.snaps.c,.slice x.own.A x.own.n x.own.c]
 rw [show (w.alloc (.cells #[v0,v1,v2,.slice A n c,v4,v5,v6] 27)).heap.size=w.heap.size+1 by simp] at k2
 obtain ⟨W2,hW2⟩:∃ W,W=(w.alloc (.cells #[v0,v1,v2,.slice A n c,v4,v5,v6] 27)).alloc (.cells #[.string ⟨x.path.toArray⟩,.string ⟨x.org.toArray⟩,.slice x.body.A x.body.n x.body.c,.slice x.snaps.A x.snaps.n x.snaps.c,.slice x.own.A x.own.n x.own.c] 42):=⟨_,rfl⟩
 have hsz:W2.heap.size=w.heap.size+2:=by rw [hW2];simp
 rw [← hW2] at hb2 k1 k2
 have hS:=Lib.hid (fun (W':World) (hB':Below W2.heap.size W2 W') =>
  (⟨(k1.below hB' (by omega)).cell 0,(k1.below hB' (by omega)).cell 1,(k1.below hB' (by omega)).cell 2,(k1.below hB' (by omega)).cell 3,(k1.below hB' (by omega)).cell 4,(k1.below hB' (by omega)).cell 5,(k1.below hB' (by omega)).cell 6,(k2.below hB' (by omega)).cell 0,(k2.below hB' (by omega)).cell 1,(k2.below hB' (by omega)).cell 2,(k2.below hB' (by omega)).cell 3,(k2.below hB' (by omega)).cell 4⟩ :
   W'.cell? ⟨w.heap.size,0,none⟩=some v0∧W'.cell? ⟨w.heap.size,1,none⟩=some v1∧W'.cell? ⟨w.heap.size,2,none⟩=some v2∧W'.cell? ⟨w.heap.size,3,none⟩=some (.slice A n c)∧W'.cell? ⟨w.heap.size,4,none⟩=some v4∧W'.cell? ⟨w.heap.size,5,none⟩=some v5∧W'.cell? ⟨w.heap.size,6,none⟩=some v6∧W'.cell? ⟨w.heap.size+1,0,none⟩=some (.string ⟨x.path.toArray⟩)∧W'.cell? ⟨w.heap.size+1,1,none⟩=some (.string ⟨x.org.toArray⟩)∧W'.cell? ⟨w.heap.size+1,2,none⟩=some (.slice x.body.A x.body.n x.body.c)∧W'.cell? ⟨w.heap.size+1,3,none⟩=some (.slice x.snaps.A x.snaps.n x.snaps.c)∧W'.cell? ⟨w.heap.size+1,4,none⟩=some (.slice x.own.A x.own.n x.own.c)))
 have HSZ:=Lib.hid hsz
 have HB2:=Lib.hid hb2
 have HNL:=Lib.hid hnl
 have hrd:∀ (y:SetR),y.rd w B→∀ W',Below W2.heap.size W2 W'→y.rd W' B:=fun y hy W' hB'=>⟨hy.body.below ((hb2.trans (hB'.mono (by omega))).mono hB),hy.snaps.below ((hb2.trans (hB'.mono (by omega))).mono hB),fun z hz=>⟨(hy.each z hz).body.below ((hb2.trans (hB'.mono (by omega))).mono hB),(hy.each z hz).tags.below ((hb2.trans (hB'.mono (by omega))).mono hB),(hy.each z hz).own.below ((hb2.trans (hB'.mono (by omega))).mono hB)⟩,hy.own.below ((hb2.trans (hB'.mono (by omega))).mono hB)⟩
 have hR:=Lib.hid (fun (W':World) (hB':Below W2.heap.size W2 W')=>(⟨hr.below ((hb2.trans (hB'.mono (by omega))).mono hB),hB'.size,fun y hy=>hrd y (he y hy) W' hB'⟩:Reads W' B 5 A n (cellsK encSet all)∧W2.heap.size≤W'.heap.size∧∀ y∈all,y.rd W' B))
 have HVS:=Lib.hid hv
 have hPn:Hid (∀ W,Below W2.heap.size W2 W→Calls Tryz.prog 133 #[.string ⟨x.path.toArray⟩] W fun e W'=>Below W.heap.size W W'∧((x.path=[]∨pathB x.path=false)∧e=.returned (.tuple #[.string ⟨#[]⟩,.bool false])∨x.path≠[]∧pathB x.path=true∧e=.returned (.tuple #[.string ⟨(upL x.path).toArray⟩,.bool true]))):=fun W _ =>
  refParent_any ⟨x.path.toArray⟩ W (by show x.path.length≤_;exact hxs.path)
 have hPa:Hid (∀ W,Below W2.heap.size W2 W→Calls Tryz.prog 115 #[.string ⟨x.path.toArray⟩] W fun e W'=>e=.returned (.bool (pathB x.path))∧Below W.heap.size W W'):=fun W _=>refPath_any ⟨x.path.toArray⟩ W (by show x.path.length≤_;exact hxs.path)
 have hFd:Hid (∀ (p:BS) W,Below W2.heap.size W2 W→Calls Tryz.prog 10 #[.agg #[v0,v1,v2,.slice A n c,v4,v5,v6],.string ⟨p.toArray⟩] W fun e W'=>e=.returned (.int .i64 (findS all p))∧Below W.heap.size W W'):=fun p W hb =>
  refFind_any v0 v1 v2 v4 v5 v6 all n HNL.out A c p W B (hR.out _ hb).1 (by have:=hb.size;omega) (by omega)
 have hBk:Hid (∀ W,Below W2.heap.size W2 W→Calls Tryz.prog 117 #[.slice x.body.A x.body.n x.body.c] W fun e W'=>e=.returned (.int .i64 (if okL x.body.l=true then 0 else 9))∧Below W.heap.size W W'):=fun W hb =>
  refCheckB_any x.body.l x.body.n (hrd x hxr W hb).body.1 x.body.A x.body.c W B (hrd x hxr W hb).body.2.2 hxs.body
 have hPr:Hid (∀ W,Below W2.heap.size W2 W→Calls Tryz.prog 119 #[.slice x.own.A x.own.n x.own.c] W fun e W'=>e=.returned (.int .i64 (if propsB x.own.l=true then 0 else 9))∧Below W.heap.size W W'):=fun W hb =>
  refPropsB_any x.own.l x.own.n (hrd x hxr W hb).own.1 x.own.A x.own.c W B (hrd x hxr W hb).own.2.2 hxs.own hxs.props
 have hSn:Hid (∀ W,Below W2.heap.size W2 W→Calls Tryz.prog 134 #[.slice x.snaps.A x.snaps.n x.snaps.c] W fun e W'=>e=.returned (.bool (snapsB x.snaps.l))∧Below W.heap.size W W'):=fun W hb =>
  refSnaps_any x.snaps.l x.snaps.n (hrd x hxr W hb).snaps.1 x.snaps.A x.snaps.c W B (hrd x hxr W hb).snaps.2.2 (hrd x hxr W hb).each (by have:=hb.size;omega) hxs.snaps hxs.each
 have hSp:Hid (∀ W,Below W2.heap.size W2 W→Calls Tryz.prog 135 #[.string ⟨x.org.toArray⟩] W fun e W'=>e=.returned (splitV x.org)∧Below W.heap.size W W'):=fun W _=>refSplit_any ⟨x.org.toArray⟩ W (by show x.org.length≤_;exact hxs.org)
 have HV0:Hid (setB all x=(pathB x.path && ((match parB x.path with | none=>true | some u=>all.any fun y=>y.path == u) && (okL x.body.l && (propsB x.own.l && (snapsB x.snaps.l && originP all x.path x.org)))))):=by
  show _=_
  rw [setB_eq]
  cases parB x.path with
  | none =>
   simp only
   generalize pathB x.path=a1
   generalize okL x.body.l=a3
   generalize propsB x.own.l=a4
   generalize snapsB x.snaps.l=a5
   generalize originP all x.path x.org=a6
   cases a1 <;> cases a3 <;> cases a4 <;> cases a5 <;> cases a6 <;> rfl
  | some u =>
   simp only
   generalize pathB x.path=a1
   generalize (all.any fun y=>y.path == u)=a2
   generalize okL x.body.l=a3
   generalize propsB x.own.l=a4
   generalize snapsB x.snaps.l=a5
   generalize originP all x.path x.org=a6
   cases a1 <;> cases a2 <;> cases a3 <;> cases a4 <;> cases a5 <;> cases a6 <;> rfl
 have HFL:Hid (∀ u,parB x.path=some u→(findS all u<0→(all.any fun y=>y.path == u)=false)∧(0≤findS all u→(all.any fun y=>y.path == u)=true)):=by
  show ∀ u,_→_
  intro u _
  have:=firstI_any (fun y:SetR=>y.path == u) all
  rw [← this]
  exact ⟨fun h=>decide_eq_false (by show ¬ (0:Int)≤findS all u;omega),fun h=>decide_eq_true h⟩
 obtain ⟨V,hV⟩:∃ V,V=setB all x:=⟨_,rfl⟩
 rw [← hV] at HV0 ⊢
 obtain ⟨xp,xo,⟨b1,b2,b3,bl⟩,⟨s1,s2,s3,sl⟩,⟨o1,o2,o3,ol⟩⟩:=x
 simp only at hW2 hS hPn hPa hBk hPr hSn hSp HV0 HFL ⊢
 obtain ⟨bPa,hbPa⟩:∃ b,b=pathB xp:=⟨_,rfl⟩
 obtain ⟨bB,hbB⟩:∃ b,b=okL bl:=⟨_,rfl⟩
 obtain ⟨bP,hbP⟩:∃ b,b=propsB ol:=⟨_,rfl⟩
 obtain ⟨bS,hbS⟩:∃ b,b=snapsB sl:=⟨_,rfl⟩
 rw [← hbPa] at HV0 hPa
 rw [← hbB] at HV0 hBk
 rw [← hbP] at HV0 hPr
 rw [← hbS] at HV0 hSn
 have HPA:=Lib.hid hbPa
 clear hV hbPa hbB hbP hbS hb1 hb2 k1 k2 hsz hnl hr he hxr hv hxs hrd
 have hW0:=Below.refl W2.heap.size W2
 have hpn:=hPn.out _ hW0
 clear hPn
 go_enter Tryz.func66,Tryz.ntmps66
 go_wp2_with fail
 rw [← hW2]
 clear hW2
 refine hpn.mono ?_
 clear hpn
 rintro e w4 ⟨hb4,⟨hpar,rfl⟩ | ⟨hne,hpb,rfl⟩⟩
 ·have HV:Hid (V=(bPa && (bB && (bP && (bS && originP all xp xo))))):=by
   show _=_
   rw [HV0.out]
   unfold parB
   rw [if_pos hpar]
   simp
  clear HV0 HFL hpar HPA
  as_aux_lemma =>
   obtain ⟨t0,t1,t2,t3,t4,t5,t6,q0,q1,q2,q3,q4⟩:=hS.out _ hb4
   have hc:=hPa.out _ hb4
   cases bPa with
   | false =>
    go_wp2_with fail
    refine hc.mono ?_
    clear hc
    rintro e w11 ⟨rfl,hbw11⟩
    have hWw11:=hb4.trans (hbw11.mono hb4.size)
    clear hbw11 
    obtain ⟨t0,t1,t2,t3,t4,t5,t6,q0,q1,q2,q3,q4⟩:=hS.out _ hWw11
    have HB:Hid (V=false):=by show _=_;rw [HV.out];rfl
    go_wp2_with fail
    go_ret
    exact ⟨by rw [HB.out];rfl,HB2.out.trans (hWw11.mono (by have:=HSZ.out;omega))⟩
   | true =>
    go_wp2_with fail
    refine hc.mono ?_
    clear hc
    rintro e w11 ⟨rfl,hbw11⟩
    have hWw11:=hb4.trans (hbw11.mono hb4.size)
    clear hbw11 
    obtain ⟨t0,t1,t2,t3,t4,t5,t6,q0,q1,q2,q3,q4⟩:=hS.out _ hWw11
    have hc:=hBk.out _ hWw11
    cases bB with
    | false =>
     rw [if_neg (by decide)] at hc
     go_wp2_with fail
     refine hc.mono ?_
     clear hc
     rintro e w12 ⟨rfl,hbw12⟩
     have hWw12:=hWw11.trans (hbw12.mono hWw11.size)
     clear hbw12 
     obtain ⟨t0,t1,t2,t3,t4,t5,t6,q0,q1,q2,q3,q4⟩:=hS.out _ hWw12
     have HB:Hid (V=false):=by show _=_;rw [HV.out];rfl
     go_wp2_with fail
     go_ret
     exact ⟨by rw [HB.out];rfl,HB2.out.trans (hWw12.mono (by have:=HSZ.out;omega))⟩
    | true =>
     rw [if_pos rfl] at hc
     go_wp2_with fail
     refine hc.mono ?_
     clear hc
     rintro e w12 ⟨rfl,hbw12⟩
     have hWw12:=hWw11.trans (hbw12.mono hWw11.size)
     clear hbw12 
     obtain ⟨t0,t1,t2,t3,t4,t5,t6,q0,q1,q2,q3,q4⟩:=hS.out _ hWw12
     have hc:=hPr.out _ hWw12
     cases bP with
     | false =>
      rw [if_neg (by decide)] at hc
      go_wp2_with fail
      refine hc.mono ?_
      clear hc
      rintro e w13 ⟨rfl,hbw13⟩
      have hWw13:=hWw12.trans (hbw13.mono hWw12.size)
      clear hbw13 
      obtain ⟨t0,t1,t2,t3,t4,t5,t6,q0,q1,q2,q3,q4⟩:=hS.out _ hWw13
      have HB:Hid (V=false):=by show _=_;rw [HV.out];rfl
      go_wp2_with fail
      go_ret
      exact ⟨by rw [HB.out];rfl,HB2.out.trans (hWw13.mono (by have:=HSZ.out;omega))⟩
     | true =>
      rw [if_pos rfl] at hc
      go_wp2_with fail
      refine hc.mono ?_
      clear hc
      rintro e w13 ⟨rfl,hbw13⟩
      have hWw13:=hWw12.trans (hbw13.mono hWw12.size)
      clear hbw13 
      obtain ⟨t0,t1,t2,t3,t4,t5,t6,q0,q1,q2,q3,q4⟩:=hS.out _ hWw13
      have hc:=hSn.out _ hWw13
      cases bS with
      | false =>
       go_wp2_with fail
       refine hc.mono ?_
       clear hc
       rintro e w14 ⟨rfl,hbw14⟩
       have hWw14:=hWw13.trans (hbw14.mono hWw13.size)
       clear hbw14 
       obtain ⟨t0,t1,t2,t3,t4,t5,t6,q0,q1,q2,q3,q4⟩:=hS.out _ hWw14
       have HB:Hid (V=false):=by show _=_;rw [HV.out];rfl
       go_wp2_with fail
       go_ret
       exact ⟨by rw [HB.out];rfl,HB2.out.trans (hWw14.mono (by have:=HSZ.out;omega))⟩
      | true =>
       go_wp2_with fail
       refine hc.mono ?_
       clear hc
       rintro e w14 ⟨rfl,hbw14⟩
       have hWw14:=hWw13.trans (hbw14.mono hWw13.size)
       clear hbw14 
       obtain ⟨t0,t1,t2,t3,t4,t5,t6,q0,q1,q2,q3,q4⟩:=hS.out _ hWw14
       have HO:Hid (V=originP all xp xo):=by show _=_;rw [HV.out];rfl
       as_aux_lemma =>
        by_cases ho:xo=[]
        ·subst ho
         have HE:Hid (V=true):=by show _=_;rw [HO.out];rfl
         go_wp2_with fail
         go_ret
         exact ⟨by rw [HE.out];rfl,HB2.out.trans (hWw14.mono (by have:=HSZ.out;omega))⟩
        ·have ho1:(xo == [])=false:=by simpa using ho
         have ho2:xo.isEmpty=false:=by cases xo <;> simp_all
         have HE:Hid (V=match splitL xo with
          | none=>false
          | some (p,n)=>!(p == xp) && match all.find? (fun x=>x.path == p) with
           | none=>false
           | some x=>x.snaps.l.any fun y=>y.nm == n):=by show _=_;rw [HO.out];unfold originP;rw [ho1];rfl
         have hc:=hSp.out _ hWw14
         clear ho HO HV
         rcases splitV_cases xo with ⟨h1,h2⟩ | ⟨p,m,h1,h2,h3,h4⟩
         ·rw [h2] at hc
          rw [h1] at HE
          clear h1 h2
          go_wp2_with fail
          refine (hc).mono ?_
          rintro e w21 ⟨rfl,hb21⟩
          have hWw21:=hWw14.trans (hb21.mono hWw14.size)
          clear hb21
          obtain ⟨t0,t1,t2,t3,t4,t5,t6,q0,q1,q2,q3,q4⟩:=hS.out _ hWw21
          clear hc
          have hc:=hFd.out [] _ hWw21
          go_wp2_with fail
          refine (hc).mono ?_
          rintro e w22 ⟨rfl,hb22⟩
          have hWw22:=hWw21.trans (hb22.mono hWw21.size)
          clear hb22
          obtain ⟨t0,t1,t2,t3,t4,t5,t6,q0,q1,q2,q3,q4⟩:=hS.out _ hWw22
          go_wp2_with fail
          go_ret
          exact ⟨by rw [HE.out];rfl,HB2.out.trans (hWw22.mono (by have:=HSZ.out;omega))⟩
         ·rw [h2] at hc
          rw [h1] at HE
          clear h1 h2
          have HE:Hid (V=(!(p == xp) && match all.find? (fun x=>x.path == p) with
           | none=>false
           | some x=>x.snaps.l.any fun y=>y.nm == m)):=HE
          go_wp2_with fail
          refine (hc).mono ?_
          rintro e w21 ⟨rfl,hb21⟩
          have hWw21:=hWw14.trans (hb21.mono hWw14.size)
          clear hb21
          obtain ⟨t0,t1,t2,t3,t4,t5,t6,q0,q1,q2,q3,q4⟩:=hS.out _ hWw21
          clear hc
          have hc:=hFd.out p _ hWw21
          obtain ⟨z,hz⟩:∃ z,z=findS all p:=⟨_,rfl⟩
          rw [← hz] at hc
          have HZ:=Lib.hid hz
          clear hz
          go_wp2_with fail
          refine (hc).mono ?_
          rintro e w22 ⟨rfl,hb22⟩
          have hWw22:=hWw21.trans (hb22.mono hWw21.size)
          clear hb22
          obtain ⟨t0,t1,t2,t3,t4,t5,t6,q0,q1,q2,q3,q4⟩:=hS.out _ hWw22
          clear hc
          have HBF:=Lib.hid (HB2.out.trans (hWw22.mono (by have:=HSZ.out;omega)))
          by_cases hps:p=xp
          ·have hpb:(p == xp)=true:=by simpa using hps
           have HE2:Hid (V=false):=by show _=_;rw [HE.out,hpb];rfl
           subst hps
           go_wp2_with fail
           go_ret
           exact ⟨by rw [HE2.out];rfl,HBF.out⟩
          ·have hpb:(p == xp)=false:=by simpa using hps
           have HE2:Hid (V=match all.find? (fun x=>x.path == p) with
            | none=>false
            | some x=>x.snaps.l.any fun y=>y.nm == m):=by show _=_;rw [HE.out,hpb];rfl
           clear hps HE
           rcases firstI_cases (fun x:SetR=>x.path == p) all with ⟨f1,f2⟩ | ⟨k,hk,f1,f2⟩
           ·have hz:z=-1:=HZ.out.trans f1
            rw [f2] at HE2
            subst hz
            clear f1 f2
            go_wp2_with fail
            go_ret
            exact ⟨by rw [HE2.out];rfl,HBF.out⟩
           ·have hz:z=(k:Int):=HZ.out.trans f1
            rw [f2] at HE2
            subst hz
            obtain ⟨r1,r2,r4⟩:=hR.out _ hWw22
            have hkn:k<n:=by have:=HNL.out;omega
            have hki:(k:Int)<(n:Int):=by omega
            obtain ⟨ad,rfl,-,c0,c1,c2,c3,c4⟩:=set_at r1 HNL.out hkn
            obtain ⟨x,hx⟩:∃ x,x=all[k]'hk:=⟨_,rfl⟩
            rw [← hx] at c0 c1 c2 c3 c4 HE2
            have hxm:x∈all:=by rw [hx];exact List.getElem_mem _
            have r5:=(r4 x hxm).snaps
            have hsn:=HVS.out x hxm
            have HC:=Lib.hid (refSnap_any (.string ⟨x.path.toArray⟩) (.string ⟨x.org.toArray⟩) (.slice x.body.A x.body.n x.body.c) (.slice x.own.A x.own.n x.own.c) x.snaps.l x.snaps.n r5.1 x.snaps.A x.snaps.c m w22 B r5.2.2 (by have:=HSZ.out;omega) (by have:=hsn.snaps;omega))
            have HA:=Lib.hid (firstI_any (fun y:SnapR=>y.nm == m) x.snaps.l)
            have HE3:Hid (V=x.snaps.l.any fun y=>y.nm == m):=HE2
            obtain ⟨yp,yo,⟨e1,e2,e3,el⟩,⟨u1,u2,u3,ul⟩,⟨g1,g2,g3,gl⟩⟩:=x
            simp only at c0 c1 c2 c3 c4 HC HA HE3
            clear hx f1 f2 HE2 r1 r2 r4 r5 hsn hxm hR HZ HVS HNL
            go_wp2_with fail
            refine HC.out.mono ?_
            rintro e w23 ⟨rfl,hb23⟩
            have HBG:=Lib.hid (HB2.out.trans ((hWw22.trans (hb23.mono hWw22.size)).mono (by have:=HSZ.out;omega)))
            have HA2:Hid (V=decide ((0:Int)≤findN ul m)):=by show _=_;rw [HE3.out];exact HA.out.symm
            clear c0 c1 c2 c3 c4 hb23 HC HA HE3
            go_wp2_with fail
            go_ret
            exact ⟨by rw [HA2.out];rfl,HBG.out⟩
 ·have hpe:parB xp=some (upL xp):=by
   unfold parB
   rw [if_neg (by rw [hpb];simp [hne])]
  obtain ⟨z,hz⟩:∃ z,z=findS all (upL xp):=⟨_,rfl⟩
  have hF:z<0∨0≤z:=by omega
  have hFi:=Lib.hid (fun W hb=>hFd.out (upL xp) W hb)
  obtain ⟨HF1,HF2⟩:=HFL.out _ hpe
  have HVU:Hid (V=(bPa && ((all.any fun y=>y.path == upL xp) && (bB && (bP && (bS && originP all xp xo)))))):=by
   show _=_
   rw [HV0.out,hpe]
  rw [← hz] at hFi HF1 HF2
  have hpt:bPa=true:=HPA.out.trans hpb
  subst hpt
  obtain ⟨up,hup⟩:∃ u,u=upL xp:=⟨_,rfl⟩
  rw [← hup] at hFi HF1 HF2 HVU ⊢
  have hc:=hPa.out _ hb4
  obtain ⟨t0,t1,t2,t3,t4,t5,t6,q0,q1,q2,q3,q4⟩:=hS.out _ hb4
  clear HV0 HFL HPA hne hpb hpe hz hup hPa
  as_aux_lemma =>
   go_wp2_with fail
   refine (hc).mono ?_
   rintro e w5 ⟨rfl,hb5⟩
   have hWw5:=hb4.trans (hb5.mono hb4.size)
   clear hb5
   obtain ⟨t0,t1,t2,t3,t4,t5,t6,q0,q1,q2,q3,q4⟩:=hS.out _ hWw5
   clear hc
   have hc:=hFi.out _ hWw5
   go_wp2_with fail
   refine (hc).mono ?_
   rintro e w6 ⟨rfl,hb6⟩
   have hWw6:=hWw5.trans (hb6.mono hWw5.size)
   clear hb6
   obtain ⟨t0,t1,t2,t3,t4,t5,t6,q0,q1,q2,q3,q4⟩:=hS.out _ hWw6
   clear hc
   rcases hF with hF | hF
   ·have HV:Hid (V=false):=by show _=_;rw [HVU.out,HF1 hF];rfl
    clear HF1 HF2 HVU
    go_wp2_with fail
    go_ret
    exact ⟨by rw [HV.out];rfl,HB2.out.trans (hWw6.mono (by have:=HSZ.out;omega))⟩
   ·have HV:Hid (V=(bB && (bP && (bS && originP all xp xo)))):=by show _=_;rw [HVU.out,HF2 hF];rfl
    clear HF1 HF2 HVU
    have hc:=hBk.out _ hWw6
    cases bB with
    | false =>
     rw [if_neg (by decide)] at hc
     go_wp2_with fail
     refine hc.mono ?_
     clear hc
     rintro e w11 ⟨rfl,hbw11⟩
     have hWw11:=hWw6.trans (hbw11.mono hWw6.size)
     clear hbw11 
     obtain ⟨t0,t1,t2,t3,t4,t5,t6,q0,q1,q2,q3,q4⟩:=hS.out _ hWw11
     have HB:Hid (V=false):=by show _=_;rw [HV.out];rfl
     go_wp2_with fail
     go_ret
     exact ⟨by rw [HB.out];rfl,HB2.out.trans (hWw11.mono (by have:=HSZ.out;omega))⟩
    | true =>
     rw [if_pos rfl] at hc
     go_wp2_with fail
     refine hc.mono ?_
     clear hc
     rintro e w11 ⟨rfl,hbw11⟩
     have hWw11:=hWw6.trans (hbw11.mono hWw6.size)
     clear hbw11 
     obtain ⟨t0,t1,t2,t3,t4,t5,t6,q0,q1,q2,q3,q4⟩:=hS.out _ hWw11
     have hc:=hPr.out _ hWw11
     cases bP with
     | false =>
      rw [if_neg (by decide)] at hc
      go_wp2_with fail
      refine hc.mono ?_
      clear hc
      rintro e w12 ⟨rfl,hbw12⟩
      have hWw12:=hWw11.trans (hbw12.mono hWw11.size)
      clear hbw12 
      obtain ⟨t0,t1,t2,t3,t4,t5,t6,q0,q1,q2,q3,q4⟩:=hS.out _ hWw12
      have HB:Hid (V=false):=by show _=_;rw [HV.out];rfl
      go_wp2_with fail
      go_ret
      exact ⟨by rw [HB.out];rfl,HB2.out.trans (hWw12.mono (by have:=HSZ.out;omega))⟩
     | true =>
      rw [if_pos rfl] at hc
      go_wp2_with fail
      refine hc.mono ?_
      clear hc
      rintro e w12 ⟨rfl,hbw12⟩
      have hWw12:=hWw11.trans (hbw12.mono hWw11.size)
      clear hbw12 
      obtain ⟨t0,t1,t2,t3,t4,t5,t6,q0,q1,q2,q3,q4⟩:=hS.out _ hWw12
      have hc:=hSn.out _ hWw12
      cases bS with
      | false =>
       go_wp2_with fail
       refine hc.mono ?_
       clear hc
       rintro e w13 ⟨rfl,hbw13⟩
       have hWw13:=hWw12.trans (hbw13.mono hWw12.size)
       clear hbw13 
       obtain ⟨t0,t1,t2,t3,t4,t5,t6,q0,q1,q2,q3,q4⟩:=hS.out _ hWw13
       have HB:Hid (V=false):=by show _=_;rw [HV.out];rfl
       go_wp2_with fail
       go_ret
       exact ⟨by rw [HB.out];rfl,HB2.out.trans (hWw13.mono (by have:=HSZ.out;omega))⟩
      | true =>
       go_wp2_with fail
       refine hc.mono ?_
       clear hc
       rintro e w13 ⟨rfl,hbw13⟩
       have hWw13:=hWw12.trans (hbw13.mono hWw12.size)
       clear hbw13 
       obtain ⟨t0,t1,t2,t3,t4,t5,t6,q0,q1,q2,q3,q4⟩:=hS.out _ hWw13
       have HO:Hid (V=originP all xp xo):=by show _=_;rw [HV.out];rfl
       as_aux_lemma =>
        by_cases ho:xo=[]
        ·subst ho
         have HE:Hid (V=true):=by show _=_;rw [HO.out];rfl
         go_wp2_with fail
         go_ret
         exact ⟨by rw [HE.out];rfl,HB2.out.trans (hWw13.mono (by have:=HSZ.out;omega))⟩
        ·have ho1:(xo == [])=false:=by simpa using ho
         have ho2:xo.isEmpty=false:=by cases xo <;> simp_all
         have HE:Hid (V=match splitL xo with
          | none=>false
          | some (p,n)=>!(p == xp) && match all.find? (fun x=>x.path == p) with
           | none=>false
           | some x=>x.snaps.l.any fun y=>y.nm == n):=by show _=_;rw [HO.out];unfold originP;rw [ho1];rfl
         have hc:=hSp.out _ hWw13
         clear ho HO HV
         rcases splitV_cases xo with ⟨h1,h2⟩ | ⟨p,m,h1,h2,h3,h4⟩
         ·rw [h2] at hc
          rw [h1] at HE
          clear h1 h2
          go_wp2_with fail
          refine (hc).mono ?_
          rintro e w21 ⟨rfl,hb21⟩
          have hWw21:=hWw13.trans (hb21.mono hWw13.size)
          clear hb21
          obtain ⟨t0,t1,t2,t3,t4,t5,t6,q0,q1,q2,q3,q4⟩:=hS.out _ hWw21
          clear hc
          have hc:=hFd.out [] _ hWw21
          go_wp2_with fail
          refine (hc).mono ?_
          rintro e w22 ⟨rfl,hb22⟩
          have hWw22:=hWw21.trans (hb22.mono hWw21.size)
          clear hb22
          obtain ⟨t0,t1,t2,t3,t4,t5,t6,q0,q1,q2,q3,q4⟩:=hS.out _ hWw22
          go_wp2_with fail
          go_ret
          exact ⟨by rw [HE.out];rfl,HB2.out.trans (hWw22.mono (by have:=HSZ.out;omega))⟩
         ·rw [h2] at hc
          rw [h1] at HE
          clear h1 h2
          have HE:Hid (V=(!(p == xp) && match all.find? (fun x=>x.path == p) with
           | none=>false
           | some x=>x.snaps.l.any fun y=>y.nm == m)):=HE
          go_wp2_with fail
          refine (hc).mono ?_
          rintro e w21 ⟨rfl,hb21⟩
          have hWw21:=hWw13.trans (hb21.mono hWw13.size)
          clear hb21
          obtain ⟨t0,t1,t2,t3,t4,t5,t6,q0,q1,q2,q3,q4⟩:=hS.out _ hWw21
          clear hc
          have hc:=hFd.out p _ hWw21
          obtain ⟨z,hz⟩:∃ z,z=findS all p:=⟨_,rfl⟩
          rw [← hz] at hc
          have HZ:=Lib.hid hz
          clear hz
          go_wp2_with fail
          refine (hc).mono ?_
          rintro e w22 ⟨rfl,hb22⟩
          have hWw22:=hWw21.trans (hb22.mono hWw21.size)
          clear hb22
          obtain ⟨t0,t1,t2,t3,t4,t5,t6,q0,q1,q2,q3,q4⟩:=hS.out _ hWw22
          clear hc
          have HBF:=Lib.hid (HB2.out.trans (hWw22.mono (by have:=HSZ.out;omega)))
          by_cases hps:p=xp
          ·have hpb:(p == xp)=true:=by simpa using hps
           have HE2:Hid (V=false):=by show _=_;rw [HE.out,hpb];rfl
           subst hps
           go_wp2_with fail
           go_ret
           exact ⟨by rw [HE2.out];rfl,HBF.out⟩
          ·have hpb:(p == xp)=false:=by simpa using hps
           have HE2:Hid (V=match all.find? (fun x=>x.path == p) with
            | none=>false
            | some x=>x.snaps.l.any fun y=>y.nm == m):=by show _=_;rw [HE.out,hpb];rfl
           clear hps HE
           rcases firstI_cases (fun x:SetR=>x.path == p) all with ⟨f1,f2⟩ | ⟨k,hk,f1,f2⟩
           ·have hz:z=-1:=HZ.out.trans f1
            rw [f2] at HE2
            subst hz
            clear f1 f2
            go_wp2_with fail
            go_ret
            exact ⟨by rw [HE2.out];rfl,HBF.out⟩
           ·have hz:z=(k:Int):=HZ.out.trans f1
            rw [f2] at HE2
            subst hz
            obtain ⟨r1,r2,r4⟩:=hR.out _ hWw22
            have hkn:k<n:=by have:=HNL.out;omega
            have hki:(k:Int)<(n:Int):=by omega
            obtain ⟨ad,rfl,-,c0,c1,c2,c3,c4⟩:=set_at r1 HNL.out hkn
            obtain ⟨x,hx⟩:∃ x,x=all[k]'hk:=⟨_,rfl⟩
            rw [← hx] at c0 c1 c2 c3 c4 HE2
            have hxm:x∈all:=by rw [hx];exact List.getElem_mem _
            have r5:=(r4 x hxm).snaps
            have hsn:=HVS.out x hxm
            have HC:=Lib.hid (refSnap_any (.string ⟨x.path.toArray⟩) (.string ⟨x.org.toArray⟩) (.slice x.body.A x.body.n x.body.c) (.slice x.own.A x.own.n x.own.c) x.snaps.l x.snaps.n r5.1 x.snaps.A x.snaps.c m w22 B r5.2.2 (by have:=HSZ.out;omega) (by have:=hsn.snaps;omega))
            have HA:=Lib.hid (firstI_any (fun y:SnapR=>y.nm == m) x.snaps.l)
            have HE3:Hid (V=x.snaps.l.any fun y=>y.nm == m):=HE2
            obtain ⟨yp,yo,⟨e1,e2,e3,el⟩,⟨u1,u2,u3,ul⟩,⟨g1,g2,g3,gl⟩⟩:=x
            simp only at c0 c1 c2 c3 c4 HC HA HE3
            clear hx f1 f2 HE2 r1 r2 r4 r5 hsn hxm hR HZ HVS HNL
            go_wp2_with fail
            refine HC.out.mono ?_
            rintro e w23 ⟨rfl,hb23⟩
            have HBG:=Lib.hid (HB2.out.trans ((hWw22.trans (hb23.mono hWw22.size)).mono (by have:=HSZ.out;omega)))
            have HA2:Hid (V=decide ((0:Int)≤findN ul m)):=by show _=_;rw [HE3.out];exact HA.out.symm
            clear c0 c1 c2 c3 c4 hb23 HC HA HE3
            go_wp2_with fail
            go_ret
            exact ⟨by rw [HA2.out];rfl,HBG.out⟩
end Go.Proofs.YtcgclpcocdappaaGreatDoor
namespace Go.Proofs.YtcgclpcocdappaaGreatDoor
open Go.RowKit
section
variable {P:Program} {ops:Array Oper}
def ClosedM (ops:Array Oper) (m:Nat→Option Value):Prop:=∀ j o',ops[j]?=some o'→(m j).isSome=true→∀ e∈o'.after,Region.binds .any e=true→(m e.on).isSome=true
theorem ClosedM.upd {m:Nat→Option Value} {i:Nat} {o:Oper} (h:ClosedM ops m) (ho:ops[i]?=some o) (hd:∀ e∈o.after,Region.binds .any e=true→(m e.on).isSome=true) (v:Value):ClosedM ops (upd m i v):=by
 intro j o' ho' hj e he hbi
 by_cases hei:e.on=i
 ·rw [hei,upd_self];rfl
 ·rw [upd_ne m v hei]
  by_cases hji:j=i
  ·subst hji
   rw [ho] at ho'
   injection ho' with ho'
   subst ho'
   exact hd e he hbi
  ·rw [upd_ne m v hji] at hj
   exact h j o' ho' hj e he hbi
end
end Go.Proofs.YtcgclpcocdappaaGreatDoor
