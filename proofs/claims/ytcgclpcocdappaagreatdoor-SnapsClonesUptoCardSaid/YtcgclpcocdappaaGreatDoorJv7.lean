/-
  snaps.Clone: a set of a snapshot.
-/
import Derived.WalkKit
import Derived.WalkSpells
import Derived.Below
import Derived.Laws.OwnMore
import Derived.Deep.AppendLies
import Derived.Deep.Draws
import Derived.Laws.Rows
import Derived.Maps.AppendAt
import Derived.RegionTactic
import Derived.OwnWalk
import Derived.Deep.QuietTactic
import Derived.BigQuiet
import Derived.Lib.Hide
import Derived.Laws.CopyOwn
import Derived.IntWalk
import Derived.Test.YtcgclpcocdappaaGreatDoorRows
import Derived.Handy
import Derived.Deep.Quiet
import Derived.ProofKit
import Derived.OpenShut
import Derived.ShutString
import Derived.ChangeOld
import Derived.Carry
import Derived.SizedLaws
import Derived.JoinedCond
import Derived.Deep.CondSized
import Derived.Deep.Slices
import Derived.Deep.Fields
import Derived.Lib.SmallJoins
import Derived.Orders
import Derived.Lib.SplitLaws
import Derived.Lib.LastIndexByte
import Derived.Lib.Strings
import Derived.Sort.Walk0
import Derived.Sort.KeysCollected
import Derived.Deep.MidRow
import Derived.Deep.RegionLaw
import Derived.Lib.AppendZeros
import Derived.Shelf.Strings.Search1
import Derived.Shelf.Strings.Search2
import Derived.Shelf.Strings.Search3
import Derived.Shelf.Strings.Cut
import Derived.Shelf.Strings.Count
import Derived.Shelf.LaysM
import Derived.Shelf.Strings.Shaped
import Derived.Shelf.Strings.LastIndex
import Derived.Shelf.Strings.Split
import Derived.Shelf.Strings.SplitShaped
import Derived.Shelf.Unicode.Decode
import Derived.Shelf.Strings.RuneCount
import Derived.Shelf.Strings.Explode
import Derived.Shelf.Unicode.DecodeSlow
import Derived.Test.YtcgclpcocdappaaGreatDoorProg
import Derived.Lib.Overlaps
import Derived.Lib.AppendZerosOnto
import Derived.Laws.BytesString
import Derived.Laws.IdiomStrings
import Derived.Lib.ConvBytes
import Derived.Deep.DeepCutAuto
import Derived.Great.BuildSlice
import Derived.Test.YtcgclpcocdappaaGreatDoorJ0
import Derived.Test.YtcgclpcocdappaaGreatDoorJbkv1
import Derived.Test.YtcgclpcocdappaaGreatDoorJbkv2
import Derived.Test.YtcgclpcocdappaaGreatDoorJbkv3
import Derived.Test.YtcgclpcocdappaaGreatDoorJbkv4
import Derived.Test.YtcgclpcocdappaaGreatDoorJbkv5
import Derived.Test.YtcgclpcocdappaaGreatDoorJbkv6
import Derived.Test.YtcgclpcocdappaaGreatDoorJbkv7
import Derived.Test.YtcgclpcocdappaaGreatDoorJbkv8
import Derived.Test.YtcgclpcocdappaaGreatDoorJbkv10
import Derived.Test.YtcgclpcocdappaaGreatDoorJbkv14
import Derived.Test.YtcgclpcocdappaaGreatDoorJbkv15
import Derived.Test.YtcgclpcocdappaaGreatDoorJbkv16
import Derived.Test.YtcgclpcocdappaaGreatDoorJbkv17
import Derived.Test.YtcgclpcocdappaaGreatDoorJbkv18
import Derived.Test.YtcgclpcocdappaaGreatDoorJbkv19
import Derived.Test.YtcgclpcocdappaaGreatDoorJbkv20
import Derived.Test.YtcgclpcocdappaaGreatDoorJbkv21
import Derived.Test.YtcgclpcocdappaaGreatDoorJbkv22
import Derived.Test.YtcgclpcocdappaaGreatDoorJbkv27
import Derived.Test.YtcgclpcocdappaaGreatDoorJbv1
import Derived.Test.YtcgclpcocdappaaGreatDoorJbv2
import Derived.Test.YtcgclpcocdappaaGreatDoorJkv1
import Derived.Test.YtcgclpcocdappaaGreatDoorJv2
import Derived.Test.YtcgclpcocdappaaGreatDoorJv3
import Derived.Test.YtcgclpcocdappaaGreatDoorJv4
import Derived.Test.YtcgclpcocdappaaGreatDoorJv5
namespace Go.Proofs.YtcgclpcocdappaaGreatDoor
open Go.RowKit
set_option maxRecDepth 100000 in
set_option maxHeartbeats 8000000 in
theorem cloneS_any (t:TenR) (p n:BS) (tq:BS) (w:World) (B:Nat) (hB:B≤w.heap.size) (hr:t.rd w B) (hz:t.sz) (hp:p.length≤2000000000) (hn:n.length≤500000000) (htq:tq.length≤500000000) (hmx:HasMax w) :
  Calls Tryz.prog 26 #[t.val,.string ⟨p.toArray⟩,.string ⟨n.toArray⟩,.string ⟨tq.toArray⟩] w (TenPost w (t.con.cloneS p n tq)):=by
 obtain ⟨V,hV⟩:∃ V,V=t.con.cloneS p n tq:=⟨_,rfl⟩
 rw [← hV]
 obtain ⟨R,hR⟩:∃ R,R=t.con.foundS p n (!pathB tq):=⟨_,rfl⟩
 have hway:=found_way t t.sets.l rfl p n (!pathB tq) R hR
 have hcz:=TenC.sz_of hr hz
 have hasc:∀ k,AtS t.con p n (!pathB tq) k→t.sets.l.length≤32∧SignAsc (fun s:SetR=>cmpS s.path tq) t.sets.l:=fun k h=>by
  have h1:=tenE_ord t (by rw [tenE_con];exact h.E)
  exact ⟨h1.1,pairs_asc _ h1.2 tq⟩
 obtain ⟨nm,qu,nx,⟨s1,sn,s3,sl⟩,⟨gA,gN,gC,gL⟩,⟨t1,tn,t3,tl⟩,⟨l1,ln,l3,ll⟩⟩:=t
 show Calls Tryz.prog 26 #[.agg #[.string ⟨nm.toArray⟩,.int .i64 qu,.int .i64 nx,.slice s1 sn s3,.slice gA gN gC,.slice t1 tn t3,.slice l1 ln l3],.string ⟨p.toArray⟩,.string ⟨n.toArray⟩,.string ⟨tq.toArray⟩] w _
 have hb:=(((Below.refl w.heap.size w).alloc (Nat.le_refl _) (.cells #[.string ⟨nm.toArray⟩,.int .i64 qu,.int .i64 nx,.slice s1 sn s3,.slice gA gN gC,.slice t1 tn t3,.slice l1 ln l3] 27)).alloc (by simp) (.cells #[.string ⟨#[]⟩,.int .i64 0,.int .i64 0,.slice none 0 0,.slice none 0 0,.slice none 0 0,.slice none 0 0] 27))
 have kt:=Blk.new w 27 #[.string ⟨nm.toArray⟩,.int .i64 qu,.int .i64 nx,.slice s1 sn s3,.slice gA gN gC,.slice t1 tn t3,.slice l1 ln l3]
 replace kt:=kt.alloc (.cells #[.string ⟨#[]⟩,.int .i64 0,.int .i64 0,.slice none 0 0,.slice none 0 0,.slice none 0 0,.slice none 0 0] 27)
 have kz:=Blk.new (w.alloc (.cells #[.string ⟨nm.toArray⟩,.int .i64 qu,.int .i64 nx,.slice s1 sn s3,.slice gA gN gC,.slice t1 tn t3,.slice l1 ln l3] 27)) 27 #[.string ⟨#[]⟩,.int .i64 0,.int .i64 0,.slice none 0 0,.slice none 0 0,.slice none 0 0,.slice none 0 0]
 rw [show (w.alloc (.cells #[.string ⟨nm.toArray⟩,.int .i64 qu,.int .i64 nx,.slice s1 sn s3,.slice gA gN gC,.slice t1 tn t3,.slice l1 ln l3] 27)).heap.size=w.heap.size+1 by simp] at kz
 have hsz:((w.alloc (.cells #[.string ⟨nm.toArray⟩,.int .i64 qu,.int .i64 nx,.slice s1 sn s3,.slice gA gN gC,.slice t1 tn t3,.slice l1 ln l3] 27)).alloc (.cells #[.string ⟨#[]⟩,.int .i64 0,.int .i64 0,.slice none 0 0,.slice none 0 0,.slice none 0 0,.slice none 0 0] 27)).heap.size=w.heap.size+2:=by simp
 obtain ⟨W1,hW1⟩:∃ W,W=((w.alloc (.cells #[.string ⟨nm.toArray⟩,.int .i64 qu,.int .i64 nx,.slice s1 sn s3,.slice gA gN gC,.slice t1 tn t3,.slice l1 ln l3] 27)).alloc (.cells #[.string ⟨#[]⟩,.int .i64 0,.int .i64 0,.slice none 0 0,.slice none 0 0,.slice none 0 0,.slice none 0 0] 27)):=⟨_,rfl⟩
 rw [← hW1] at hb hsz kt kz
 have hKt:Hid (∀ W,Below W1.heap.size W1 W→Blk W w.heap.size 27 #[.string ⟨nm.toArray⟩,.int .i64 qu,.int .i64 nx,.slice s1 sn s3,.slice gA gN gC,.slice t1 tn t3,.slice l1 ln l3]):=fun W h=>kt.below h (by omega)
 have hKz:Hid (∀ W,Below W1.heap.size W1 W→Blk W (w.heap.size+1) 27 #[.string ⟨#[]⟩,.int .i64 0,.int .i64 0,.slice none 0 0,.slice none 0 0,.slice none 0 0,.slice none 0 0]):=fun W h=>kz.below h (by omega)
 have hBW:Hid (∀ W,Below W1.heap.size W1 W→Below w.heap.size w W):=fun W h=>hb.trans (h.mono (by omega))
 have hSZ:Hid (∀ W,Below W1.heap.size W1 W→w.heap.size+2≤W.heap.size):=fun W h=>by have:=h.size;omega
 have hW0:Hid (Below W1.heap.size W1 W1):=Below.refl _ _
 have hrw:Hid (∀ W,Below W1.heap.size W1 W→TenR.rd W B ⟨nm,qu,nx,⟨s1,sn,s3,sl⟩,⟨gA,gN,gC,gL⟩,⟨t1,tn,t3,tl⟩,⟨l1,ln,l3,ll⟩⟩∧B≤W.heap.size∧HasMax W):=fun W h =>
  ⟨TenR.rd.below hr ((hBW.out W h).mono hB),by have:=hSZ.out W h;omega,hmx.below (hBW.out W h)⟩
 obtain ⟨C,hC⟩:∃ C,C=TenR.con ⟨nm,qu,nx,⟨s1,sn,s3,sl⟩,⟨gA,gN,gC,gL⟩,⟨t1,tn,t3,tl⟩,⟨l1,ln,l3,ll⟩⟩:=⟨_,rfl⟩
 have hHC:=Lib.hid hC
 rw [← hC] at hR hway hcz hV hasc
 simp only at hway
 have HR:=Lib.hid hR
 have HV:=Lib.hid hV
 have HCZ:=Lib.hid hcz
 have HZ:=Lib.hid hz
 have HP:=Lib.hid hp
 obtain ⟨a0,k0,e0⟩:=R
 obtain ⟨bB,hbB⟩:∃ b,b=pathB tq:=⟨_,rfl⟩
 rw [← hbB] at hR hway hasc
 obtain ⟨TV,hTV⟩:∃ v,v=Value.agg #[.string ⟨nm.toArray⟩,.int .i64 qu,.int .i64 nx,.slice s1 sn s3,.slice gA gN gC,.slice t1 tn t3,.slice l1 ln l3]:=⟨_,rfl⟩
 have HTV:=Lib.hid hTV
 have hNM:Hid (∀ W,Below W1.heap.size W1 W→Calls Tryz.prog 80 #[.string ⟨tq.toArray⟩] W fun e w'=>e=.returned (.bool bB)∧Below W.heap.size W w'):=fun W h=>by
  rw [hbB]
  exact path_any ⟨tq.toArray⟩ W (by show tq.toArray.size≤_;simp;omega) (hrw.out W h).2.2
 have hFO:Hid (∀ W,Below W1.heap.size W1 W→∀ A c,W.ownsRow W1.heap.size 4 1 (.slice A 1 c) 1 [.bool bB]→Calls Tryz.prog 55 #[TV,.string ⟨p.toArray⟩,.string ⟨n.toArray⟩,.slice A 1 c] W fun e w'=>e=.returned (.tuple #[.int .i64 a0,.int .i64 k0,.int .i64 e0])∧Below W.heap.size W w'):=fun W h A c how=>by
  have h0:=hrw.out W h
  have h1:=found_any ⟨nm,qu,nx,⟨s1,sn,s3,sl⟩,⟨gA,gN,gC,gL⟩,⟨t1,tn,t3,tl⟩,⟨l1,ln,l3,ll⟩⟩ p n [bB] A 1 c W W.heap.size (Nat.le_refl _) (h0.1.more h0.2.1) hz (by omega) h0.2.2 rfl (by decide) (Reads.of_own how)
  rw [foundS_con,← hC,show [bB].contains false=!bB from by cases bB <;> rfl,← hR] at h1
  rw [hTV]
  exact h1
 have hSN:=Lib.hid (show sn=sl.length from hr.sets.1)
 have HASC:=Lib.hid hasc
 have HBB:=Lib.hid hbB
 have hPA:Hid (bB=true→∀ W,Below W1.heap.size W1 W→Calls Tryz.prog 81 #[.string ⟨tq.toArray⟩] W fun e w'=>(∃ b,e=.returned (.tuple #[.string ⟨(upL tq).toArray⟩,.bool b]))∧Below W.heap.size W w'):=fun h0 W h =>
  (parent_any ⟨tq.toArray⟩ W (by show tq.toArray.size≤_;simp;omega) (hrw.out W h).2.2).mono (by
   rintro e w' ⟨h1,⟨h2,rfl⟩ | ⟨h2,h3,rfl⟩⟩
   ·rcases h2 with h2 | h2
    ·have h2:tq=[]:=h2
     subst h2
     exact ⟨⟨false,rfl⟩,h1⟩
    ·have h2:pathB tq=false:=h2
     rw [← hbB,h0] at h2
     cases h2
   ·exact ⟨⟨true,rfl⟩,h1⟩)
 have hfs:∀ q,findS sl q=C.find q:=fun q=>by rw [hC];exact findS_con ⟨nm,qu,nx,⟨s1,sn,s3,sl⟩,⟨gA,gN,gC,gL⟩,⟨t1,tn,t3,tl⟩,⟨l1,ln,l3,ll⟩⟩ q
 have hFD:Hid (∀ q:BS,∀ W,Below W1.heap.size W1 W→Calls Tryz.prog 57 #[.agg #[.string ⟨nm.toArray⟩,.int .i64 qu,.int .i64 nx,.slice s1 sn s3,.slice gA gN gC,.slice t1 tn t3,.slice l1 ln l3],.string ⟨q.toArray⟩] W fun e w'=>e=.returned (.int .i64 (C.find q))∧Below W.heap.size W w'):=fun q W h=>by
  rw [← hfs]
  exact find_any _ _ _ _ _ _ sl sn hr.sets.1 s1 s3 q W B (hrw.out W h).1.sets.2.2 (hrw.out W h).2.1 (by have:=hz.sets;simp only at this;omega)
 have hJN:Hid (∀ W,Calls Tryz.prog 79 #[.string ⟨p.toArray⟩,.string ⟨n.toArray⟩] W fun e w'=>e=.returned (.string ⟨(p++64 :: n).toArray⟩)∧w'=W):=fun W=>join_any ⟨p.toArray⟩ ⟨n.toArray⟩ W (by show p.toArray.size≤_;simp;omega) (by show n.toArray.size≤_;simp;omega)
 have HSZ2:=Lib.hid (show p.length+n.length≤2500000000∧tq.length≤500000000 by omega)
 have HPN:Hid (p.length≤2000000000∧n.length≤500000000):=⟨hp,hn⟩
 have hWI:Hid (∀ k,AtS C p n (!bB) k→∀ s:SetR,s.path=tq→∀ W,SetO W W1.heap.size s→Below W1.heap.size W1 W→Calls Tryz.prog 82 #[TV,.agg (encSet s).toArray] W fun e w'=>∃ y:TenR,e=.returned y.val∧TenO w' W1.heap.size y∧y.con=C.withS s.con∧Below W.heap.size W w'):=fun k hk s hs W ho h=>by
  have h1:=hasc k hk
  rw [hC,hTV]
  exact with_any ⟨nm,qu,nx,⟨s1,sn,s3,sl⟩,⟨gA,gN,gC,gL⟩,⟨t1,tn,t3,tl⟩,⟨l1,ln,l3,ll⟩⟩ s W B W1.heap.size (hrw.out W h).2.1 (hrw.out W h).1 hz ho h.size (by have h2:=hr.sets.1;simp only at h1 h2 ⊢;omega) (by rw [hs];exact h1.2)
 have hSE:Hid (∀ (y:TenR) (c:TenC),y.con=c→c.sz→∀ W,TenO W W1.heap.size y→Below W1.heap.size W1 W→Calls Tryz.prog 47 #[y.val] W (TenPost W c.settle)):=fun y c hy hc W ho h=>by
  rw [← hy]
  exact settleT_any y W W.heap.size (Nat.le_refl _) ho.rd (TenR.sz_of ho.rd (by rw [hy];exact hc)) (hrw.out W h).2.2
 clear hb hsz kt kz hr hp hmx hV hC hz hcz hR hn htq hbB hTV hasc hfs
 go_enter Tryz.func26,Tryz.ntmps26
 have hS0:Hid (∀ W,Below W1.heap.size W1 W→W.cell? ⟨w.heap.size,0,none⟩=some (.string ⟨nm.toArray⟩)∧W.cell? ⟨w.heap.size,1,none⟩=some (.int .i64 qu)∧W.cell? ⟨w.heap.size,2,none⟩=some (.int .i64 nx)∧W.cell? ⟨w.heap.size,3,none⟩=some (.slice s1 sn s3)∧W.cell? ⟨w.heap.size,4,none⟩=some (.slice gA gN gC)∧W.cell? ⟨w.heap.size,5,none⟩=some (.slice t1 tn t3)∧W.cell? ⟨w.heap.size,6,none⟩=some (.slice l1 ln l3)):=fun W h=>blk7 (hKt.out W h)
 go_upto_region 1 with (fail)
 rw [← hW1]
 clear hW1
 refine wp_region_good2 (by kernel_rfl) (by kernel_rfl) [(fun v _=>v=TV),
  (fun v _=>v=.string ⟨p.toArray⟩),
  (fun v _=>v=.string ⟨n.toArray⟩),
  (fun v _=>v=.string ⟨tq.toArray⟩),
  (fun v _=>v=.bool bB),
  (fun v W=>∃ A c,v=.slice A 1 c∧W.ownsRow W1.heap.size 4 1 (v) 1 [.bool bB]),
  (fun v _=>v=.tuple #[.int .i64 a0,.int .i64 k0,.int .i64 e0]),
  (fun v _=>v=.tuple #[.int .i64 a0,.int .i64 k0,.int .i64 e0]),
  (fun v _=>v=.int .i64 a0),
  (fun v _=>v=.int .i64 k0),
  (fun v _=>v=.int .i64 e0),
  (fun v _=>v=.int .i64 a0),
  (fun v _=>v=.int .i64 k0),
  (fun v _=>v=.int .i64 e0)] ?_ ?_ ?_
 ·repeat' (first | exact stays_nil | refine stays_cons ?_ ?_ | exact Stays.pure | exact (fun v W W' h hb=>let ⟨A,c,h1,h2⟩:=h;⟨A,c,h1,own_below h2 hb⟩))
 ·intro i oo ho m2 W hb0 hmi hcl hdeps AA KK hA hK
  rcases i with _ | _ | _ | _ | _ | _ | _ | _ | _ | _ | _ | _ | _ | _ | i
  ·injection ho with ho;subst ho
   have ef4:AA.tmps[4]?.getD undef=.pointer (some ⟨w.heap.size,0,none⟩):=tF hA
   clear hA hdeps hcl hmi
   obtain ⟨c0,c1,c2,c3,c4,c5,c6⟩:=hS0.out W hb0
   have hK0:KK (AA.put (some 17) _) _:=hK (TV) _ (Below.refl _ _) (Eq.refl _)
   clear hK
   rw [HTV.out] at hK0
   go_simp
   exact hK0
  ·injection ho with ho;subst ho
   have ef1:AA.tmps[1]?.getD undef=.string ⟨p.toArray⟩:=tF hA
   exact zP
  ·injection ho with ho;subst ho
   have ef2:AA.tmps[2]?.getD undef=.string ⟨n.toArray⟩:=tF hA
   exact zP
  ·injection ho with ho;subst ho
   have ef3:AA.tmps[3]?.getD undef=.string ⟨tq.toArray⟩:=tF hA
   exact zP
  ·injection ho with ho;subst ho
   have e3:=eD hdeps hA 3 20
   clear hA hdeps hcl hmi
   have hKK:=hK
   clear hK
   go_simp
   refine (hNM.out W hb0).mono ?_
   rintro e w5 ⟨rfl,hbn⟩
   exact hKK _ _ hbn (Eq.refl _)
  ·injection ho with ho;subst ho
   have e4:=eD hdeps hA 4 21
   clear hA hdeps hcl hmi
   have hK0:KK (AA.put (some 22) _) _:=hK (.slice (some ⟨W.heap.size,0,none⟩) 1 1) (W.alloc (.cells #[.bool bB] 4)) ((Below.refl _ _).alloc (Nat.le_refl _) _) ⟨_,_,rfl,own_mono (own_lit W #[.bool bB] 4 1 rfl (by decide)) hb0.size⟩
   clear hK
   go_simp
   exact hK0
  ·injection ho with ho;subst ho
   have e0:=eD hdeps hA 0 17
   have e1:=eD hdeps hA 1 18
   have e2:=eD hdeps hA 2 19
   obtain ⟨x5,hx5,hg5⟩:=hdeps ⟨5,.data⟩ (by simp) rfl
   have hg5:∃ A c,x5=.slice A 1 c∧W.ownsRow W1.heap.size 4 1 (x5) 1 [.bool bB]:=hg5
   have hk5:=hg5
   obtain ⟨A5,c5,rfl,how5⟩:=hg5
   have e5:AA.tmps[22]?.getD undef=.slice A5 1 c5:=tO hA hx5
   clear hA hdeps hcl hmi hx5
   have hKK:=hK
   clear hK
   go_simp
   refine (hFO.out W hb0 _ _ how5).mono ?_
   rintro e w5 ⟨rfl,hbn⟩
   exact hKK _ _ hbn (Eq.refl _)
  ·injection ho with ho;subst ho
   have e6:=eD hdeps hA 6 23
   exact zP
  ·injection ho with ho;subst ho
   have e7:=eD hdeps hA 7 16
   exact zP
  ·injection ho with ho;subst ho
   have e7:=eD hdeps hA 7 16
   exact zP
  ·injection ho with ho;subst ho
   have e7:=eD hdeps hA 7 16
   exact zP
  ·injection ho with ho;subst ho
   have e8:=eD hdeps hA 8 24
   exact zP
  ·injection ho with ho;subst ho
   have e9:=eD hdeps hA 9 25
   exact zP
  ·injection ho with ho;subst ho
   have e10:=eD hdeps hA 10 26
   exact zP
  ·simp at ho
 ·intro m W hbx hall
  have m0:=dV (hall 0 (by simp))
  have m1:=dV (hall 1 (by simp))
  have m2:=dV (hall 2 (by simp))
  have m3:=dV (hall 3 (by simp))
  have m4:=dV (hall 4 (by simp))
  obtain ⟨x5,m5,g5⟩:=hall 5 (by simp)
  replace g5:∃ A c,x5=.slice A 1 c∧W.ownsRow W1.heap.size 4 1 (x5) 1 [.bool bB]:=g5
  have m6:=dV (hall 6 (by simp))
  have m7:=dV (hall 7 (by simp))
  have m8:=dV (hall 8 (by simp))
  have m9:=dV (hall 9 (by simp))
  have m10:=dV (hall 10 (by simp))
  have m11:=dV (hall 11 (by simp))
  have m12:=dV (hall 12 (by simp))
  have m13:=dV (hall 13 (by simp))
  rw [frameM_all (by kernel_rfl) [TV,.string ⟨p.toArray⟩,.string ⟨n.toArray⟩,.string ⟨tq.toArray⟩,.bool bB,x5,.tuple #[.int .i64 a0,.int .i64 k0,.int .i64 e0],.tuple #[.int .i64 a0,.int .i64 k0,.int .i64 e0],.int .i64 a0,.int .i64 k0,.int .i64 e0,.int .i64 a0,.int .i64 k0,.int .i64 e0] rfl (fun i hi=>by rcases i with _ | _ | _ | _ | _ | _ | _ | _ | _ | _ | _ | _ | _ | _ | i <;> first | assumption | (simp at hi;omega))]
  clear hall m0 m1 m2 m3 m4 m5 m6 m7 m8 m9 m10 m11 m12 m13
  simp only [putAll,Act.put,zA,zC,zB]
  obtain ⟨w2,hw2⟩:∃ w2,w2=W:=⟨_,rfl⟩
  subst hw2
  have HW2:=Lib.hid hbx
  clear hbx hS0
  rcases hway with ⟨a,kk,E,hE,hRe⟩ | ⟨k,i,hkl,hil,hRe,hat,hgk,hgi,hnm⟩
  ·obtain ⟨rfl,rfl,rfl⟩:a0=a∧k0=kk∧e0=E:=by injection hRe with h1 h2;injection h2 with h2 h3;exact ⟨h1,h2,h3⟩
   clear hRe
   have hne:e0≠0:=by rcases hE with h | h | h <;> rw [h] <;> decide
   have hneb:(e0 == 0)=false:=by simpa using hne
   have HX:Hid (V=(e0,C)):=by show _=_;rw [HV.out];exact cloneS_bad HR.out.symm hne
   have HNE:=Lib.hid hne
   clear HV HR hE hne
   have KZ:=Lib.hid (hKz.out w2 HW2.out)
   have HB:=Lib.hid (hBW.out w2 HW2.out)
   obtain ⟨WR,hW4,hth,HL,HBW,hgw⟩:=res7 (g:=(w.heap.size+1)) [.string ⟨#[]⟩,.int .i64 0,.int .i64 0,.slice none 0 0,.slice none 0 0,.slice none 0 0,.slice none 0 0] KZ.out HB.out (by omega)
   clear hgw
   go_wp2_with (refine wpList_store_mid rfl 27 (.tmp 8) (.tmp 29) rfl ((w.heap.size+1)) 0 #[.string ⟨#[]⟩,.int .i64 0,.int .i64 0,.slice none 0 0,.slice none 0 0,.slice none 0 0,.slice none 0 0] rfl rfl hth.out (by kernel_rfl) (by simp [Value.oneCell']) ?_;rw [← hW4];clear hW4)
   exact bodyPost_ret (v:=.tuple #[.agg #[.string ⟨#[]⟩,.int .i64 0,.int .i64 0,.slice none 0 0,.slice none 0 0,.slice none 0 0,.slice none 0 0],.int .i64 e0]) (results_cell_tmp rfl rfl HL.out) rfl (tenPost_err HX.out HNE.out HBW.out)
  ·obtain ⟨rfl,rfl,rfl⟩:a0=(k:Int)∧k0=(i:Int)∧e0=0:=by injection hRe with h1 h2;injection h2 with h2 h3;exact ⟨h1,h2,h3⟩
   clear hRe
   have HX0:Hid (V=if 0≤C.find tq then (6,C) else if C.find (upL tq)<0 then (71,C) else if C.sets.length=32 then (3,C) else (C.withS (cloneSet p n tq ((sl[k]'hkl).snaps.l[i]'hil).con)).settle):=by show _=_;rw [HV.out];exact cloneS_at HR.out.symm hgk hgi
   clear HV HR
   have HBT:Hid (bB=true):=by show _=_;have h:=hat.good;cases bB with | true=>rfl | false=>cases h
   have HAT:=Lib.hid hat
   have hc:=hPA.out HBT.out w2 HW2.out
   go_wp2_with fail
   refine hc.mono ?_
   clear hc 
   rintro e w3 ⟨⟨b,rfl⟩,hb⟩
   have HW3:=Lib.hid (HW2.out.trans (hb.mono HW2.out.size))
   clear hb
   have hc:=hFD.out tq w3 HW3.out
   have kk:=hKt.out w3 HW3.out
   obtain ⟨c0,c1,c2,c3,c4,c5,c6⟩:=(⟨kk.cell 0,kk.cell 1,kk.cell 2,kk.cell 3,kk.cell 4,kk.cell 5,kk.cell 6⟩:_∧_∧_∧_∧_∧_∧_)
   simp only [zF,zD,zE] at c0 c1 c2 c3 c4 c5 c6
   clear kk
   go_wp2_with fail
   refine hc.mono ?_
   clear hc c0 c1 c2 c3 c4 c5 c6
   rintro e w4 ⟨rfl,hb⟩
   have HW4:=Lib.hid (HW3.out.trans (hb.mono HW3.out.size))
   clear hb
   obtain ⟨F1,hF1⟩:∃ F,F=C.find tq:=⟨_,rfl⟩
   rw [← hF1] at HX0 ⊢
   clear hF1
   by_cases hf:0≤F1
   ·have HX:=Lib.hid (HX0.out.trans (if_pos hf))
    clear HX0 hgk hgi hnm
    have KZ:=Lib.hid (hKz.out w4 HW4.out)
    have HB:=Lib.hid (hBW.out w4 HW4.out)
    obtain ⟨WR,hW4,hth,HL,HBW,hgw⟩:=res7 (g:=(w.heap.size+1)) [.string ⟨#[]⟩,.int .i64 0,.int .i64 0,.slice none 0 0,.slice none 0 0,.slice none 0 0,.slice none 0 0] KZ.out HB.out (by omega)
    clear hgw
    go_wp2_with (refine wpList_store_mid rfl 27 (.tmp 8) (.tmp 41) rfl ((w.heap.size+1)) 0 #[.string ⟨#[]⟩,.int .i64 0,.int .i64 0,.slice none 0 0,.slice none 0 0,.slice none 0 0,.slice none 0 0] rfl rfl hth.out (by kernel_rfl) (by simp [Value.oneCell']) ?_;rw [← hW4];clear hW4)
    exact bodyPost_ret (v:=.tuple #[.agg #[.string ⟨#[]⟩,.int .i64 0,.int .i64 0,.slice none 0 0,.slice none 0 0,.slice none 0 0,.slice none 0 0],.int .i64 6]) (results_cell_tmp rfl rfl HL.out) rfl (tenPost_err HX.out (by decide) HBW.out)
   ·have HX1:=Lib.hid (HX0.out.trans (if_neg hf))
    clear HX0
    have hc:=hFD.out (upL tq) w4 HW4.out
    have kk:=hKt.out w4 HW4.out
    obtain ⟨c0,c1,c2,c3,c4,c5,c6⟩:=(⟨kk.cell 0,kk.cell 1,kk.cell 2,kk.cell 3,kk.cell 4,kk.cell 5,kk.cell 6⟩:_∧_∧_∧_∧_∧_∧_)
    simp only [zF,zD,zE] at c0 c1 c2 c3 c4 c5 c6
    clear kk
    go_wp2_with fail
    refine hc.mono ?_
    clear hc c0 c1 c2 c3 c4 c5 c6
    rintro e w5 ⟨rfl,hb⟩
    have HW5:=Lib.hid (HW4.out.trans (hb.mono HW4.out.size))
    clear hb
    obtain ⟨F2,hF2⟩:∃ F,F=C.find (upL tq):=⟨_,rfl⟩
    rw [← hF2] at HX1 ⊢
    clear hF2 hf
    by_cases hf:F2<0
    ·have HX:=Lib.hid (HX1.out.trans (if_pos hf))
     clear HX1 hgk hgi hnm
     have KZ:=Lib.hid (hKz.out w5 HW5.out)
     have HB:=Lib.hid (hBW.out w5 HW5.out)
     obtain ⟨WR,hW4,hth,HL,HBW,hgw⟩:=res7 (g:=(w.heap.size+1)) [.string ⟨#[]⟩,.int .i64 0,.int .i64 0,.slice none 0 0,.slice none 0 0,.slice none 0 0,.slice none 0 0] KZ.out HB.out (by omega)
     clear hgw
     go_wp2_with (refine wpList_store_mid rfl 27 (.tmp 8) (.tmp 47) rfl ((w.heap.size+1)) 0 #[.string ⟨#[]⟩,.int .i64 0,.int .i64 0,.slice none 0 0,.slice none 0 0,.slice none 0 0,.slice none 0 0] rfl rfl hth.out (by kernel_rfl) (by simp [Value.oneCell']) ?_;rw [← hW4];clear hW4)
     exact bodyPost_ret (v:=.tuple #[.agg #[.string ⟨#[]⟩,.int .i64 0,.int .i64 0,.slice none 0 0,.slice none 0 0,.slice none 0 0,.slice none 0 0],.int .i64 71]) (results_cell_tmp rfl rfl HL.out) rfl (tenPost_err HX.out (by decide) HBW.out)
    ·have HX2:=Lib.hid (HX1.out.trans (if_neg hf))
     clear HX1
     have HCL:Hid (C.sets.length=sn):=by show _=_;rw [hSN.out,hHC.out];exact List.length_map ..
     by_cases hl:(sn:Int)=32
     ·have HX:=Lib.hid (HX2.out.trans (if_pos (by rw [HCL.out];omega)))
      have hl1:((sn:Int) == 32)=true:=by simpa using hl
      clear HX2 hgk hgi hnm
      have kk:=hKt.out w5 HW5.out
      obtain ⟨c0,c1,c2,c3,c4,c5,c6⟩:=(⟨kk.cell 0,kk.cell 1,kk.cell 2,kk.cell 3,kk.cell 4,kk.cell 5,kk.cell 6⟩:_∧_∧_∧_∧_∧_∧_)
      simp only [zF,zD,zE] at c0 c1 c2 c3 c4 c5 c6
      clear kk
      have KZ:=Lib.hid (hKz.out w5 HW5.out)
      have HB:=Lib.hid (hBW.out w5 HW5.out)
      obtain ⟨WR,hW4,hth,HL,HBW,hgw⟩:=res7 (g:=(w.heap.size+1)) [.string ⟨#[]⟩,.int .i64 0,.int .i64 0,.slice none 0 0,.slice none 0 0,.slice none 0 0,.slice none 0 0] KZ.out HB.out (by omega)
      clear hgw
      go_wp2_with (refine wpList_store_mid rfl 27 (.tmp 8) (.tmp 53) rfl ((w.heap.size+1)) 0 #[.string ⟨#[]⟩,.int .i64 0,.int .i64 0,.slice none 0 0,.slice none 0 0,.slice none 0 0,.slice none 0 0] rfl rfl hth.out (by kernel_rfl) (by simp [Value.oneCell']) ?_;rw [← hW4];clear hW4)
      exact bodyPost_ret (v:=.tuple #[.agg #[.string ⟨#[]⟩,.int .i64 0,.int .i64 0,.slice none 0 0,.slice none 0 0,.slice none 0 0,.slice none 0 0],.int .i64 3]) (results_cell_tmp rfl rfl HL.out) rfl (tenPost_err HX.out (by decide) HBW.out)
     ·have HX3:=Lib.hid (HX2.out.trans (if_neg (by rw [HCL.out];omega)))
      have hl1:((sn:Int) == 32)=false:=by simpa using hl
      clear HX2
      have hrk:=(hrw.out w5 HW5.out).1
      have hks:k<sn:=by have:=hSN.out;omega
      have hki:(k:Int)<(sn:Int):=by omega
      have hk0:(0:Int)≤(k:Int):=by omega
      obtain ⟨ad,hsa,-,fa0,fa1,fa2,fa3,fa4⟩:=set_at hrk.sets.2.2 hSN.out hks
      simp only at hsa
      have hx:=hrk.eachS _ (List.getElem_mem hkl)
      have hzx:=HZ.out.eachS _ (List.getElem_mem hkl)
      obtain ⟨x,hxx⟩:∃ x,x=sl[k]'hkl:=⟨_,rfl⟩
      simp only [← hxx] at fa0 fa1 fa2 fa3 fa4 hx hzx hgk hil hgi hnm
      have hin:i<x.snaps.n:=by rw [hx.snaps.1];exact hil
      have hii:(i:Int)<(x.snaps.n:Int):=by omega
      have hi0:(0:Int)≤(i:Int):=by omega
      obtain ⟨az,hza,-,fb0,fb1,fb2,fb3,fb4⟩:=snap_at hx.snaps.2.2 hx.snaps.1 hin
      obtain ⟨zz,hzz⟩:∃ z,z=x.snaps.l[i]'hil:=⟨_,rfl⟩
      have hxi:=hx.each _ (List.getElem_mem hil)
      have hzi:=hzx.each _ (List.getElem_mem hil)
      simp only [← hzz] at fb0 fb1 fb2 fb3 fb4 hgi hnm hxi hzi
      have hHX0:V=(C.withS (cloneSet p n tq (x.snaps.l[i]'hil).con)).settle:=by have h:=HX3.out;simpa only [hxx] using h
      rw [← hzz] at hHX0
      obtain ⟨⟨E2,C2⟩,hV2⟩:∃ V2:Int×TenC,V2=(C.withS (cloneSet p n tq zz.con)).settle:=⟨_,rfl⟩
      have HX:Hid (V=(E2,C2)):=hHX0.trans hV2.symm
      have HV2:=Lib.hid hV2
      have HZI:=Lib.hid hxi
      have HZZ:=Lib.hid hzi
      have HCS:=Lib.hid (HCZ.out.withS (cloneSet_sz (p:=p) (n:=n) (tq:=tq) (SnapC.sz_of hxi hzi) (by have:=HSZ2.out;have:=HPN.out;omega) (by have:=HSZ2.out;omega)) (by have:=HCL.out;have:=(HASC.out k HAT.out).1;have:=hSN.out;omega))
      subst hsa
      rw [hza] at fa3
      clear hxx hzz hx hzx hxi hzi hrk hin hgi hgk hnm hza hHX0 hV2 HX3 hl
      have hb67:=(Below.refl w5.heap.size w5).alloc (Nat.le_refl _) (.cells #[.string ⟨zz.nm.toArray⟩,.int .i64 zz.gd,.slice zz.body.A zz.body.n zz.body.c,.slice zz.tags.A zz.tags.n zz.tags.c,.slice zz.own.A zz.own.n zz.own.c] 57)
      have ks6:=Blk.new w5 57 #[.string ⟨zz.nm.toArray⟩,.int .i64 zz.gd,.slice zz.body.A zz.body.n zz.body.c,.slice zz.tags.A zz.tags.n zz.tags.c,.slice zz.own.A zz.own.n zz.own.c]
      have hw16:=HW5.out.alloc HW5.out.size (.cells #[.string ⟨zz.nm.toArray⟩,.int .i64 zz.gd,.slice zz.body.A zz.body.n zz.body.c,.slice zz.tags.A zz.tags.n zz.tags.c,.slice zz.own.A zz.own.n zz.own.c] 57)
      have hb68:=hb67.mono (hrw.out w5 HW5.out).2.1
      have hzi6:zz.rd _ B:=⟨HZI.out.body.below hb68,HZI.out.tags.below hb68,HZI.out.own.below hb68⟩
      obtain ⟨g6,hg6⟩:∃ g,g=w5.heap.size:=⟨_,rfl⟩
      obtain ⟨w6,hW6⟩:∃ W,W=w5.alloc (.cells #[.string ⟨zz.nm.toArray⟩,.int .i64 zz.gd,.slice zz.body.A zz.body.n zz.body.c,.slice zz.tags.A zz.tags.n zz.tags.c,.slice zz.own.A zz.own.n zz.own.c] 57):=⟨_,rfl⟩
      rw [← hW6] at ks6 hw16 hzi6
      rw [← hg6] at ks6
      have HW6:=Lib.hid hw16
      have KS6:=Lib.hid ks6
      have HZ6:=Lib.hid hzi6
      have hS:Hid (∀ W,Below w6.heap.size w6 W→W.cell? ⟨w.heap.size,0,none⟩=some (.string ⟨nm.toArray⟩)∧W.cell? ⟨w.heap.size,1,none⟩=some (.int .i64 qu)∧W.cell? ⟨w.heap.size,2,none⟩=some (.int .i64 nx)∧W.cell? ⟨w.heap.size,3,none⟩=some (.slice (some ad) sn s3)∧W.cell? ⟨w.heap.size,4,none⟩=some (.slice gA gN gC)∧W.cell? ⟨w.heap.size,5,none⟩=some (.slice t1 tn t3)∧W.cell? ⟨w.heap.size,6,none⟩=some (.slice l1 ln l3)∧W.cell? ⟨g6,2,none⟩=some (.slice zz.body.A zz.body.n zz.body.c)∧W.cell? ⟨g6,4,none⟩=some (.slice zz.own.A zz.own.n zz.own.c)):=fun W h=>by
       obtain ⟨h0,h1,h2,h3,h4,h5,h6⟩:=blk7 (hKt.out W (HW6.out.trans (h.mono HW6.out.size)))
       exact ⟨h0,h1,h2,h3,h4,h5,h6,(KS6.out.below h KS6.out.lt).cell 2,(KS6.out.below h KS6.out.lt).cell 4⟩
      have hCB:Hid (∀ W,Below w6.heap.size w6 W→Calls Tryz.prog 45 #[.slice zz.body.A zz.body.n zz.body.c] W fun e w'=>∃ v,e=.returned v∧w'.ownsRow W.heap.size 75 2 v zz.body.n (cellsK encB zz.body.l)∧Below W.heap.size W w'):=fun W h =>
       cloneBl_any _ zz.body.n zz.body.A zz.body.c W B (HZ6.out.body.2.2.below (h.mono (by have:=(hrw.out w6 HW6.out).2.1;omega))) (by have:=(hrw.out w6 HW6.out).2.1;have:=h.size;omega) (cells_one encB_one _) (by have:=HZZ.out.body;omega)
      have hCP:Hid (∀ W,Below w6.heap.size w6 W→Calls Tryz.prog 46 #[.slice zz.own.A zz.own.n zz.own.c] W fun e w'=>∃ v,e=.returned v∧w'.ownsRow W.heap.size 78 2 v zz.own.n (cellsK encP zz.own.l)∧Below W.heap.size W w'):=fun W h =>
       clonePr_any _ zz.own.n zz.own.A zz.own.c W B (HZ6.out.own.2.2.below (h.mono (by have:=(hrw.out w6 HW6.out).2.1;omega))) (by have:=(hrw.out w6 HW6.out).2.1;have:=h.size;omega) (cells_one encP_one _) (by have:=HZZ.out.own;omega)
      have HB6:=Lib.hid (show W1.heap.size≤w6.heap.size from HW6.out.size)
      have kk:=hKt.out w5 HW5.out
      obtain ⟨c0,c1,c2,c3,c4,c5,c6⟩:=(⟨kk.cell 0,kk.cell 1,kk.cell 2,kk.cell 3,kk.cell 4,kk.cell 5,kk.cell 6⟩:_∧_∧_∧_∧_∧_∧_)
      simp only [zF,zD,zE] at c0 c1 c2 c3 c4 c5 c6
      clear kk
      clear hb67 hb68 ks6 hw16 hzi6 hFD hPA hNM hFO
      go_upto_region 12 with (fail)
      rw [← hW6,← hg6]
      clear hW6 hg6 fa0 fa1 fa2 fa3 fa4 fb0 fb1 fb2 fb3 fb4 c0 c1 c2 c3 c4 c5 c6 hl1 hf
      refine wp_region_store 16 [17] (by kernel_rfl) (by kernel_rfl) [(fun v _=>v=TV),
        (fun v _=>v=.string ⟨tq.toArray⟩),
        (fun v _=>v=.string ⟨p.toArray⟩),
        (fun v _=>v=.string ⟨n.toArray⟩),
        (fun v _=>v=.string ⟨(p++64 :: n).toArray⟩),
        (fun v _=>v=.pointer (some ⟨g6,2,none⟩)),
        (fun v _=>v=.slice zz.body.A zz.body.n zz.body.c),
        (fun v W=>∃ A c,v=.slice A zz.body.n c∧W.ownsRow W1.heap.size 75 2 v zz.body.n (cellsK encB zz.body.l)),
        (fun v _=>v=.pointer (some ⟨g6,4,none⟩)),
        (fun v _=>v=.slice zz.own.A zz.own.n zz.own.c),
        (fun v W=>∃ A c,v=.slice A zz.own.n c∧W.ownsRow W1.heap.size 78 2 v zz.own.n (cellsK encP zz.own.l)),
        (fun v W=>∃ A c A2 c2,v=.agg #[.string ⟨tq.toArray⟩,.string ⟨(p++64 :: n).toArray⟩,.slice A zz.body.n c,.slice none 0 0,.slice A2 zz.own.n c2]∧SetO W W1.heap.size ⟨tq,(p++64 :: n),⟨A,zz.body.n,c,zz.body.l⟩,⟨none,0,0,[]⟩,⟨A2,zz.own.n,c2,zz.own.l⟩⟩),
        (fun v W=>∃ y:TenR,v=y.val∧TenO W W1.heap.size y∧y.con=C.withS (cloneSet p n tq zz.con)),
        (fun v W=>∃ y:TenR,v=.tuple #[y.val,.int .i64 E2]∧(E2=0→TenO W W1.heap.size y∧y.con=C2)∧(E2≠0→y.val=ZEROT)),
        (fun v W=>∃ y:TenR,v=y.val∧(E2=0→TenO W W1.heap.size y∧y.con=C2)∧(E2≠0→y.val=ZEROT)),
        (fun v _=>v=.int .i64 E2),
        (fun _ _=>True),
        (fun v _=>v=.int .i64 E2)] ?_ (early1 (by kernel_rfl)) ?_ ?_ (fun W W'=>∃ y:TenR,W'=W.setCells (w.heap.size+1) 0 y.cells.toArray.toList∧(E2=0→TenO W W1.heap.size y∧y.con=C2)∧(E2≠0→y.val=ZEROT)) ?_ (by decide) (fun _ _=>trivial) ?_
      ·repeat' (first | exact stays_nil | refine stays_cons ?_ ?_ | exact Stays.pure | exact (fun v W W' h hb=>let ⟨A,c,h1,h2⟩:=h;⟨A,c,h1,own_below h2 hb⟩) | exact (fun v W W' h hb=>let ⟨A,c,A2,c2,h1,h2⟩:=h;⟨A,c,A2,c2,h1,h2.below hb⟩) | exact (fun v W W' h hb=>let ⟨y,h1,h2,h3⟩:=h;⟨y,h1,h2.below hb,h3⟩) | exact (fun v W W' h hb=>let ⟨y,h1,h2,h3⟩:=h;⟨y,h1,fun h0=>⟨(h2 h0).1.below hb,(h2 h0).2⟩,h3⟩))
      ·intro i oo ho hiS hil mf W hb0 hmi hcl hdeps AA KK hA hK
       rcases i with _ | _ | _ | _ | _ | _ | _ | _ | _ | _ | _ | _ | _ | _ | _ | _ | _ | _ | i
       ·injection ho with ho;subst ho
        have ef4:AA.tmps[4]?.getD undef=.pointer (some ⟨w.heap.size,0,none⟩):=tF hA
        clear hA hdeps hcl hmi hiS hil
        obtain ⟨c0,c1,c2,c3,c4,c5,c6,s2,s4⟩:=hS.out W hb0
        have hK0:KK (AA.put (some 63) _) _:=hK (TV) _ (Below.refl _ _) (Eq.refl _)
        clear hK
        rw [HTV.out] at hK0
        go_simp
        exact hK0
       ·injection ho with ho;subst ho
        have ef3:AA.tmps[3]?.getD undef=.string ⟨tq.toArray⟩:=tF hA
        exact zP
       ·injection ho with ho;subst ho
        have ef1:AA.tmps[1]?.getD undef=.string ⟨p.toArray⟩:=tF hA
        exact zP
       ·injection ho with ho;subst ho
        have ef2:AA.tmps[2]?.getD undef=.string ⟨n.toArray⟩:=tF hA
        exact zP
       ·injection ho with ho;subst ho
        have e2:=eD hdeps hA 2 65
        have e3:=eD hdeps hA 3 66
        clear hA hdeps hcl hmi hiS hil
        have hKK:=hK
        clear hK
        go_simp
        refine (hJN.out W).mono ?_
        rintro e w5 ⟨rfl,hw5⟩
        rw [hw5]
        exact hKK _ _ (Below.refl _ _) (Eq.refl _)
       ·injection ho with ho;subst ho
        have ef15:AA.tmps[15]?.getD undef=.pointer (some ⟨g6,0,none⟩):=tF hA
        exact zP
       ·injection ho with ho;subst ho
        have e5:=eD hdeps hA 5 68
        obtain ⟨c0,c1,c2,c3,c4,c5,c6,s2,s4⟩:=hS.out W hb0
        exact zP
       ·injection ho with ho;subst ho
        have e6:=eD hdeps hA 6 69
        clear hA hdeps hcl hmi hiS hil
        have hKK:=hK
        clear hK
        go_simp
        refine (hCB.out W hb0).mono ?_
        rintro e w5 ⟨v,rfl,hv,hbn⟩
        obtain ⟨v1,v3,rfl,_⟩:=own_form hv
        exact hKK _ _ hbn ⟨v1,v3,rfl,own_mono hv (by have:=hb0.size;have:=HB6.out;omega)⟩
       ·injection ho with ho;subst ho
        have ef15:AA.tmps[15]?.getD undef=.pointer (some ⟨g6,0,none⟩):=tF hA
        exact zP
       ·injection ho with ho;subst ho
        have e8:=eD hdeps hA 8 71
        obtain ⟨c0,c1,c2,c3,c4,c5,c6,s2,s4⟩:=hS.out W hb0
        exact zP
       ·injection ho with ho;subst ho
        have e9:=eD hdeps hA 9 72
        clear hA hdeps hcl hmi hiS hil
        have hKK:=hK
        clear hK
        go_simp
        refine (hCP.out W hb0).mono ?_
        rintro e w5 ⟨v,rfl,hv,hbn⟩
        obtain ⟨v1,v3,rfl,_⟩:=own_form hv
        exact hKK _ _ hbn ⟨v1,v3,rfl,own_mono hv (by have:=hb0.size;have:=HB6.out;omega)⟩
       ·injection ho with ho;subst ho
        have e1:=eD hdeps hA 1 64
        have e4:=eD hdeps hA 4 67
        obtain ⟨x7,hx7,hg7⟩:=hdeps ⟨7,.data⟩ (by simp) rfl
        have hg7:∃ A c,x7=.slice A zz.body.n c∧W.ownsRow W1.heap.size 75 2 x7 zz.body.n (cellsK encB zz.body.l):=hg7
        have hk7:=hg7
        obtain ⟨A7,c7,rfl,how7⟩:=hg7
        have e7:AA.tmps[70]?.getD undef=.slice A7 zz.body.n c7:=tO hA hx7
        obtain ⟨x10,hx10,hg10⟩:=hdeps ⟨10,.data⟩ (by simp) rfl
        have hg10:∃ A c,x10=.slice A zz.own.n c∧W.ownsRow W1.heap.size 78 2 x10 zz.own.n (cellsK encP zz.own.l):=hg10
        have hk10:=hg10
        obtain ⟨A10,c10,rfl,how10⟩:=hg10
        have e10:AA.tmps[73]?.getD undef=.slice A10 zz.own.n c10:=tO hA hx10
        clear hA hdeps hcl hmi hiS hil hx7 hx10
        have hK0:KK (AA.put (some 74) _) _:=hK (.agg #[.string ⟨tq.toArray⟩,.string ⟨(p++64 :: n).toArray⟩,.slice A7 zz.body.n c7,.slice none 0 0,.slice A10 zz.own.n c10]) W (Below.refl _ _) ⟨A7,c7,A10,c10,rfl,⟨HZ6.out.body.1,how7⟩,⟨rfl,rfl,.inl ⟨rfl,rfl⟩⟩,fun y hy=>(by cases hy),⟨HZ6.out.own.1,how10⟩⟩
        clear hK
        go_simp
        exact hK0
       ·injection ho with ho;subst ho
        have e0:=eD hdeps hA 0 63
        obtain ⟨x11,hx11,hg11⟩:=hdeps ⟨11,.data⟩ (by simp) rfl
        have hg11:∃ A c A2 c2,x11=.agg #[.string ⟨tq.toArray⟩,.string ⟨(p++64 :: n).toArray⟩,.slice A zz.body.n c,.slice none 0 0,.slice A2 zz.own.n c2]∧SetO W W1.heap.size ⟨tq,(p++64 :: n),⟨A,zz.body.n,c,zz.body.l⟩,⟨none,0,0,[]⟩,⟨A2,zz.own.n,c2,zz.own.l⟩⟩:=hg11
        have hk11:=hg11
        obtain ⟨A11,c11,Ax11,cx11,rfl,how11⟩:=hg11
        have e11:AA.tmps[74]?.getD undef=.agg #[.string ⟨tq.toArray⟩,.string ⟨(p++64 :: n).toArray⟩,.slice A11 zz.body.n c11,.slice none 0 0,.slice Ax11 zz.own.n cx11]:=tO hA hx11
        clear hA hdeps hcl hmi hiS hil hx11
        have hKK:=hK
        clear hK
        go_simp
        have hc:=hWI.out k HAT.out ⟨tq,(p++64 :: n),⟨A11,zz.body.n,c11,zz.body.l⟩,⟨none,0,0,[]⟩,⟨Ax11,zz.own.n,cx11,zz.own.l⟩⟩ rfl W how11 (HW6.out.trans (hb0.mono HW6.out.size))
        refine hc.mono ?_
        rintro e w5 ⟨y,rfl,ho,hy,hbn⟩
        exact hKK _ _ hbn ⟨y,rfl,ho,hy⟩
       ·injection ho with ho;subst ho
        obtain ⟨x12,hx12,hg12⟩:=hdeps ⟨12,.data⟩ (by simp) rfl
        have hg12:∃ y:TenR,x12=y.val∧TenO W W1.heap.size y∧y.con=C.withS (cloneSet p n tq zz.con):=hg12
        have hk12:=hg12
        obtain ⟨y12,rfl,ho12,hy12⟩:=hg12
        have e12:AA.tmps[75]?.getD undef=TenR.val y12:=tO hA hx12
        clear hA hdeps hcl hmi hiS hil hx12
        have hKK:=hK
        clear hK
        go_simp
        have hc:=hSE.out y12 _ hy12 HCS.out W ho12 (HW6.out.trans (hb0.mono HW6.out.size))
        rw [← HV2.out] at hc
        refine hc.mono ?_
        rintro e w5 ⟨v,rfl,hbn,h⟩
        have hsz5:W1.heap.size≤W.heap.size:=by have:=hb0.size;have:=HB6.out;omega
        rcases h with ⟨h1,rfl⟩ | ⟨h1,z,rfl,h2,h3⟩
        ·exact hKK _ _ hbn ⟨ten0R,rfl,fun h=>absurd h h1,fun _=>rfl⟩
        ·exact hKK _ _ hbn ⟨z,rfl,fun _=>⟨h2.mono hsz5,h3⟩,fun h=>absurd h1 h⟩
       ·injection ho with ho;subst ho
        obtain ⟨x13,hx13,hg13⟩:=hdeps ⟨13,.data⟩ (by simp) rfl
        have hg13:∃ y:TenR,x13=.tuple #[y.val,.int .i64 E2]∧(E2=0→TenO W W1.heap.size y∧y.con=C2)∧(E2≠0→y.val=ZEROT):=hg13
        have hk13:=hg13
        obtain ⟨y13,rfl,ho13,hy13⟩:=hg13
        have e13:AA.tmps[76]?.getD undef=.tuple #[TenR.val y13,.int .i64 E2]:=tO hA hx13
        clear hA hdeps hcl hmi hiS hil hx13
        have hK0:KK (AA.put (some 77) _) _:=hK (TenR.val y13) W (Below.refl _ _) ⟨y13,rfl,ho13,hy13⟩
        clear hK
        go_simp
        exact hK0
       ·injection ho with ho;subst ho
        obtain ⟨x13,hx13,hg13⟩:=hdeps ⟨13,.data⟩ (by simp) rfl
        have hg13:∃ y:TenR,x13=.tuple #[y.val,.int .i64 E2]∧(E2=0→TenO W W1.heap.size y∧y.con=C2)∧(E2≠0→y.val=ZEROT):=hg13
        have hk13:=hg13
        obtain ⟨y13,rfl,ho13,hy13⟩:=hg13
        have e13:AA.tmps[76]?.getD undef=.tuple #[TenR.val y13,.int .i64 E2]:=tO hA hx13
        exact zP
       ·exact absurd rfl hiS
       ·exact absurd (by decide) hil
       ·simp at ho
      ·intro i oo ho hil mf W W9 hmi hdeps AA KK hA hK
       rcases i with _ | _ | _ | _ | _ | _ | _ | _ | _ | _ | _ | _ | _ | _ | _ | _ | _ | _ | i
       ·exact absurd hil (by decide)
       ·exact absurd hil (by decide)
       ·exact absurd hil (by decide)
       ·exact absurd hil (by decide)
       ·exact absurd hil (by decide)
       ·exact absurd hil (by decide)
       ·exact absurd hil (by decide)
       ·exact absurd hil (by decide)
       ·exact absurd hil (by decide)
       ·exact absurd hil (by decide)
       ·exact absurd hil (by decide)
       ·exact absurd hil (by decide)
       ·exact absurd hil (by decide)
       ·exact absurd hil (by decide)
       ·exact absurd hil (by decide)
       ·exact absurd hil (by decide)
       ·exact absurd hil (by decide)
       ·injection ho with ho;subst ho
        have e15:=eL hdeps hA 15 78
        clear hA hdeps hmi
        have hK0:KK (AA.put (some 9) _) _:=hK (.int .i64 E2) (fun _=>Eq.refl _)
        clear hK
        go_simp
        exact hK0
       ·exact absurd hil (by simp)
      ·intro oo ho mf W hb0 hmi hdeps AA KK hA hK
       injection ho with ho;subst ho
       obtain ⟨x14,hx14,hg14⟩:=hdeps ⟨14,.data⟩ (by simp) rfl
       have hg14:∃ y:TenR,x14=y.val∧(E2=0→TenO W W1.heap.size y∧y.con=C2)∧(E2≠0→y.val=ZEROT):=hg14
       obtain ⟨y14,rfl,ho14,hy14⟩:=hg14
       have e14:AA.tmps[77]?.getD undef=TenR.val y14:=tO hA hx14
       have ef8:AA.tmps[8]?.getD undef=.pointer (some ⟨w.heap.size+1,0,none⟩):=tF hA
       clear hA hdeps hmi
       have hth:=(hKz.out W (HW6.out.trans (hb0.mono HW6.out.size))).there 7 (by decide)
       rw [if_pos (show Region.wanted _ _=true from rfl)]
       refine wp_store_mid 27 (.tmp 8) (.tmp 77) rfl (w.heap.size+1) 0 y14.cells.toArray (by simpa [Act.eval] using ef8) (by simpa [Act.eval,TenR.val] using e14) hth (by kernel_rfl) (by simp [TenR.cells,strV,FS.val,Value.oneCell']) ?_
       exact hK _ ⟨y14,rfl,ho14,hy14⟩
      ·intro mf W9 W hb9 hR hall hSm
       have zm0:=dV (hall 0 (by simp) (by decide))
       have zm1:=dV (hall 1 (by simp) (by decide))
       have zm2:=dV (hall 2 (by simp) (by decide))
       have zm3:=dV (hall 3 (by simp) (by decide))
       have zm4:=dV (hall 4 (by simp) (by decide))
       have zm5:=dV (hall 5 (by simp) (by decide))
       have zm6:=dV (hall 6 (by simp) (by decide))
       obtain ⟨x7,zm7,hg7⟩:=hall 7 (by simp) (by decide)
       have hg7:∃ A c,x7=.slice A zz.body.n c∧W9.ownsRow W1.heap.size 75 2 x7 zz.body.n (cellsK encB zz.body.l):=hg7
       have zm8:=dV (hall 8 (by simp) (by decide))
       have zm9:=dV (hall 9 (by simp) (by decide))
       obtain ⟨x10,zm10,hg10⟩:=hall 10 (by simp) (by decide)
       have hg10:∃ A c,x10=.slice A zz.own.n c∧W9.ownsRow W1.heap.size 78 2 x10 zz.own.n (cellsK encP zz.own.l):=hg10
       obtain ⟨x11,zm11,hg11⟩:=hall 11 (by simp) (by decide)
       have hg11:∃ A c A2 c2,x11=.agg #[.string ⟨tq.toArray⟩,.string ⟨(p++64 :: n).toArray⟩,.slice A zz.body.n c,.slice none 0 0,.slice A2 zz.own.n c2]∧SetO W9 W1.heap.size ⟨tq,(p++64 :: n),⟨A,zz.body.n,c,zz.body.l⟩,⟨none,0,0,[]⟩,⟨A2,zz.own.n,c2,zz.own.l⟩⟩:=hg11
       obtain ⟨x12,zm12,hg12⟩:=hall 12 (by simp) (by decide)
       have hg12:∃ y:TenR,x12=y.val∧TenO W9 W1.heap.size y∧y.con=C.withS (cloneSet p n tq zz.con):=hg12
       obtain ⟨x13,zm13,hg13⟩:=hall 13 (by simp) (by decide)
       have hg13:∃ y:TenR,x13=.tuple #[y.val,.int .i64 E2]∧(E2=0→TenO W9 W1.heap.size y∧y.con=C2)∧(E2≠0→y.val=ZEROT):=hg13
       obtain ⟨x14,zm14,hg14⟩:=hall 14 (by simp) (by decide)
       have hg14:∃ y:TenR,x14=y.val∧(E2=0→TenO W9 W1.heap.size y∧y.con=C2)∧(E2≠0→y.val=ZEROT):=hg14
       have zm15:=dV (hall 15 (by simp) (by decide))
       have zm17:=dV (hall 17 (by simp) (by decide))
       rw [frameM_all (by kernel_rfl) [TV,.string ⟨tq.toArray⟩,.string ⟨p.toArray⟩,.string ⟨n.toArray⟩,.string ⟨(p++64 :: n).toArray⟩,.pointer (some ⟨g6,2,none⟩),.slice zz.body.A zz.body.n zz.body.c,x7,.pointer (some ⟨g6,4,none⟩),.slice zz.own.A zz.own.n zz.own.c,x10,x11,x12,x13,x14,.int .i64 E2,undef,.int .i64 E2] rfl (fun i hi=>by rcases i with _ | _ | _ | _ | _ | _ | _ | _ | _ | _ | _ | _ | _ | _ | _ | _ | _ | _ | i <;> first | assumption | (simp at hi;omega))]
       clear hall hSm zm0 zm1 zm2 zm3 zm4 zm5 zm6 zm7 zm8 zm9 zm10 zm11 zm12 zm13 zm14 zm15 zm17
       simp only [putAll,Act.put,zA,zC,zB]
       obtain ⟨y,hW,hy1,hy2⟩:=hR
       have hw9:=HW6.out.trans (hb9.mono HW6.out.size)
       obtain ⟨WR,hWR,hth,HL,HBW,hgw⟩:=res7 (g:=(w.heap.size+1)) y.cells (hKz.out W9 hw9) (hBW.out W9 hw9) (by omega)
       rw [← hWR] at hW
       subst hW
       clear hWR hg7 hg10 hg11 hg12 hg13 hg14
       go_wp2_with fail
       refine bodyPost_ret (v:=.tuple #[y.val,.int .i64 E2]) (results_cell_tmp rfl rfl HL.out) rfl ?_
       rw [HX.out]
       refine ⟨y.val,rfl,HBW.out,?_⟩
       by_cases hE2:E2=0
       ·exact .inr ⟨hE2,y,rfl,((hy1 hE2).1.keptT hgw (hKz.out W9 hw9) offT_ten).mono (by have:=HW6.out;have:=hSZ.out W1 hW0.out;omega),(hy1 hE2).2⟩
       ·exact .inl ⟨hE2,hy2 hE2⟩
end Go.Proofs.YtcgclpcocdappaaGreatDoor
