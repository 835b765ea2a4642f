/-
  The page's Tag: a tag more, or less.
-/
import Derived.Test.YtiojfffgiejibaaGreatDoorTtM1
import Derived.WalkKit
import Derived.WalkSpells
import Derived.Below
import Derived.Laws.OwnMore
import Derived.Deep.AppendLies
import Derived.Deep.Draws
import Derived.Laws.Rows
import Derived.Maps.AppendAt
import Derived.RegionTactic
import Derived.OwnWalk
import Derived.Deep.QuietTactic
import Derived.BigQuiet
import Derived.Lib.Hide
import Derived.Laws.CopyOwn
import Derived.IntWalk
import Derived.Test.YtiojfffgiejibaaGreatDoorRows
import Derived.Handy
import Derived.Lib.AppendZeros
import Derived.ProofKit
import Derived.Deep.Quiet
import Derived.OpenShut
import Derived.ShutString
import Derived.ChangeOld
import Derived.Carry
import Derived.SizedLaws
import Derived.JoinedCond
import Derived.Deep.CondSized
import Derived.Deep.Slices
import Derived.Deep.Fields
import Derived.Lib.SmallJoins
import Derived.Orders
import Derived.Lib.SplitLaws
import Derived.Lib.LastIndexByte
import Derived.Lib.Strings
import Derived.Deep.RegionLaw
import Derived.Sort.Walk0
import Derived.Sort.KeysCollected
import Derived.Shelf.SlIter.Nil
import Derived.Shelf.SortM.Plain
import Derived.Shelf.SortM.SortNone
import Derived.Maps.OwnSet
import Derived.Maps.StringElems
import Derived.Deep.MidRow
import Derived.Shelf.Strings.Search1
import Derived.Shelf.Strings.Search2
import Derived.Shelf.Strings.Search3
import Derived.Shelf.Strings.Cut
import Derived.Shelf.Strings.Count
import Derived.Shelf.LaysM
import Derived.Shelf.Strings.Shaped
import Derived.Shelf.Strings.LastIndex
import Derived.Shelf.Strings.Split
import Derived.Shelf.Strings.SplitShaped
import Derived.Shelf.Unicode.Decode
import Derived.Shelf.Strings.RuneCount
import Derived.Shelf.Strings.Explode
import Derived.Shelf.Unicode.DecodeSlow
import Derived.Shelf.Slices.Turned
import Derived.Test.YtiojfffgiejibaaGreatDoorProg
import Derived.Lib.Overlaps
import Derived.Lib.AppendZerosOnto
import Derived.Laws.BytesString
import Derived.Laws.IdiomStrings
import Derived.Lib.ConvBytes
import Derived.Deep.DeepCutAuto
import Derived.Great.BuildSlice
import Derived.Test.YtiojfffgiejibaaGreatDoorT0
import Derived.Test.YtiojfffgiejibaaGreatDoorTt1
import Derived.Test.YtiojfffgiejibaaGreatDoorTt3
import Derived.Test.YtiojfffgiejibaaGreatDoorTt5
import Derived.Test.YtiojfffgiejibaaGreatDoorTt7
import Derived.Test.YtiojfffgiejibaaGreatDoorTt8
import Derived.Test.YtiojfffgiejibaaGreatDoorTt10
import Derived.Test.YtiojfffgiejibaaGreatDoorTt11
import Derived.Test.YtiojfffgiejibaaGreatDoorTt12
import Derived.Test.YtiojfffgiejibaaGreatDoorTt15
import Derived.Test.YtiojfffgiejibaaGreatDoorTt16
import Derived.Test.YtiojfffgiejibaaGreatDoorTt17
import Derived.Test.YtiojfffgiejibaaGreatDoorTt19
import Derived.Test.YtiojfffgiejibaaGreatDoorTt20
import Derived.Test.YtiojfffgiejibaaGreatDoorTt21
import Derived.Test.YtiojfffgiejibaaGreatDoorTt23
import Derived.Test.YtiojfffgiejibaaGreatDoorTt24
import Derived.Test.YtiojfffgiejibaaGreatDoorTt25
import Derived.Test.YtiojfffgiejibaaGreatDoorTt27
import Derived.Test.YtiojfffgiejibaaGreatDoorTt30
import Derived.Test.YtiojfffgiejibaaGreatDoorTt32
import Derived.Test.YtiojfffgiejibaaGreatDoorTt34
import Derived.Test.YtiojfffgiejibaaGreatDoorTt37
import Derived.Test.YtiojfffgiejibaaGreatDoorTt38
import Derived.Test.YtiojfffgiejibaaGreatDoorTt39
namespace Go.Proofs.YtiojfffgiejibaaGreatDoor
open Go.RowKit
theorem Tryz.rtgStr_info:(Tryz.prog.info? 9).map (fun i=>(i.zero,i.size,i.bytes))=some (some (.string ByteArray.empty),1,16):=tZ2
set_option maxRecDepth 100000 in
set_option maxHeartbeats 8000000 in
theorem rtag_any (t:TenR) (p n:BS) (tg:BS) (put:Bool) (w:World) (B:Nat) (hB:B≤w.heap.size) (hr:t.rd w B) (hz:t.sz) (hst:t.stages.n≤500000000000) (hp:p.length≤3000000000) (hn:n.length≤3000000000) (htg:tg.length≤4000000000) :
  Calls Tryz.prog 31 #[t.val,.string ⟨p.toArray⟩,.string ⟨n.toArray⟩,.string ⟨tg.toArray⟩,.bool put] w (TenPost w (t.con.tag p n tg put)):=by
 obtain ⟨V,hV⟩:∃ V,V=t.con.tag p n tg put:=⟨_,rfl⟩
 rw [← hV]
 obtain ⟨R,hR⟩:∃ R,R=t.con.rfound p n (nameB tg) true:=⟨_,rfl⟩
 have hway:=rfound_way t t.sets.l rfl p n (nameB tg) R hR
 have hcz:=TenC.sz_of hr hz
 obtain ⟨nm,qu,nx,⟨s1,sn,s3,sl⟩,⟨gA,gN,gC,gL⟩,⟨t1,tn,t3,tl⟩,⟨l1,ln,l3,ll⟩⟩:=t
 show Calls Tryz.prog 31 #[.agg #[.string ⟨nm.toArray⟩,.int .i64 qu,.int .i64 nx,.slice s1 sn s3,.slice gA gN gC,.slice t1 tn t3,.slice l1 ln l3],.string ⟨p.toArray⟩,.string ⟨n.toArray⟩,.string ⟨tg.toArray⟩,.bool put] w _
 have hb:=(((Below.refl w.heap.size w).alloc (Nat.le_refl _) (.cells #[.string ⟨nm.toArray⟩,.int .i64 qu,.int .i64 nx,.slice s1 sn s3,.slice gA gN gC,.slice t1 tn t3,.slice l1 ln l3] 27)).alloc tZ4 (.cells #[.string ⟨#[]⟩,.int .i64 0,.int .i64 0,.slice none 0 0,.slice none 0 0,.slice none 0 0,.slice none 0 0] 27))
 have kt:=Blk.new w 27 #[.string ⟨nm.toArray⟩,.int .i64 qu,.int .i64 nx,.slice s1 sn s3,.slice gA gN gC,.slice t1 tn t3,.slice l1 ln l3]
 replace kt:=kt.alloc (.cells #[.string ⟨#[]⟩,.int .i64 0,.int .i64 0,.slice none 0 0,.slice none 0 0,.slice none 0 0,.slice none 0 0] 27)
 have kz:=Blk.new (w.alloc (.cells #[.string ⟨nm.toArray⟩,.int .i64 qu,.int .i64 nx,.slice s1 sn s3,.slice gA gN gC,.slice t1 tn t3,.slice l1 ln l3] 27)) 27 #[.string ⟨#[]⟩,.int .i64 0,.int .i64 0,.slice none 0 0,.slice none 0 0,.slice none 0 0,.slice none 0 0]
 rw [show (w.alloc (.cells #[.string ⟨nm.toArray⟩,.int .i64 qu,.int .i64 nx,.slice s1 sn s3,.slice gA gN gC,.slice t1 tn t3,.slice l1 ln l3] 27)).heap.size=w.heap.size+1 by simp] at kz
 have hsz:((w.alloc (.cells #[.string ⟨nm.toArray⟩,.int .i64 qu,.int .i64 nx,.slice s1 sn s3,.slice gA gN gC,.slice t1 tn t3,.slice l1 ln l3] 27)).alloc (.cells #[.string ⟨#[]⟩,.int .i64 0,.int .i64 0,.slice none 0 0,.slice none 0 0,.slice none 0 0,.slice none 0 0] 27)).heap.size=w.heap.size+2:=tZ4
 obtain ⟨W1,hW1⟩:∃ W,W=((w.alloc (.cells #[.string ⟨nm.toArray⟩,.int .i64 qu,.int .i64 nx,.slice s1 sn s3,.slice gA gN gC,.slice t1 tn t3,.slice l1 ln l3] 27)).alloc (.cells #[.string ⟨#[]⟩,.int .i64 0,.int .i64 0,.slice none 0 0,.slice none 0 0,.slice none 0 0,.slice none 0 0] 27)):=⟨_,rfl⟩
 rw [← hW1] at hb hsz kt kz
 have hKt:Hid (∀ W,Below W1.heap.size W1 W→Blk W w.heap.size 27 #[.string ⟨nm.toArray⟩,.int .i64 qu,.int .i64 nx,.slice s1 sn s3,.slice gA gN gC,.slice t1 tn t3,.slice l1 ln l3]):=fun W h=>kt.below h tZ1
 have hKz:Hid (∀ W,Below W1.heap.size W1 W→Blk W (w.heap.size+1) 27 #[.string ⟨#[]⟩,.int .i64 0,.int .i64 0,.slice none 0 0,.slice none 0 0,.slice none 0 0,.slice none 0 0]):=fun W h=>kz.below h tZ1
 have hBW:Hid (∀ W,Below W1.heap.size W1 W→Below w.heap.size w W):=fun W h=>hb.trans (h.mono tZ1)
 have hSZ:Hid (∀ W,Below W1.heap.size W1 W→w.heap.size+2≤W.heap.size):=fun W h=>by have:=h.size;omega
 have hW0:Hid (Below W1.heap.size W1 W1):=Below.refl _ _
 have hrw:Hid (∀ W,Below W1.heap.size W1 W→TenR.rd W B ⟨nm,qu,nx,⟨s1,sn,s3,sl⟩,⟨gA,gN,gC,gL⟩,⟨t1,tn,t3,tl⟩,⟨l1,ln,l3,ll⟩⟩∧B≤W.heap.size):=fun W h =>
  ⟨TenR.rd.below hr ((hBW.out W h).mono hB),by have:=hSZ.out W h;omega⟩
 obtain ⟨C,hC⟩:∃ C,C=TenR.con ⟨nm,qu,nx,⟨s1,sn,s3,sl⟩,⟨gA,gN,gC,gL⟩,⟨t1,tn,t3,tl⟩,⟨l1,ln,l3,ll⟩⟩:=⟨_,rfl⟩
 have hHC:=Lib.hid hC
 rw [← hC] at hR hway hcz hV
 simp only at hway hst
 have HR:=Lib.hid hR
 have HV:=Lib.hid hV
 have HCZ:=Lib.hid hcz
 have HZ:=Lib.hid hz
 have HP:=Lib.hid hp
 have HN:=Lib.hid hn
 have hSN:=Lib.hid (show sn=sl.length from hr.sets.1)
 obtain ⟨a0,k0,e0⟩:=R
 obtain ⟨i0,hy0,hy1,hy2,hy3⟩:=info_parts Tryz.rtgStr_info
 obtain ⟨bB,hbB⟩:∃ b,b=nameB tg:=⟨_,rfl⟩
 rw [← hbB] at hR
 obtain ⟨TV,hTV⟩:∃ v,v=Value.agg #[.string ⟨nm.toArray⟩,.int .i64 qu,.int .i64 nx,.slice s1 sn s3,.slice gA gN gC,.slice t1 tn t3,.slice l1 ln l3]:=⟨_,rfl⟩
 have HTV:=Lib.hid hTV
 have hNM:Hid (∀ W,Below W1.heap.size W1 W→Calls Tryz.prog 79 #[.string ⟨tg.toArray⟩] W fun e w'=>e=.returned (.bool bB)∧Below W.heap.size W w'):=fun W h=>by
  rw [hbB]
  exact refNameB_any tg W htg
 have hFO:Hid (∀ W,Below W1.heap.size W1 W→Calls Tryz.prog 74 #[.agg #[.string ⟨nm.toArray⟩,.int .i64 qu,.int .i64 nx,.slice s1 sn s3,.slice gA gN gC,.slice t1 tn t3,.slice l1 ln l3],.string ⟨p.toArray⟩,.string ⟨n.toArray⟩,.bool bB,.bool true] W fun e w'=>e=.returned (.tuple #[.int .i64 a0,.int .i64 k0,.int .i64 e0])∧Below W.heap.size W w'):=fun W h=>by
  have h1:=rfound_any ⟨nm,qu,nx,⟨s1,sn,s3,sl⟩,⟨gA,gN,gC,gL⟩,⟨t1,tn,t3,tl⟩,⟨l1,ln,l3,ll⟩⟩ p n bB true W B (hrw.out W h).2 (hrw.out W h).1 hz tZ1 tZ1
  rw [← hC,← hR] at h1
  exact h1
 have hCP:Hid (∀ W,Below W1.heap.size W1 W→Calls Tryz.prog 17 #[.agg #[.string ⟨nm.toArray⟩,.int .i64 qu,.int .i64 nx,.slice s1 sn s3,.slice gA gN gC,.slice t1 tn t3,.slice l1 ln l3]] W fun e w'=>∃ y:TenR,e=.returned y.val∧TenO w' W.heap.size y∧TenR.eqv ⟨nm,qu,nx,⟨s1,sn,s3,sl⟩,⟨gA,gN,gC,gL⟩,⟨t1,tn,t3,tl⟩,⟨l1,ln,l3,ll⟩⟩ y∧y.sets.l.Pairwise ApartS∧Below W.heap.size W w'):=fun W h =>
  own14A_any nm qu nx s1 sn s3 sl gA gN gC gL t1 tn t3 tl l1 ln l3 ll W B (hrw.out W h).2 (hrw.out W h).1 hz hst
 clear hb hsz kt kz hr hp hn hV hC hz hcz hR hst hbB hTV htg
 go_enter Tryz.func31,Tryz.ntmps31
 have hS0:Hid (∀ W,Below W1.heap.size W1 W→W.cell? ⟨w.heap.size,0,none⟩=some (.string ⟨nm.toArray⟩)∧W.cell? ⟨w.heap.size,1,none⟩=some (.int .i64 qu)∧W.cell? ⟨w.heap.size,2,none⟩=some (.int .i64 nx)∧W.cell? ⟨w.heap.size,3,none⟩=some (.slice s1 sn s3)∧W.cell? ⟨w.heap.size,4,none⟩=some (.slice gA gN gC)∧W.cell? ⟨w.heap.size,5,none⟩=some (.slice t1 tn t3)∧W.cell? ⟨w.heap.size,6,none⟩=some (.slice l1 ln l3)):=fun W h=>blk7 (hKt.out W h)
 go_upto_region 1 with (fail)
 rw [← hW1]
 clear hW1
 refine wp_region_good2 tZ2 tZ2 [(fun v _=>v=TV),
  (fun v _=>v=.string ⟨p.toArray⟩),
  (fun v _=>v=.string ⟨n.toArray⟩),
  (fun v _=>v=.string ⟨tg.toArray⟩),
  (fun v _=>v=.bool bB),
  (fun v _=>v=.tuple #[.int .i64 a0,.int .i64 k0,.int .i64 e0]),
  (fun v _=>v=.tuple #[.int .i64 a0,.int .i64 k0,.int .i64 e0]),
  (fun v _=>v=.int .i64 a0),
  (fun v _=>v=.int .i64 k0),
  (fun v _=>v=.int .i64 e0),
  (fun v _=>v=.int .i64 a0),
  (fun v _=>v=.int .i64 k0),
  (fun v _=>v=.int .i64 e0)] ?_ ?_ ?_
 ·repeat' (first | exact stays_nil | refine stays_cons ?_ ?_ | exact Stays.pure)
 ·intro i oo ho m2 W hb0 hmi hcl hdeps AA KK hA hK
  rcases i with _ | _ | _ | _ | _ | _ | _ | _ | _ | _ | _ | _ | _ | i
  ·injection ho with ho;subst ho
   have ef5:AA.tmps[5]?.getD undef=.pointer (some ⟨w.heap.size,0,none⟩):=tF hA
   clear hA hdeps hcl hmi
   obtain ⟨c0,c1,c2,c3,c4,c5,c6⟩:=hS0.out W hb0
   have hK0:KK (AA.put (some 22) _) _:=hK (TV) _ (Below.refl _ _) (Eq.refl _)
   clear hK
   rw [HTV.out] at hK0
   go_simp
   exact hK0
  ·injection ho with ho;subst ho
   have ef1:AA.tmps[1]?.getD undef=.string ⟨p.toArray⟩:=tF hA
   exact zP
  ·exact mZ171
  ·exact mZ197
  ·injection ho with ho;subst ho
   have e3:=eD hdeps hA 3 25
   clear hA hdeps hcl hmi
   have hKK:=hK
   clear hK
   go_simp
   refine (hNM.out W hb0).mono ?_
   rintro e w5 ⟨rfl,hbn⟩
   exact hKK _ _ hbn (Eq.refl _)
  ·injection ho with ho;subst ho
   have e0:=eD hdeps hA 0 22
   have e1:=eD hdeps hA 1 23
   have e2:=eD hdeps hA 2 24
   have e4:=eD hdeps hA 4 26
   clear hA hdeps hcl hmi
   have hKK:=hK
   clear hK
   go_simp
   have hFO1:=hFO.out W hb0
   rw [← HTV.out] at hFO1
   refine hFO1.mono ?_
   rintro e w5 ⟨rfl,hbn⟩
   exact hKK _ _ hbn (Eq.refl _)
  ·injection ho with ho;subst ho
   have e5:=eD hdeps hA 5 27
   exact zP
  ·exact mZ210
  ·exact mZ210
  ·exact mZ210
  ·injection ho with ho;subst ho
   have e7:=eD hdeps hA 7 28
   exact zP
  ·injection ho with ho;subst ho
   have e8:=eD hdeps hA 8 29
   exact zP
  ·injection ho with ho;subst ho
   have e9:=eD hdeps hA 9 30
   exact zP
  ·simp at ho
 ·intro m W hbx hall
  have m0:=dV (hall 0 tZ4)
  have m1:=dV (hall 1 tZ4)
  have m2:=dV (hall 2 tZ4)
  have m3:=dV (hall 3 tZ4)
  have m4:=dV (hall 4 tZ4)
  have m5:=dV (hall 5 tZ4)
  have m6:=dV (hall 6 tZ4)
  have m7:=dV (hall 7 tZ4)
  have m8:=dV (hall 8 tZ4)
  have m9:=dV (hall 9 tZ4)
  have m10:=dV (hall 10 tZ4)
  have m11:=dV (hall 11 tZ4)
  have m12:=dV (hall 12 tZ4)
  rw [frameM_all tZ2 [TV,.string ⟨p.toArray⟩,.string ⟨n.toArray⟩,.string ⟨tg.toArray⟩,.bool bB,.tuple #[.int .i64 a0,.int .i64 k0,.int .i64 e0],.tuple #[.int .i64 a0,.int .i64 k0,.int .i64 e0],.int .i64 a0,.int .i64 k0,.int .i64 e0,.int .i64 a0,.int .i64 k0,.int .i64 e0] rfl (fun i hi=>by rcases i with _ | _ | _ | _ | _ | _ | _ | _ | _ | _ | _ | _ | _ | i <;> first | assumption | (simp at hi;omega))]
  clear hall m0 m1 m2 m3 m4 m5 m6 m7 m8 m9 m10 m11 m12
  simp only [putAll,Act.put,zA,zC,zB]
  obtain ⟨w2,hw2⟩:∃ w2,w2=W:=⟨_,rfl⟩
  subst hw2
  have HW2:=Lib.hid hbx
  clear hbx hS0
  rcases hway with ⟨E,hE,hRe,aB,kB,hFB⟩ | ⟨k,i,hkl,hil,hRe,hFB,hat,hgk,hgi,hnm⟩
  ·obtain ⟨rfl,rfl,rfl⟩:a0=0∧k0=0∧e0=E:=tZ11
   clear hRe
   have hne:e0≠0:=by rcases hE with h | h | h <;> rw [h] <;> decide
   have hneb:(e0 == 0)=false:=tZ116
   have HX:Hid (V=(e0,C)):=by show _=_;rw [HV.out];exact tag_bad hFB hne
   have HNE:=Lib.hid hne
   clear HV HR hE hne hFB
   have KZ:=Lib.hid (hKz.out w2 HW2.out)
   have HB:=Lib.hid (hBW.out w2 HW2.out)
   obtain ⟨WR,hW4,hth,HL,HBW,hgw⟩:=res7 (g:=(w.heap.size+1)) [.string ⟨#[]⟩,.int .i64 0,.int .i64 0,.slice none 0 0,.slice none 0 0,.slice none 0 0,.slice none 0 0] KZ.out HB.out tZ1
   clear hgw
   go_wp2_with (refine wpList_store_mid rfl 27 (.tmp 10) (.tmp 33) rfl ((w.heap.size+1)) 0 #[.string ⟨#[]⟩,.int .i64 0,.int .i64 0,.slice none 0 0,.slice none 0 0,.slice none 0 0,.slice none 0 0] rfl rfl hth.out tZ2 tZ5 ?_;rw [← hW4];clear hW4)
   exact mZ202
  ·obtain ⟨rfl,rfl,rfl⟩:a0=(k:Int)∧k0=(i:Int)∧e0=0:=tZ11
   clear hRe
   have htok0:TagsOk (sl[k]'hkl).snaps.l[i].con.tags:=by
    exact mZ201
   have hX0:V=if put=true∧(tagRun tg put (sl[k]'hkl).snaps.l[i].con.tags).2.1=true then (6,C) else if put=true∧(sl[k]'hkl).snaps.l[i].con.tags.length=4 then (3,C) else if put=false∧(tagRun tg put (sl[k]'hkl).snaps.l[i].con.tags).2.1=false then (71,C) else (0,C.putS k ((sl[k]'hkl).con.retag i (sl[k]'hkl).snaps.l[i].con (tagEnd tg (tagRun tg put (sl[k]'hkl).snaps.l[i].con.tags)))):=by rw [HV.out];exact tag_at hFB hgk hgi htok0
   clear HV HR hFB hat
   have hrk:=(hrw.out w2 HW2.out).1
   have hks:k<sn:=tZ44
   have hki:(k:Int)<(sn:Int):=tZ1
   have hk0:(0:Int)≤(k:Int):=tZ1
   obtain ⟨ad,hsa,-,fa0,fa1,fa2,fa3,fa4⟩:=set_at hrk.sets.2.2 hSN.out hks
   simp only at hsa
   have hx:=hrk.eachS _ (List.getElem_mem hkl)
   have hzx:=HZ.out.eachS _ (List.getElem_mem hkl)
   obtain ⟨x,hxx⟩:∃ x,x=sl[k]'hkl:=⟨_,rfl⟩
   simp only [← hxx] at fa0 fa1 fa2 fa3 fa4 hx hzx hgk hil hgi hnm
   have hin:i<x.snaps.n:=tZ86
   have hii:(i:Int)<(x.snaps.n:Int):=tZ1
   have hi0:(0:Int)≤(i:Int):=tZ1
   obtain ⟨az,hza,-,fb0,fb1,fb2,fb3,fb4⟩:=snap_at hx.snaps.2.2 hx.snaps.1 hin
   obtain ⟨zz,hzz⟩:∃ z,z=x.snaps.l[i]'hil:=⟨_,rfl⟩
   have hxi:=hx.each _ (List.getElem_mem hil)
   have hzi:=hzx.each _ (List.getElem_mem hil)
   simp only [← hzz] at fb0 fb1 fb2 fb3 fb4 hgi hnm hxi hzi
   have hX1:V=if put=true∧(tagRun tg put (x.snaps.l[i]'hil).con.tags).2.1=true then (6,C) else if put=true∧(x.snaps.l[i]'hil).con.tags.length=4 then (3,C) else if put=false∧(tagRun tg put (x.snaps.l[i]'hil).con.tags).2.1=false then (71,C) else (0,C.putS k (x.con.retag i (x.snaps.l[i]'hil).con (tagEnd tg (tagRun tg put (x.snaps.l[i]'hil).con.tags)))):=by have h:=hX0;simpa only [hxx] using h
   have htok:TagsOk (x.snaps.l[i]'hil).con.tags:=tZ108
   rw [← hzz] at hX1 htok
   have htok:TagsOk zz.tags.l:=htok
   have htl:zz.con.tags.length=zz.tags.n:=hxi.tags.1.symm
   rw [htl] at hX1
   have hX2:V=if put=true∧(tagRun tg put zz.tags.l).2.1=true then (6,C) else if put=true∧zz.tags.n=4 then (3,C) else if put=false∧(tagRun tg put zz.tags.l).2.1=false then (71,C) else (0,C.putS k (x.con.retag i zz.con (tagEnd tg (tagRun tg put zz.tags.l)))):=hX1
   have htn4:zz.tags.n≤4:=by have h1:=htok.len;have h2:=hxi.tags.1;omega
   have hrt:=hxi.tags
   obtain ⟨zc,hzc⟩:∃ c,c=zz.con:=⟨_,rfl⟩
   have HZC:Hid (x.con.snaps[i]?=some zc):=by show _=_;rw [hzc];exact hgi
   rw [← hzc] at hX2
   obtain ⟨⟨tA,tN,tC,tL⟩,hts⟩:∃ s,s=zz.tags:=⟨_,rfl⟩
   rw [← hts] at hX2 htn4 hrt fb3
   simp only at hX2 htn4 fb3
   have HXa:=Lib.hid hX2
   have HTL:Hid (tN=tL.length):=hrt.1
   have HRT:Hid (∀ W,Below w2.heap.size w2 W→Reads W B 1 tA tN (scells tL)):=fun W h=>by
    rw [← scells_enc]
    exact hrt.2.2.below (h.mono (hrw.out w2 HW2.out).2)
   have HGK:=Lib.hid hgk
   have HXN:=Lib.hid hx.snaps.1
   have HIL:=Lib.hid hil
   have HT4:=Lib.hid htn4
   subst hsa
   rw [hza] at fa3
   clear hX0 hX1 hX2 htok0 htl htok hrt hzc hts hxx hzz hx hzx hxi hzi hrk hin hgi hgk hnm hza fb0 fb1 fb2 fb4 fa0 fa1 fa2 fa4 htn4
   have kk:=hKt.out w2 HW2.out
   obtain ⟨c0,c1,c2,c3,c4,c5,c6⟩:=(⟨kk.cell 0,kk.cell 1,kk.cell 2,kk.cell 3,kk.cell 4,kk.cell 5,kk.cell 6⟩:_∧_∧_∧_∧_∧_∧_)
   simp only [zF,zD,zE] at c0 c1 c2 c3 c4 c5 c6
   clear kk
   go_wp2_with fail
   clear c0 c1 c2 c3 c4 c5 c6 fa3 fb3
   go_loopw [15,16,17,19] (fun l b d j wr=>∃ (q m:Nat) (A:Option Addr) (c:Nat) (Lq:List BS) (bi bd:Bool),q≤tN∧j=.int .i64 (q:Int)∧l=.slice A m c∧b=.bool bi∧d=.bool bd∧Hid (tagRun tg put (tL.take q)=(Lq,bi,bd))∧Hid (m≤2*q)∧Hid (wr.ownsRow w2.heap.size 9 1 (.slice A m c) m (scells Lq))∧Hid (Below w2.heap.size w2 wr)) (fun _ _ _ j _=>tN-(intOf j).toNat)
   case atStart=>exact ⟨0,0,none,0,[],false,!put,Nat.zero_le _,rfl,rfl,rfl,rfl,rfl,Nat.zero_le _,World.ownsRow_nil _ _ _ _,Below.refl _ _⟩
   case round =>
    obtain ⟨wo,hwo⟩:∃ W,W=wr:=⟨_,rfl⟩
    subst hwo
    obtain ⟨q,m,A,c,Lq,bi,bd,hq,rfl,rfl,rfl,rfl,HQ,HM,HO,HB⟩:=hrel
    have hT4:=HT4.out
    by_cases hlt:q<tN
    ·have hqi:(q:Int)<(tN:Int):=tZ1
     have hq0:(0:Int)≤(q:Int):=tZ1
     have hql:q<tL.length:=tZ154
     have hm8:m≤8:=tZ68
     obtain ⟨ad,hA,-,c0⟩:=strs_at (HRT.out wo HB.out) HTL.out hlt
     subst hA
     have HST:Hid (tagRun tg put (tL.take (q+1))=tagStep tg (Lq,bi,bd) (tL[q]'hql)):=by show _=_;rw [tagRun_succ tg put tL q hql,HQ.out]
     have HEL:Hid (∀ W,Below w2.heap.size w2 W→W.cell? (ad.add q)=some (.string ⟨(tL[q]'hql).toArray⟩)):=by
      show ∀ W,_→_
      intro W h
      obtain ⟨ad2,hA2,-,c2⟩:=strs_at (HRT.out W h) HTL.out hlt
      injection hA2 with hA2
      subst hA2
      exact c2
     obtain ⟨xt,hxt⟩:∃ x,x=tL[q]'hql:=⟨_,rfl⟩
     rw [← hxt] at HST HEL
     clear c0 hxt
     have e0:=HEL.out wo HB.out
     have hls:=lssS 9 tg xt
     cases bd with
     | true =>
      by_cases hx:xt=tg
      ·have hx:=hx.symm
       subst hx
       have HNX:Hid (tagRun tg put (tL.take (q+1))=(Lq,true,true)):=by show _=_;rw [HST.out];unfold tagStep;simp []
       go_wp2_with fail
       go_roundw
       case rel=>exact ⟨q+1,m,A,_,Lq,true,true,by omega,by go_num,rfl,rfl,rfl,HNX.out,by show _≤_;have:=HM.out;omega,HO,HB⟩
       case measure=>simp [intOf];omega
      ·have hx1:(xt == tg)=false:=tZ45
       have hx2:(xt.toArray == tg.toArray)=false:=tZ45
       have hx3:¬ tg=xt:=fun h=>hx h.symm
       have HNX:Hid (tagRun tg put (tL.take (q+1))=(Lq++[xt],bi,true)):=by show _=_;rw [HST.out];unfold tagStep;simp [hx]
       go_wp2_with (at_builtin;(refine wpList_push wo rfl (.tmp 73) (.tmp 78) _ rfl w2.heap.size 9 i0 _ 1 16 Tryz.underlying51 hy0 hy1 hy2 hy3 rfl tZ1 (.slice A m c) m _ rfl HO.out 1 #[.string ⟨xt.toArray⟩] _ rfl rfl tZ5 tZ12 tZ1 HB.out.size ?_);intro v5 w5 ho5 hb5 hg5;obtain ⟨A5,c5,rfl,_⟩:=own_form ho5;have HO5:=Lib.hid ho5;have HB5:=Lib.hid (HB.out.trans hb5);have e5:=HEL.out _ HB5.out;clear ho5 hb5 hg5)
       go_roundw
       case rel=>exact ⟨q+1,m+1,A5,_,Lq++[xt],bi,true,by omega,by go_num,rfl,rfl,rfl,HNX.out,by show _≤_;have:=HM.out;omega,by show World.ownsRow _ _ _ _ _ _ _;have h:=HO5.out;simpa [scells,strV] using h,HB5⟩
       case measure=>simp [intOf];omega
     | false =>
      cases hle:Op.bytesLess tg xt with
      | true =>
       have hx:¬ xt=tg:=(blt_ne hle).symm
       have hx1:(xt == tg)=false:=tZ45
       have hx2:(xt.toArray == tg.toArray)=false:=tZ45
       rw [hle] at hls
       have HNX:Hid (tagRun tg put (tL.take (q+1))=(Lq++[tg]++[xt],bi,true)):=tZ95
       go_wp2_with (first | (at_builtin;(refine wpList_push wo rfl (.tmp 63) (.tmp 65) _ rfl w2.heap.size 9 i0 _ 1 16 Tryz.underlying51 hy0 hy1 hy2 hy3 rfl tZ1 (.slice A m c) m _ rfl HO.out 1 #[.string ⟨tg.toArray⟩] _ rfl rfl tZ5 tZ12 tZ1 HB.out.size ?_);intro v5 w5 ho5 hb5 hg5;obtain ⟨A5,c5,rfl,_⟩:=own_form ho5;have HO5:=Lib.hid ho5;have HB5:=Lib.hid (HB.out.trans hb5);have e5:=HEL.out _ HB5.out;clear ho5 hb5 hg5) | (at_builtin;(refine wpList_push w5 rfl (.tmp 73) (.tmp 78) _ rfl w2.heap.size 9 i0 _ 1 16 Tryz.underlying51 hy0 hy1 hy2 hy3 rfl tZ1 (.slice A5 (m+1) c5) (m+1) _ rfl HO5.out 1 #[.string ⟨xt.toArray⟩] _ rfl rfl tZ5 tZ12 tZ1 HB5.out.size ?_);intro v6 w6 ho6 hb6 hg6;obtain ⟨A6,c6,rfl,_⟩:=own_form ho6;have HO6:=Lib.hid ho6;have HB6:=Lib.hid (HB5.out.trans hb6);have e6:=HEL.out _ HB6.out;clear ho6 hb6 hg6))
       go_roundw
       case rel=>exact ⟨q+1,m+1+1,A6,_,Lq++[tg]++[xt],bi,true,by omega,by go_num,rfl,rfl,rfl,HNX.out,by show _≤_;have:=HM.out;omega,by show World.ownsRow _ _ _ _ _ _ _;have h:=HO6.out;simpa [scells,strV] using h,HB6⟩
       case measure=>simp [intOf];omega
      | false =>
       rw [hle] at hls
       by_cases hx:xt=tg
       ·have hx:=hx.symm
        subst hx
        have HNX:Hid (tagRun tg put (tL.take (q+1))=(Lq,true,false)):=by show _=_;rw [HST.out];unfold tagStep;simp [hle]
        go_wp2_with fail
        go_roundw
        case rel=>exact ⟨q+1,m,A,_,Lq,true,false,by omega,by go_num,rfl,rfl,rfl,HNX.out,by show _≤_;have:=HM.out;omega,HO,HB⟩
        case measure=>simp [intOf];omega
       ·have hx1:(xt == tg)=false:=tZ45
        have hx2:(xt.toArray == tg.toArray)=false:=tZ45
        have HNX:Hid (tagRun tg put (tL.take (q+1))=(Lq++[xt],bi,false)):=tZ95
        go_wp2_with (at_builtin;(refine wpList_push wo rfl (.tmp 73) (.tmp 78) _ rfl w2.heap.size 9 i0 _ 1 16 Tryz.underlying51 hy0 hy1 hy2 hy3 rfl tZ1 (.slice A m c) m _ rfl HO.out 1 #[.string ⟨xt.toArray⟩] _ rfl rfl tZ5 tZ12 tZ1 HB.out.size ?_);intro v5 w5 ho5 hb5 hg5;obtain ⟨A5,c5,rfl,_⟩:=own_form ho5;have HO5:=Lib.hid ho5;have HB5:=Lib.hid (HB.out.trans hb5);have e5:=HEL.out _ HB5.out;clear ho5 hb5 hg5)
        go_roundw
        case rel=>exact ⟨q+1,m+1,A5,_,Lq++[xt],bi,false,by omega,by go_num,rfl,rfl,rfl,HNX.out,by show _≤_;have:=HM.out;omega,by show World.ownsRow _ _ _ _ _ _ _;have h:=HO5.out;simpa [scells,strV] using h,HB5⟩
        case measure=>simp [intOf];omega
    ·obtain rfl:q=tN:=tZ1
     have HQF:Hid (tagRun tg put tL=(Lq,bi,bd)):=by show _=_;rw [← HQ.out,HTL.out,List.take_length]
     have HM8:Hid (m≤8):=by show _≤_;have:=HM.out;omega
     clear HQ HM
     obtain ⟨w3,hw3⟩:∃ W,W=wo:=⟨_,rfl⟩
     subst hw3
     have HQ:=HQF
     have HM:=HM8
     have HTN:=Lib.hid (show q=tL.length from HTL.out)
     have hX3:V=if put=true∧bi=true then (6,C) else if put=true∧q=4 then (3,C) else if put=false∧bi=false then (71,C) else (0,C.putS k (x.con.retag i zc (tagEnd tg (Lq,bi,bd)))):=by rw [HXa.out,HQ.out]
     have HXb:=Lib.hid hX3
     clear hX3 HXa HQ HQF HM8
     go_upto_if 81 with (fail)
     go_cut [15] from 80 to 85 (fun l wx=>∃ (m:Nat) (A:Option Addr) (c:Nat) (LF:List BS),l=.slice A m c∧Hid (LF=tagEnd tg (Lq,bi,bd))∧Hid (wx.ownsRow w2.heap.size 9 1 (.slice A m c) m (scells LF))∧Hid (Below w2.heap.size w2 wx))
     case first =>
      cases bd with
      | true =>
       go_wp2_with fail
       go_meet
       exact ⟨m,A,c,Lq,rfl,rfl,HO,HB⟩
      | false =>
       have hm8:=HM.out
       have HEL:Hid (∀ W:World,Below w2.heap.size w2 W→True):=fun _ _=>trivial
       go_wp2_with (at_builtin;(refine wpList_push w3 rfl (.tmp 82) (.tmp 84) _ rfl w2.heap.size 9 i0 _ 1 16 Tryz.underlying51 hy0 hy1 hy2 hy3 rfl tZ1 (.slice A m c) m _ rfl HO.out 1 #[.string ⟨tg.toArray⟩] _ rfl rfl tZ5 tZ12 tZ1 HB.out.size ?_);intro v5 w5 ho5 hb5 hg5;obtain ⟨A5,c5,rfl,_⟩:=own_form ho5;have HO5:=Lib.hid ho5;have HB5:=Lib.hid (HB.out.trans hb5);have e5:=HEL.out _ HB5.out;clear ho5 hb5 hg5)
       go_meet
       exact ⟨m+1,A5,c5,Lq++[tg],rfl,rfl,by show World.ownsRow _ _ _ _ _ _ _;have h:=HO5.out;simpa [scells,strV] using h,HB5⟩
     case rest =>
      clear HO HB HM
      obtain ⟨m,A,c,LF,rfl,HLF,HO,HB⟩:=hcut
      obtain ⟨w4,hw4⟩:∃ W,W=wc:=⟨_,rfl⟩
      subst hw4
      have hX4:V=if put=true∧bi=true then (6,C) else if put=true∧q=4 then (3,C) else if put=false∧bi=false then (71,C) else (0,C.putS k (x.con.retag i zc LF)):=by rw [HXb.out,HLF.out]
      have HXc:=Lib.hid hX4
      have HW4:=Lib.hid (HW2.out.trans (HB.out.mono HW2.out.size))
      clear hX4 HXb HLF
      go_upto_block 2 with (fail)
      go_cut [] from 86 to 107 (fun wx=>wx=w4∧Hid (V=(0,C.putS k (x.con.retag i zc LF))))
      case first =>
       cases put with
       | true =>
        cases bi with
        | true =>
         have HX:=Lib.hid (HXc.out.trans (if_pos ⟨rfl,rfl⟩))
         clear HXc
         have KZ:=Lib.hid (hKz.out w4 HW4.out)
         have HB:=Lib.hid (hBW.out w4 HW4.out)
         obtain ⟨WR,hW4,hth,HL,HBW,hgw⟩:=res7 (g:=(w.heap.size+1)) [.string ⟨#[]⟩,.int .i64 0,.int .i64 0,.slice none 0 0,.slice none 0 0,.slice none 0 0,.slice none 0 0] KZ.out HB.out tZ1
         clear hgw
         go_wp2_with (refine wpList_store_mid rfl 27 (.tmp 10) (.tmp 91) rfl ((w.heap.size+1)) 0 #[.string ⟨#[]⟩,.int .i64 0,.int .i64 0,.slice none 0 0,.slice none 0 0,.slice none 0 0,.slice none 0 0] rfl rfl hth.out tZ2 tZ5 ?_;rw [← hW4];clear hW4)
         exact mZ194
        | false =>
         have HXd:=Lib.hid (HXc.out.trans (if_neg tZ4))
         clear HXc
         by_cases h4:q=4
         ·have h4b:((q:Int) == 4)=true:=by rw [h4];rfl
          have HX:=Lib.hid (HXd.out.trans (if_pos ⟨rfl,h4⟩))
          clear HXd h4
          have KZ:=Lib.hid (hKz.out w4 HW4.out)
          have HB:=Lib.hid (hBW.out w4 HW4.out)
          obtain ⟨WR,hW4,hth,HL,HBW,hgw⟩:=res7 (g:=(w.heap.size+1)) [.string ⟨#[]⟩,.int .i64 0,.int .i64 0,.slice none 0 0,.slice none 0 0,.slice none 0 0,.slice none 0 0] KZ.out HB.out tZ1
          clear hgw
          go_wp2_with (refine wpList_store_mid rfl 27 (.tmp 10) (.tmp 99) rfl ((w.heap.size+1)) 0 #[.string ⟨#[]⟩,.int .i64 0,.int .i64 0,.slice none 0 0,.slice none 0 0,.slice none 0 0,.slice none 0 0] rfl rfl hth.out tZ2 tZ5 ?_;rw [← hW4];clear hW4)
          exact mZ199
         ·have h4b:((q:Int) == 4)=false:=tZ7
          have HX:=Lib.hid (HXd.out.trans ((if_neg (by simp [h4])).trans (if_neg tZ4)))
          clear HXd
          go_wp2_with fail
          go_meet
          exact ⟨rfl,HX⟩
       | false =>
        have HXd:=Lib.hid (HXc.out.trans ((if_neg tZ4).trans (if_neg tZ4)))
        clear HXc
        cases bi with
        | false =>
         have HX:=Lib.hid (HXd.out.trans (if_pos ⟨rfl,rfl⟩))
         clear HXd
         have KZ:=Lib.hid (hKz.out w4 HW4.out)
         have HB:=Lib.hid (hBW.out w4 HW4.out)
         obtain ⟨WR,hW4,hth,HL,HBW,hgw⟩:=res7 (g:=(w.heap.size+1)) [.string ⟨#[]⟩,.int .i64 0,.int .i64 0,.slice none 0 0,.slice none 0 0,.slice none 0 0,.slice none 0 0] KZ.out HB.out tZ1
         clear hgw
         go_wp2_with (refine wpList_store_mid rfl 27 (.tmp 10) (.tmp 107) rfl ((w.heap.size+1)) 0 #[.string ⟨#[]⟩,.int .i64 0,.int .i64 0,.slice none 0 0,.slice none 0 0,.slice none 0 0,.slice none 0 0] rfl rfl hth.out tZ2 tZ5 ?_;rw [← hW4];clear hW4)
         exact mZ209
        | true =>
         have HX:=Lib.hid (HXd.out.trans (if_neg tZ4))
         clear HXd
         go_wp2_with fail
         go_meet
         exact ⟨rfl,HX⟩
      case rest =>
       obtain ⟨hw,HX⟩:=hcut
       rw [hw]
       clear HXc hw
       have hc:=hCP.out w4 HW4.out
       have kk:=hKt.out w4 HW4.out
       obtain ⟨c0,c1,c2,c3,c4,c5,c6⟩:=(⟨kk.cell 0,kk.cell 1,kk.cell 2,kk.cell 3,kk.cell 4,kk.cell 5,kk.cell 6⟩:_∧_∧_∧_∧_∧_∧_)
       simp only [zF,zD,zE] at c0 c1 c2 c3 c4 c5 c6
       clear kk
       clear hCP
       go_wp2_with fail
       refine hc.mono ?_
       clear hc c0 c1 c2 c3 c4 c5 c6
       rintro e w6 ⟨y,rfl,ho6,he6,hpw,hb6⟩
       have HW6:=Lib.hid (HW4.out.trans (hb6.mono HW4.out.size))
       have HCON:=Lib.hid ((TenR.eqv_iff _ _).1 he6)
       have hlen:y.sets.n=sn:=by
        exact mZ173
       obtain ⟨mm,mq,mx,⟨m1,m2,m3,ml⟩,⟨n1,n2,n3,nl⟩,⟨p1,p2,p3,pl⟩,⟨q1,q2,q3,ql⟩⟩:=y
       replace hlen:m2=sn:=hlen
       replace hpw:ml.Pairwise ApartS:=hpw
       have hms:m2=ml.length:=ho6.sets.1
       have hkm:k<m2:=tZ44
       have hkml:k<ml.length:=tZ1
       obtain ⟨gS,csS,hA,hbg,hblk⟩:=ho6.sets.blk tZ115
       replace hA:m1=some ⟨gS,0,none⟩:=hA
       subst hA
       have hgS6:=hblk.lt
       simp only [TenR.val,TenR.cells,FS.val,strV]
       have hszc:=hSZ.out w4 HW4.out
       have hszn:=hSZ.out w6 HW6.out
       have hb67:=(Below.refl w6.heap.size w6).alloc (Nat.le_refl _) (.cells #[.string ⟨mm.toArray⟩,.int .i64 mq,.int .i64 mx,.slice (some ⟨gS,0,none⟩) m2 m3,.slice n1 n2 n3,.slice p1 p2 p3,.slice q1 q2 q3] 27)
       have ho7:=ho6.below hb67
       have k7:=Blk.new w6 27 #[.string ⟨mm.toArray⟩,.int .i64 mq,.int .i64 mx,.slice (some ⟨gS,0,none⟩) m2 m3,.slice n1 n2 n3,.slice p1 p2 p3,.slice q1 q2 q3]
       have kz7:=(hKz.out w6 HW6.out).alloc (.cells #[.string ⟨mm.toArray⟩,.int .i64 mq,.int .i64 mx,.slice (some ⟨gS,0,none⟩) m2 m3,.slice n1 n2 n3,.slice p1 p2 p3,.slice q1 q2 q3] 27)
       have hbw7:=(hBW.out w6 HW6.out).alloc tZ1 (.cells #[.string ⟨mm.toArray⟩,.int .i64 mq,.int .i64 mx,.slice (some ⟨gS,0,none⟩) m2 m3,.slice n1 n2 n3,.slice p1 p2 p3,.slice q1 q2 q3] 27)
       have hw17:=HW6.out.alloc HW6.out.size (.cells #[.string ⟨mm.toArray⟩,.int .i64 mq,.int .i64 mx,.slice (some ⟨gS,0,none⟩) m2 m3,.slice n1 n2 n3,.slice p1 p2 p3,.slice q1 q2 q3] 27)
       have hsz7:(w6.alloc (.cells #[.string ⟨mm.toArray⟩,.int .i64 mq,.int .i64 mx,.slice (some ⟨gS,0,none⟩) m2 m3,.slice n1 n2 n3,.slice p1 p2 p3,.slice q1 q2 q3] 27)).heap.size=w6.heap.size+1:=tZ4
       obtain ⟨g5,hg5⟩:∃ g,g=w6.heap.size:=⟨_,rfl⟩
       obtain ⟨w7,hW7⟩:∃ W,W=w6.alloc (.cells #[.string ⟨mm.toArray⟩,.int .i64 mq,.int .i64 mx,.slice (some ⟨gS,0,none⟩) m2 m3,.slice n1 n2 n3,.slice p1 p2 p3,.slice q1 q2 q3] 27):=⟨_,rfl⟩
       rw [← hW7] at ho7 k7 kz7 hbw7 hw17 hsz7
       rw [← hg5] at k7 hsz7
       have HW7:=Lib.hid hw17
       have K7:=Lib.hid k7
       have KZ7:=Lib.hid kz7
       have HB7:=Lib.hid hbw7
       have HO7:=Lib.hid ho7
       have HPW:=Lib.hid hpw
       have HKM:=Lib.hid hkml
       have HG5:=Lib.hid (show gS<g5∧w4.heap.size≤gS∧g5<w7.heap.size∧w4.heap.size≤w7.heap.size∧w.heap.size+2≤w4.heap.size by omega)
       have hyc:Hid (TenR.con ⟨mm,mq,mx,⟨some ⟨gS,0,none⟩,m2,m3,ml⟩,⟨n1,n2,n3,nl⟩,⟨p1,p2,p3,pl⟩,⟨q1,q2,q3,ql⟩⟩=C):=tZ51
       have hkm2:(k:Int)<(m2:Int):=tZ1
       obtain ⟨xk,hxk⟩:∃ x,x=ml[k]'hkml:=⟨_,rfl⟩
       have HXK:=Lib.hid hxk
       have hxcon:xk.con=x.con:=by
        exact mZ172
       have HXC:=Lib.hid hxcon
       have hsx7:=ho7.eachS _ (List.getElem_mem hkml)
       simp only [← hxk] at hsx7
       have HSX:=Lib.hid hsx7
       obtain ⟨hbg7,hltS,hfzS,-,-,-,hcS,-⟩:=row_cells ho7.sets hkml rfl
       simp only [← hxk] at hcS
       have hzcon:xk.con.snaps[i]?=some zc:=tZ129
       have hxil:i<xk.snaps.l.length:=by
        obtain ⟨h,-⟩:=List.getElem?_eq_some_iff.1 hzcon
        exact by simpa [SetR.con] using h
       have hxn:i<xk.snaps.n:=tZ94
       obtain ⟨gZ,csZ,hAZ,hbZ,hkZ⟩:=hsx7.snaps.blk tZ1
       obtain ⟨zk,hzk⟩:∃ z,z=xk.snaps.l[i]'hxil:=⟨_,rfl⟩
       have hzkc:zk.con=zc:=by
        exact mZ198
       rw [hAZ] at hcS
       obtain ⟨az,hza,-,-,-,-,fz3,-⟩:=snap_at hsx7.snaps.rd.2.2 hsx7.snaps.1 hxn
       rw [hAZ] at hza
       injection hza with hza
       subst hza
       rw [addr_add0] at fz3
       have fz3e:∃ v,w7.cell? ⟨gZ,i*5+3,none⟩=some v:=⟨_,fz3⟩
       clear fz3
       obtain ⟨zv,fz3⟩:=fz3e
       have hfzZ:=hkZ.frozen (i*5+3)
       have hxin:(i:Int)<(xk.snaps.n:Int):=tZ1
       have hot:w7.ownsRow w2.heap.size 9 1 (.slice A m c) m (cellsK encS LF):=by
        rw [scells_enc]
        exact own_below HO.out tZ31
       have hml:m=LF.length:=by
        have h:=hot.1
        rw [scells_enc] at h
        have h:(scells LF).length=m*1:=h
        simp only [scells,List.length_map] at h
        omega
       obtain ⟨hTO0,hTC0,hg8⟩:=TenO.retag1 ho7 hpw k hkml xk hxk i hxil zk hzk ⟨A,m,c,LF⟩ ⟨hml,hot⟩ tZ58 hAZ
       have hTO:TenO (w7.setCell ⟨gZ,i*5+3,none⟩ (.slice A m c)) w2.heap.size (TenR.putS ⟨mm,mq,mx,⟨some ⟨gS,0,none⟩,m2,m3,ml⟩,⟨n1,n2,n3,nl⟩,⟨p1,p2,p3,pl⟩,⟨q1,q2,q3,ql⟩⟩ k (xk.withSn ⟨xk.snaps.A,xk.snaps.n,xk.snaps.c,xk.snaps.l.set i ⟨zk.nm,zk.gd,zk.body,⟨A,m,c,LF⟩,zk.own⟩⟩)):=hTO0
       have hTC:TenR.con (TenR.putS ⟨mm,mq,mx,⟨some ⟨gS,0,none⟩,m2,m3,ml⟩,⟨n1,n2,n3,nl⟩,⟨p1,p2,p3,pl⟩,⟨q1,q2,q3,ql⟩⟩ k (xk.withSn ⟨xk.snaps.A,xk.snaps.n,xk.snaps.c,xk.snaps.l.set i ⟨zk.nm,zk.gd,zk.body,⟨A,m,c,LF⟩,zk.own⟩⟩))=C.putS k (x.con.retag i zc LF):=by
        rw [hTC0,hyc.out,hxcon,hzkc]
       have k8:=k7.far (p:=⟨gZ,i*5+3,none⟩) (by have:=hkZ.lt;intro e;exact own_ne hsx7.snaps k7 tZ3 (by rw [show xk.snaps.val.ownBlock=some gZ from by show (Value.slice xk.snaps.A _ _).ownBlock=_;rw [hAZ];rfl];exact congrArg some e)) (.slice A m c)
       have hw18:=hw17.setCell (p:=⟨gZ,i*5+3,none⟩) (by have:=HW4.out.size;simp only;omega) (.slice A m c)
       have kz8:=kz7.far (p:=⟨gZ,i*5+3,none⟩) (by show w.heap.size+1≠gZ;omega) (.slice A m c)
       have hbw8:=hbw7.setCell (p:=⟨gZ,i*5+3,none⟩) (by show w.heap.size≤gZ;omega) (.slice A m c)
       obtain ⟨w8,hW8⟩:∃ W,W=w7.setCell ⟨gZ,i*5+3,none⟩ (.slice A m c):=⟨_,rfl⟩
       rw [← hW8] at hTO k8 hw18 kz8 hbw8
       have HYO:=Lib.hid hTO
       have HYC:=Lib.hid hTC
       have HW8:=Lib.hid hw18
       have KZ:=Lib.hid kz8
       have HB8:=Lib.hid hbw8
       have HBS:=Lib.hid (show w.heap.size≤w2.heap.size by have:=hSZ.out w2 HW2.out;omega)
       obtain ⟨g0,g1,g2,g3,g4,g5,g6⟩:=(⟨k7.cell 0,k7.cell 1,k7.cell 2,k7.cell 3,k7.cell 4,k7.cell 5,k7.cell 6⟩:_∧_∧_∧_∧_∧_∧_)
       simp only [zF,zD,zE] at g0 g1 g2 g3 g4 g5 g6
       obtain ⟨d0,d1,d2,d3,d4,d5,d6⟩:=(⟨k8.cell 0,k8.cell 1,k8.cell 2,k8.cell 3,k8.cell 4,k8.cell 5,k8.cell 6⟩:_∧_∧_∧_∧_∧_∧_)
       simp only [zF,zD,zE] at d0 d1 d2 d3 d4 d5 d6
       clear ho6 he6 hb6 hlen hms hbg hblk hgS6 hszc hszn hb67 ho7 k7 kz7 hbw7 hw17 hsz7 hxk hxcon hsx7 hxil hxn hAZ hbZ hkZ hzk hzkc hzcon hot hml hTO0 hTC0 hTO hTC hg8 k8 hw18 kz8 hbw8 hpw HCON hfzS hltS hbg7 HZC HGK HXN HIL hii hil hi0 hks HO HB HT4 HRT HTL
       go_upto_region 26 with (refine wpList_store_new w6 rfl 27 (.tmp 20) (.tmp 109) rfl 27 [.string ⟨#[]⟩,.int .i64 0,.int .i64 0,.slice none 0 0,.slice none 0 0,.slice none 0 0,.slice none 0 0] [.string ⟨mm.toArray⟩,.int .i64 mq,.int .i64 mx,.slice (some ⟨gS,0,none⟩) m2 m3,.slice n1 n2 n3,.slice p1 p2 p3,.slice q1 q2 q3] rfl rfl rfl tZ2 tZ5 ?_;rw [show ([.string ⟨mm.toArray⟩,.int .i64 mq,.int .i64 mx,.slice (some ⟨gS,0,none⟩) m2 m3,.slice n1 n2 n3,.slice p1 p2 p3,.slice q1 q2 q3]:List Value).toArray=#[.string ⟨mm.toArray⟩,.int .i64 mq,.int .i64 mx,.slice (some ⟨gS,0,none⟩) m2 m3,.slice n1 n2 n3,.slice p1 p2 p3,.slice q1 q2 q3] from rfl,← hW7,← hg5];clear hW7 hg5)
       rw [← hW8]
       clear hW8 g0 g1 g2 g3 g4 g5 g6 fz3 hfzZ hxin hcS
       have HB:=HB8
       obtain ⟨WR,hW4,hth,HL,HBW,hgw⟩:=res7 (g:=(w.heap.size+1)) [.string ⟨mm.toArray⟩,.int .i64 mq,.int .i64 mx,.slice (some ⟨gS,0,none⟩) m2 m3,.slice n1 n2 n3,.slice p1 p2 p3,.slice q1 q2 q3] KZ.out HB.out tZ1
       have HOO:=Lib.hid ((TenO.keptT HYO.out hgw KZ.out offT_ten).mono (base':=w.heap.size) (by have:=HBS.out;omega))
       clear hgw
       go_wp2_with (refine wpList_store_mid rfl 27 (.tmp 10) (.tmp 120) rfl ((w.heap.size+1)) 0 #[.string ⟨mm.toArray⟩,.int .i64 mq,.int .i64 mx,.slice (some ⟨gS,0,none⟩) m2 m3,.slice n1 n2 n3,.slice p1 p2 p3,.slice q1 q2 q3] rfl rfl hth.out tZ2 tZ5 ?_;rw [← hW4];clear hW4)
       exact bodyPost_ret (v:=.tuple #[.agg #[.string ⟨mm.toArray⟩,.int .i64 mq,.int .i64 mx,.slice (some ⟨gS,0,none⟩) m2 m3,.slice n1 n2 n3,.slice p1 p2 p3,.slice q1 q2 q3],.int .i64 0]) (results_cell_tmp rfl rfl HL.out) rfl (tenPost_ok HX.out HBW.out (TenR.putS ⟨mm,mq,mx,⟨some ⟨gS,0,none⟩,m2,m3,ml⟩,⟨n1,n2,n3,nl⟩,⟨p1,p2,p3,pl⟩,⟨q1,q2,q3,ql⟩⟩ k (xk.withSn ⟨xk.snaps.A,xk.snaps.n,xk.snaps.c,xk.snaps.l.set i ⟨zk.nm,zk.gd,zk.body,⟨A,m,c,LF⟩,zk.own⟩⟩)) HOO.out HYC.out)
end Go.Proofs.YtiojfffgiejibaaGreatDoor
