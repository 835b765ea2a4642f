/-
  holds.Hold: a tag more. A tenant of one's own of which one snapshot's tags are another row, made ahead of it.
-/
import Derived.Test.YtiojfffgiejibaaGreatDoorTtM1
import Derived.WalkKit
import Derived.WalkSpells
import Derived.Below
import Derived.Laws.OwnMore
import Derived.Deep.AppendLies
import Derived.Deep.Draws
import Derived.Laws.Rows
import Derived.Maps.AppendAt
import Derived.RegionTactic
import Derived.OwnWalk
import Derived.Deep.QuietTactic
import Derived.BigQuiet
import Derived.Lib.Hide
import Derived.Laws.CopyOwn
import Derived.IntWalk
import Derived.Test.YtiojfffgiejibaaGreatDoorRows
import Derived.Handy
import Derived.Deep.Quiet
import Derived.ProofKit
import Derived.OpenShut
import Derived.ShutString
import Derived.ChangeOld
import Derived.Carry
import Derived.SizedLaws
import Derived.JoinedCond
import Derived.Deep.CondSized
import Derived.Deep.Slices
import Derived.Deep.Fields
import Derived.Lib.SmallJoins
import Derived.Lib.AppendZeros
import Derived.Orders
import Derived.Lib.SplitLaws
import Derived.Lib.LastIndexByte
import Derived.Lib.Strings
import Derived.Sort.Walk0
import Derived.Sort.KeysCollected
import Derived.Deep.MidRow
import Derived.Deep.RegionLaw
import Derived.Shelf.Strings.Search1
import Derived.Shelf.Strings.Search2
import Derived.Shelf.Strings.Search3
import Derived.Shelf.Strings.Cut
import Derived.Shelf.Strings.Count
import Derived.Shelf.LaysM
import Derived.Shelf.Strings.Shaped
import Derived.Shelf.Strings.LastIndex
import Derived.Shelf.Strings.Split
import Derived.Shelf.Strings.SplitShaped
import Derived.Shelf.Unicode.Decode
import Derived.Shelf.Strings.RuneCount
import Derived.Shelf.Strings.Explode
import Derived.Shelf.Unicode.DecodeSlow
import Derived.Shelf.Slices.Turned
import Derived.Test.YtiojfffgiejibaaGreatDoorProg
import Derived.Lib.Overlaps
import Derived.Lib.AppendZerosOnto
import Derived.Laws.BytesString
import Derived.Laws.IdiomStrings
import Derived.Lib.ConvBytes
import Derived.Deep.DeepCutAuto
import Derived.Great.BuildSlice
import Derived.Test.YtiojfffgiejibaaGreatDoorT0
import Derived.Test.YtiojfffgiejibaaGreatDoorTt1
import Derived.Test.YtiojfffgiejibaaGreatDoorTt5
import Derived.Test.YtiojfffgiejibaaGreatDoorTt7
import Derived.Test.YtiojfffgiejibaaGreatDoorTt8
import Derived.Test.YtiojfffgiejibaaGreatDoorTt10
import Derived.Test.YtiojfffgiejibaaGreatDoorTt11
import Derived.Test.YtiojfffgiejibaaGreatDoorTt12
import Derived.Test.YtiojfffgiejibaaGreatDoorTt15
import Derived.Test.YtiojfffgiejibaaGreatDoorTt16
import Derived.Test.YtiojfffgiejibaaGreatDoorTt17
import Derived.Test.YtiojfffgiejibaaGreatDoorTt19
import Derived.Test.YtiojfffgiejibaaGreatDoorTt20
import Derived.Test.YtiojfffgiejibaaGreatDoorTt21
import Derived.Test.YtiojfffgiejibaaGreatDoorTt23
import Derived.Test.YtiojfffgiejibaaGreatDoorTt24
import Derived.Test.YtiojfffgiejibaaGreatDoorTt25
import Derived.Test.YtiojfffgiejibaaGreatDoorTt30
import Derived.Test.YtiojfffgiejibaaGreatDoorTt34
import Derived.Test.YtiojfffgiejibaaGreatDoorTt35
namespace Go.Proofs.YtiojfffgiejibaaGreatDoor
open Go.RowKit
theorem snapOk_tags {x:SnapC} (h:snapOk x.r=true):TagsOk x.tags:=by
 unfold snapOk at h
 simp only [Bool.and_eq_true] at h
 exact (tagsB_iff _).1 h.2
theorem retag_con (x:SetR) (z:SnapR) (i:Nat) (s:FS BS):(x.withSn ⟨x.snaps.A,x.snaps.n,x.snaps.c,x.snaps.l.set i ⟨z.nm,z.gd,z.body,s,z.own⟩⟩).con=x.con.retag i z.con s.l:=by
 unfold SetR.withSn SetR.con SetC.retag
 simp only [List.map_set]
 rfl
theorem insT_cells (g:BS) (l:List BS):(cellsK encS l).take (posT g l)++#[strV g].toList++(cellsK encS l).drop (posT g l)=cellsK encS (insT g l):=by
 unfold insT
 exact mZ193
set_option maxRecDepth 100000 in
set_option maxHeartbeats 8000000 in
theorem hold_any (t:TenR) (p n:BS) (tg:BS) (w:World) (B:Nat) (hB:B≤w.heap.size) (hr:t.rd w B) (hz:t.sz) (hp:p.length≤3000000000) (hmx:HasMax w) :
  Calls Tryz.prog 30 #[t.val,.string ⟨p.toArray⟩,.string ⟨n.toArray⟩,.string ⟨tg.toArray⟩] w (TenPost w (t.con.hold p n tg)):=by
 obtain ⟨V,hV⟩:∃ V,V=t.con.hold p n tg:=⟨_,rfl⟩
 rw [← hV]
 obtain ⟨R,hR⟩:∃ R,R=t.con.foundH p n tg:=⟨_,rfl⟩
 have hway:=foundH_way t t.sets.l rfl p n tg R hR
 have hcz:=TenC.sz_of hr hz
 obtain ⟨nm,qu,nx,⟨s1,sn,s3,sl⟩,⟨gA,gN,gC,gL⟩,⟨t1,tn,t3,tl⟩,⟨l1,ln,l3,ll⟩⟩:=t
 show Calls Tryz.prog 30 #[.agg #[.string ⟨nm.toArray⟩,.int .i64 qu,.int .i64 nx,.slice s1 sn s3,.slice gA gN gC,.slice t1 tn t3,.slice l1 ln l3],.string ⟨p.toArray⟩,.string ⟨n.toArray⟩,.string ⟨tg.toArray⟩] w _
 have hb:=(((Below.refl w.heap.size w).alloc (Nat.le_refl _) (.cells #[.string ⟨nm.toArray⟩,.int .i64 qu,.int .i64 nx,.slice s1 sn s3,.slice gA gN gC,.slice t1 tn t3,.slice l1 ln l3] 27)).alloc tZ4 (.cells #[.string ⟨#[]⟩,.int .i64 0,.int .i64 0,.slice none 0 0,.slice none 0 0,.slice none 0 0,.slice none 0 0] 27))
 have kt:=Blk.new w 27 #[.string ⟨nm.toArray⟩,.int .i64 qu,.int .i64 nx,.slice s1 sn s3,.slice gA gN gC,.slice t1 tn t3,.slice l1 ln l3]
 replace kt:=kt.alloc (.cells #[.string ⟨#[]⟩,.int .i64 0,.int .i64 0,.slice none 0 0,.slice none 0 0,.slice none 0 0,.slice none 0 0] 27)
 have kz:=Blk.new (w.alloc (.cells #[.string ⟨nm.toArray⟩,.int .i64 qu,.int .i64 nx,.slice s1 sn s3,.slice gA gN gC,.slice t1 tn t3,.slice l1 ln l3] 27)) 27 #[.string ⟨#[]⟩,.int .i64 0,.int .i64 0,.slice none 0 0,.slice none 0 0,.slice none 0 0,.slice none 0 0]
 rw [show (w.alloc (.cells #[.string ⟨nm.toArray⟩,.int .i64 qu,.int .i64 nx,.slice s1 sn s3,.slice gA gN gC,.slice t1 tn t3,.slice l1 ln l3] 27)).heap.size=w.heap.size+1 by simp] at kz
 have hsz:((w.alloc (.cells #[.string ⟨nm.toArray⟩,.int .i64 qu,.int .i64 nx,.slice s1 sn s3,.slice gA gN gC,.slice t1 tn t3,.slice l1 ln l3] 27)).alloc (.cells #[.string ⟨#[]⟩,.int .i64 0,.int .i64 0,.slice none 0 0,.slice none 0 0,.slice none 0 0,.slice none 0 0] 27)).heap.size=w.heap.size+2:=tZ4
 obtain ⟨W1,hW1⟩:∃ W,W=((w.alloc (.cells #[.string ⟨nm.toArray⟩,.int .i64 qu,.int .i64 nx,.slice s1 sn s3,.slice gA gN gC,.slice t1 tn t3,.slice l1 ln l3] 27)).alloc (.cells #[.string ⟨#[]⟩,.int .i64 0,.int .i64 0,.slice none 0 0,.slice none 0 0,.slice none 0 0,.slice none 0 0] 27)):=⟨_,rfl⟩
 rw [← hW1] at hb hsz kt kz
 have hKt:Hid (∀ W,Below W1.heap.size W1 W→Blk W w.heap.size 27 #[.string ⟨nm.toArray⟩,.int .i64 qu,.int .i64 nx,.slice s1 sn s3,.slice gA gN gC,.slice t1 tn t3,.slice l1 ln l3]):=fun W h=>kt.below h tZ1
 have hKz:Hid (∀ W,Below W1.heap.size W1 W→Blk W (w.heap.size+1) 27 #[.string ⟨#[]⟩,.int .i64 0,.int .i64 0,.slice none 0 0,.slice none 0 0,.slice none 0 0,.slice none 0 0]):=fun W h=>kz.below h tZ1
 have hBW:Hid (∀ W,Below W1.heap.size W1 W→Below w.heap.size w W):=fun W h=>hb.trans (h.mono tZ1)
 have hSZ:Hid (∀ W,Below W1.heap.size W1 W→w.heap.size+2≤W.heap.size):=fun W h=>by have:=h.size;omega
 have hW0:Hid (Below W1.heap.size W1 W1):=Below.refl _ _
 have hrw:Hid (∀ W,Below W1.heap.size W1 W→TenR.rd W B ⟨nm,qu,nx,⟨s1,sn,s3,sl⟩,⟨gA,gN,gC,gL⟩,⟨t1,tn,t3,tl⟩,⟨l1,ln,l3,ll⟩⟩∧B≤W.heap.size∧HasMax W):=fun W h =>
  ⟨TenR.rd.below hr ((hBW.out W h).mono hB),by have:=hSZ.out W h;omega,hmx.below (hBW.out W h)⟩
 obtain ⟨C,hC⟩:∃ C,C=TenR.con ⟨nm,qu,nx,⟨s1,sn,s3,sl⟩,⟨gA,gN,gC,gL⟩,⟨t1,tn,t3,tl⟩,⟨l1,ln,l3,ll⟩⟩:=⟨_,rfl⟩
 have hHC:=Lib.hid hC
 rw [← hC] at hR hway hcz hV
 simp only at hway
 have HR:=Lib.hid hR
 have HV:=Lib.hid hV
 have HCZ:=Lib.hid hcz
 have HZ:=Lib.hid hz
 have HP:=Lib.hid hp
 obtain ⟨a0,k0,e0⟩:=R
 have hFO:Hid (∀ W,Below W1.heap.size W1 W→Calls Tryz.prog 80 #[.agg #[.string ⟨nm.toArray⟩,.int .i64 qu,.int .i64 nx,.slice s1 sn s3,.slice gA gN gC,.slice t1 tn t3,.slice l1 ln l3],.string ⟨p.toArray⟩,.string ⟨n.toArray⟩,.string ⟨tg.toArray⟩] W fun e w'=>e=.returned (.tuple #[.int .i64 a0,.int .i64 k0,.int .i64 e0])∧Below W.heap.size W w'):=fun W h=>by
  exact mZ204
 have hCP:Hid (∀ W,Below W1.heap.size W1 W→Calls Tryz.prog 54 #[.agg #[.string ⟨nm.toArray⟩,.int .i64 qu,.int .i64 nx,.slice s1 sn s3,.slice gA gN gC,.slice t1 tn t3,.slice l1 ln l3]] W fun e w'=>∃ y:TenR,e=.returned y.val∧TenO w' W.heap.size y∧TenR.eqv ⟨nm,qu,nx,⟨s1,sn,s3,sl⟩,⟨gA,gN,gC,gL⟩,⟨t1,tn,t3,tl⟩,⟨l1,ln,l3,ll⟩⟩ y∧y.sets.l.Pairwise ApartS∧Below W.heap.size W w'):=fun W h =>
  tcopy2_any ⟨nm,qu,nx,⟨s1,sn,s3,sl⟩,⟨gA,gN,gC,gL⟩,⟨t1,tn,t3,tl⟩,⟨l1,ln,l3,ll⟩⟩ W B (hrw.out W h).2.1 (hrw.out W h).1 hz
 have hSN:=Lib.hid (show sn=sl.length from hr.sets.1)
 clear hb hsz kt kz hr hp hmx hV hC hz hcz hR
 go_enter Tryz.func30,Tryz.ntmps30
 have hc:=hFO.out  W1 hW0.out
 have kk:=hKt.out W1 hW0.out
 obtain ⟨c0,c1,c2,c3,c4,c5,c6⟩:=(⟨kk.cell 0,kk.cell 1,kk.cell 2,kk.cell 3,kk.cell 4,kk.cell 5,kk.cell 6⟩:_∧_∧_∧_∧_∧_∧_)
 simp only [zF,zD,zE] at c0 c1 c2 c3 c4 c5 c6
 clear kk
 go_wp2_with fail
 rw [← hW1]
 clear hW1
 refine hc.mono ?_
 clear hc c0 c1 c2 c3 c4 c5 c6
 rintro e w2 ⟨rfl,hb⟩
 have HW2:=Lib.hid (hW0.out.trans (hb.mono hW0.out.size))
 clear hb
 rcases hway with ⟨E,hE,hRe,aB,kB,hFB⟩ | ⟨k,i,hkl,hil,hRe,hFB,hat,hgk,hgi,hnm⟩
 ·obtain ⟨rfl,rfl,rfl⟩:a0=0∧k0=0∧e0=E:=tZ11
  clear hRe
  have hne:e0≠0:=by rcases hE with h | h | h <;> rw [h] <;> decide
  have hneb:(e0 == 0)=false:=tZ116
  have HX:Hid (V=(e0,C)):=by show _=_;rw [HV.out];exact hold_bad hFB hne
  exact mZ203
 ·obtain ⟨rfl,rfl,rfl⟩:a0=(k:Int)∧k0=(i:Int)∧e0=0:=tZ11
  clear hRe
  have HX0:Hid (V=if isT tg (sl[k]'hkl).snaps.l[i].con.tags=true then (6,C) else if (sl[k]'hkl).snaps.l[i].con.tags.length=4 then (3,C) else (0,C.putS k ((sl[k]'hkl).con.retag i (sl[k]'hkl).snaps.l[i].con (insT tg (sl[k]'hkl).snaps.l[i].con.tags)))):=by show _=_;rw [HV.out];exact hold_at hFB hgk hgi
  have htok0:TagsOk (sl[k]'hkl).snaps.l[i].con.tags:=by
   exact mZ201
  clear HV HR hFB hat
  have hrk:=(hrw.out w2 HW2.out).1
  have hks:k<sn:=tZ44
  have hki:(k:Int)<(sn:Int):=tZ1
  have hk0:(0:Int)≤(k:Int):=tZ1
  obtain ⟨ad,hsa,-,fa0,fa1,fa2,fa3,fa4⟩:=set_at hrk.sets.2.2 hSN.out hks
  simp only at hsa
  have hx:=hrk.eachS _ (List.getElem_mem hkl)
  have hzx:=HZ.out.eachS _ (List.getElem_mem hkl)
  obtain ⟨x,hxx⟩:∃ x,x=sl[k]'hkl:=⟨_,rfl⟩
  simp only [← hxx] at fa0 fa1 fa2 fa3 fa4 hx hzx hgk hil hgi hnm
  have hin:i<x.snaps.n:=tZ86
  have hii:(i:Int)<(x.snaps.n:Int):=tZ1
  have hi0:(0:Int)≤(i:Int):=tZ1
  obtain ⟨az,hza,-,fb0,fb1,fb2,fb3,fb4⟩:=snap_at hx.snaps.2.2 hx.snaps.1 hin
  obtain ⟨zz,hzz⟩:∃ z,z=x.snaps.l[i]'hil:=⟨_,rfl⟩
  have hxi:=hx.each _ (List.getElem_mem hil)
  have hzi:=hzx.each _ (List.getElem_mem hil)
  simp only [← hzz] at fb0 fb1 fb2 fb3 fb4 hgi hnm hxi hzi
  have hHX0:V=if isT tg (x.snaps.l[i]'hil).con.tags=true then (6,C) else if (x.snaps.l[i]'hil).con.tags.length=4 then (3,C) else (0,C.putS k (x.con.retag i (x.snaps.l[i]'hil).con (insT tg (x.snaps.l[i]'hil).con.tags))):=by have h:=HX0.out;simpa only [hxx] using h
  have htok:TagsOk (x.snaps.l[i]'hil).con.tags:=tZ108
  rw [← hzz] at hHX0 htok
  replace htok:TagsOk zz.tags.l:=htok
  have htl:zz.con.tags.length=zz.tags.n:=hxi.tags.1.symm
  rw [htl] at hHX0
  replace hHX0:V=if isT tg zz.tags.l=true then (6,C) else if zz.tags.n=4 then (3,C) else (0,C.putS k (x.con.retag i zz.con (insT tg zz.tags.l))):=hHX0
  have htn4:zz.tags.n≤4:=by have h1:=htok.len;have h2:=hxi.tags.1;omega
  obtain ⟨ps,hps⟩:∃ q,q=posT tg zz.tags.l:=⟨_,rfl⟩
  obtain ⟨ib,hib⟩:∃ q,q=isT tg zz.tags.l:=⟨_,rfl⟩
  have hpsl:ps≤zz.tags.n:=tZ131
  have hBS:Hid (Calls Tryz.prog 81 #[.slice zz.tags.A zz.tags.n zz.tags.c,.string ⟨tg.toArray⟩] w2 fun e w'=>e=.returned (.tuple #[.int .i64 (ps:Int),.bool ib])∧Below w2.heap.size w2 w'):=by
   exact mZ200
  rw [← hib] at hHX0
  have HXa:=Lib.hid hHX0
  have HPS:=Lib.hid hps
  have HIB:=Lib.hid hib
  have HXTR:Hid (∀ W,Below w2.heap.size w2 W→Reads W B 1 zz.tags.A zz.tags.n (cellsK encS zz.tags.l)∧B≤W.heap.size):=fun W h=>⟨hxi.tags.2.2.below (h.mono (hrw.out w2 HW2.out).2.1),by have h1:=(hrw.out w2 HW2.out).2.1;have h2:=h.size;omega⟩
  have HTL:Hid (zz.tags.n=zz.tags.l.length):=hxi.tags.1
  have HGK:=Lib.hid hgk
  have HXN:=Lib.hid hx.snaps.1
  have HIL:=Lib.hid hil
  have HZC:Hid (x.con.snaps[i]?=some zz.con):=hgi
  have HT4:=Lib.hid htn4
  have HPL:=Lib.hid hpsl
  subst hsa
  rw [hza] at fa3
  clear hHX0 HX0 htok0 htl hps hib hpsl htok hxx hzz hx hzx hxi hzi hrk hin hgi hgk hnm hza fb0 fb1 fb2 fb4 fa0 fa1 fa2 fa4 htn4
  have hc:=hBS.out
  have kk:=hKt.out w2 HW2.out
  obtain ⟨c0,c1,c2,c3,c4,c5,c6⟩:=(⟨kk.cell 0,kk.cell 1,kk.cell 2,kk.cell 3,kk.cell 4,kk.cell 5,kk.cell 6⟩:_∧_∧_∧_∧_∧_∧_)
  simp only [zF,zD,zE] at c0 c1 c2 c3 c4 c5 c6
  clear kk
  clear hBS
  go_wp2_with fail
  refine hc.mono ?_
  clear hc c0 c1 c2 c3 c4 c5 c6 fa3 fb3
  rintro e w3 ⟨rfl,hb⟩
  have HTR:Hid (∀ W,Below w3.heap.size w3 W→Reads W B 1 zz.tags.A zz.tags.n (cellsK encS zz.tags.l)∧B≤W.heap.size):=fun W h=>HXTR.out W (hb.trans (h.mono hb.size))
  have HW3:=Lib.hid (HW2.out.trans (hb.mono HW2.out.size))
  clear hb HXTR
  cases ib with
  | true =>
   have HX:=Lib.hid (HXa.out.trans (if_pos rfl))
   clear HXa HGK HZC HXN
   have KZ:=Lib.hid (hKz.out w3 HW3.out)
   have HB:=Lib.hid (hBW.out w3 HW3.out)
   clear HIL HTR HT4 HPL HPS HIB
   obtain ⟨WR,hW4,hth,HL,HBW,hgw⟩:=res7 (g:=(w.heap.size+1)) [.string ⟨#[]⟩,.int .i64 0,.int .i64 0,.slice none 0 0,.slice none 0 0,.slice none 0 0,.slice none 0 0] KZ.out HB.out tZ1
   clear hgw
   go_wp2_with (refine wpList_store_mid rfl 27 (.tmp 8) (.tmp 48) rfl ((w.heap.size+1)) 0 #[.string ⟨#[]⟩,.int .i64 0,.int .i64 0,.slice none 0 0,.slice none 0 0,.slice none 0 0,.slice none 0 0] rfl rfl hth.out tZ2 tZ5 ?_;rw [← hW4];clear hW4)
   exact mZ194
  | false =>
   have HXb:=Lib.hid (HXa.out.trans (if_neg tZ3))
   clear HXa
   by_cases h4:zz.tags.n=4
   ·have h4b:((zz.tags.n:Int) == 4)=true:=by rw [h4];rfl
    have HX:=Lib.hid (HXb.out.trans (if_pos h4))
    clear HXb HGK HZC HXN h4
    have KZ:=Lib.hid (hKz.out w3 HW3.out)
    have HB:=Lib.hid (hBW.out w3 HW3.out)
    clear HIL HTR HT4 HPL HPS HIB
    obtain ⟨WR,hW4,hth,HL,HBW,hgw⟩:=res7 (g:=(w.heap.size+1)) [.string ⟨#[]⟩,.int .i64 0,.int .i64 0,.slice none 0 0,.slice none 0 0,.slice none 0 0,.slice none 0 0] KZ.out HB.out tZ1
    clear hgw
    go_wp2_with (refine wpList_store_mid rfl 27 (.tmp 8) (.tmp 53) rfl ((w.heap.size+1)) 0 #[.string ⟨#[]⟩,.int .i64 0,.int .i64 0,.slice none 0 0,.slice none 0 0,.slice none 0 0,.slice none 0 0] rfl rfl hth.out tZ2 tZ5 ?_;rw [← hW4];clear hW4)
    exact mZ199
   ·have h4b:((zz.tags.n:Int) == 4)=false:=tZ7
    have HX:=Lib.hid (HXb.out.trans (if_neg h4))
    clear HXb
    have hc:=hCP.out w3 HW3.out
    have kk:=hKt.out w3 HW3.out
    obtain ⟨c0,c1,c2,c3,c4,c5,c6⟩:=(⟨kk.cell 0,kk.cell 1,kk.cell 2,kk.cell 3,kk.cell 4,kk.cell 5,kk.cell 6⟩:_∧_∧_∧_∧_∧_∧_)
    simp only [zF,zD,zE] at c0 c1 c2 c3 c4 c5 c6
    clear kk
    clear hCP
    go_wp2_with fail
    refine hc.mono ?_
    clear hc c0 c1 c2 c3 c4 c5 c6
    rintro e w6 ⟨y,rfl,ho6,he6,hpw,hb6⟩
    have HW6:=Lib.hid (HW3.out.trans (hb6.mono HW3.out.size))
    have HCON:=Lib.hid ((TenR.eqv_iff _ _).1 he6)
    have hlen:y.sets.n=sn:=by
     exact mZ173
    obtain ⟨mm,mq,mx,⟨m1,m2,m3,ml⟩,⟨n1,n2,n3,nl⟩,⟨p1,p2,p3,pl⟩,⟨q1,q2,q3,ql⟩⟩:=y
    replace hlen:m2=sn:=hlen
    replace hpw:ml.Pairwise ApartS:=hpw
    have hms:m2=ml.length:=ho6.sets.1
    have hkm:k<m2:=tZ44
    have hkml:k<ml.length:=tZ1
    obtain ⟨gS,csS,hA,hbg,hblk⟩:=ho6.sets.blk tZ115
    replace hA:m1=some ⟨gS,0,none⟩:=hA
    subst hA
    have hgS6:=hblk.lt
    simp only [TenR.val,TenR.cells,FS.val,strV]
    clear h4 h4b
    have hszc:=hSZ.out w3 HW3.out
    have hszn:=hSZ.out w6 HW6.out
    have hb67:=(Below.refl w6.heap.size w6).alloc (Nat.le_refl _) (.cells #[.string ⟨mm.toArray⟩,.int .i64 mq,.int .i64 mx,.slice (some ⟨gS,0,none⟩) m2 m3,.slice n1 n2 n3,.slice p1 p2 p3,.slice q1 q2 q3] 27)
    have ho7:=ho6.below hb67
    have k7:=Blk.new w6 27 #[.string ⟨mm.toArray⟩,.int .i64 mq,.int .i64 mx,.slice (some ⟨gS,0,none⟩) m2 m3,.slice n1 n2 n3,.slice p1 p2 p3,.slice q1 q2 q3]
    have kz7:=(hKz.out w6 HW6.out).alloc (.cells #[.string ⟨mm.toArray⟩,.int .i64 mq,.int .i64 mx,.slice (some ⟨gS,0,none⟩) m2 m3,.slice n1 n2 n3,.slice p1 p2 p3,.slice q1 q2 q3] 27)
    have hbw7:=(hBW.out w6 HW6.out).alloc tZ1 (.cells #[.string ⟨mm.toArray⟩,.int .i64 mq,.int .i64 mx,.slice (some ⟨gS,0,none⟩) m2 m3,.slice n1 n2 n3,.slice p1 p2 p3,.slice q1 q2 q3] 27)
    have hw17:=HW6.out.alloc HW6.out.size (.cells #[.string ⟨mm.toArray⟩,.int .i64 mq,.int .i64 mx,.slice (some ⟨gS,0,none⟩) m2 m3,.slice n1 n2 n3,.slice p1 p2 p3,.slice q1 q2 q3] 27)
    have hsz7:(w6.alloc (.cells #[.string ⟨mm.toArray⟩,.int .i64 mq,.int .i64 mx,.slice (some ⟨gS,0,none⟩) m2 m3,.slice n1 n2 n3,.slice p1 p2 p3,.slice q1 q2 q3] 27)).heap.size=w6.heap.size+1:=tZ4
    obtain ⟨g5,hg5⟩:∃ g,g=w6.heap.size:=⟨_,rfl⟩
    obtain ⟨w7,hW7⟩:∃ W,W=w6.alloc (.cells #[.string ⟨mm.toArray⟩,.int .i64 mq,.int .i64 mx,.slice (some ⟨gS,0,none⟩) m2 m3,.slice n1 n2 n3,.slice p1 p2 p3,.slice q1 q2 q3] 27):=⟨_,rfl⟩
    rw [← hW7] at ho7 k7 kz7 hbw7 hw17 hsz7
    rw [← hg5] at k7 hsz7
    have HW7:=Lib.hid hw17
    have K7:=Lib.hid k7
    have KZ7:=Lib.hid kz7
    have HB7:=Lib.hid hbw7
    have HO7:=Lib.hid ho7
    have HPW:=Lib.hid hpw
    have HKM:=Lib.hid hkml
    have HG5:=Lib.hid (show gS<g5∧w3.heap.size≤gS∧g5<w7.heap.size∧w3.heap.size≤w7.heap.size∧w.heap.size+2≤w3.heap.size by omega)
    have hyc:Hid (TenR.con ⟨mm,mq,mx,⟨some ⟨gS,0,none⟩,m2,m3,ml⟩,⟨n1,n2,n3,nl⟩,⟨p1,p2,p3,pl⟩,⟨q1,q2,q3,ql⟩⟩=C):=tZ51
    have hkm2:(k:Int)<(m2:Int):=tZ1
    obtain ⟨xk,hxk⟩:∃ x,x=ml[k]'hkml:=⟨_,rfl⟩
    have HXK:=Lib.hid hxk
    have hxcon:xk.con=x.con:=by
     exact mZ172
    have HXC:=Lib.hid hxcon
    have hsx7:=ho7.eachS _ (List.getElem_mem hkml)
    simp only [← hxk] at hsx7
    have HSX:=Lib.hid hsx7
    obtain ⟨hbg7,hltS,hfzS,-,-,-,hcS,-⟩:=row_cells ho7.sets hkml rfl
    simp only [← hxk] at hcS
    have hzcon:xk.con.snaps[i]?=some zz.con:=tZ129
    have hxs:xk.snaps.l.length=x.snaps.l.length:=by have h:=congrArg (fun c:SetC=>c.snaps.length) hxcon;simpa [SetR.con] using h
    have hxil:i<xk.snaps.l.length:=by have:=HIL.out;omega
    have hxn:i<xk.snaps.n:=tZ94
    obtain ⟨gZ,csZ,hAZ,hbZ,hkZ⟩:=hsx7.snaps.blk tZ1
    obtain ⟨zk,hzk⟩:∃ z,z=xk.snaps.l[i]'hxil:=⟨_,rfl⟩
    have hzkc:zk.con=zz.con:=by
     exact mZ198
    rw [hAZ] at hcS
    have hxin:(i:Int)<(xk.snaps.n:Int):=tZ1
    have HZK:=Lib.hid hzk
    have HXIL:=Lib.hid hxil
    have HZKC:=Lib.hid hzkc
    have HKZ:=Lib.hid hkZ
    have HAZ:=Lib.hid hAZ
    have hS:Hid (∀ W,Below w7.heap.size w7 W→W.cell? ⟨g5,3,none⟩=some (.slice (some ⟨gS,0,none⟩) m2 m3)∧W.cell? ⟨gS,k*5+3,none⟩=some (.slice (some ⟨gZ,0,none⟩) xk.snaps.n xk.snaps.c)):=fun W h=>⟨(K7.out.below h K7.out.lt).cell 3,(h.cell (p:=⟨gS,k*5+3,none⟩) hltS).trans hcS⟩
    have h37:Below w3.heap.size w3 w7:=tZ31
    have hCT:Hid (∀ W,Below w7.heap.size w7 W→Calls Tryz.prog 83 #[.slice zz.tags.A zz.tags.n zz.tags.c] W fun e w'=>∃ A' c',e=.returned (.slice A' zz.tags.n c')∧(zz.tags.n=0→c'=0)∧w'.ownsRow W.heap.size 9 1 (.slice A' zz.tags.n c') zz.tags.n (cellsK encS zz.tags.l)∧Below W.heap.size W w'):=fun W h=>by
     have h1:=HTR.out W (h37.trans (h.mono h37.size))
     exact cloneS2_any (cellsK encS zz.tags.l) zz.tags.n zz.tags.A zz.tags.c W B h1.1 h1.2 (cells_one encS_one _) (by have:=HT4.out;omega)
    have hIN:Hid (∀ W A' c' vb,Below w7.heap.size w7 W→W.ownsRow w7.heap.size 9 1 (.slice A' zz.tags.n c') zz.tags.n (cellsK encS zz.tags.l)→(zz.tags.n=0→c'=0)→Blk W vb 9 #[.string ⟨tg.toArray⟩]→Calls Tryz.prog 82 #[.slice A' zz.tags.n c',.int .i64 (ps:Int),.slice (some ⟨vb,0,none⟩) 1 1] W fun e w'=>∃ v,e=.returned v∧w'.ownsRow w7.heap.size 9 1 v (zz.tags.n+1) (cellsK encS (insT tg zz.tags.l))∧Below w7.heap.size w7 w'):=fun W A' c' vb h how hc0 hvb=>by
     have hne:cellsK encS zz.tags.l≠[.string ⟨tg.toArray⟩]:=by
      intro h1
      have h2:zz.tags.l=[tg]:=by
       cases h3:zz.tags.l with
       | nil=>rw [h3] at h1;cases h1
       | cons a l =>
        rw [h3] at h1
        injection h1 with h4 h5
        cases l with
        | nil=>injection h4 with h4;injection h4 with h4;injection h4 with h4;rw [h4]
        | cons b l=>cases h5
      have h6:=HIB.out
      have h7:isT tg [tg]=true:=isT_mid tg [] [] (fun _ h=>by cases h)
      rw [h2,h7] at h6
      cases h6
     refine (insTx_any (news:=#[.string ⟨tg.toArray⟩]) rfl tZ5 (cellsK encS zz.tags.l) (cells_one encS_one _) vb 9 w7.heap.size zz.tags.n ps A' c' W HPL.out how tZ74 (by have:=HT4.out;omega) hvb (own_ne_one how hc0 hvb hne)).mono ?_
     rintro e w' ⟨v,rfl,hv,hg⟩
     refine ⟨v,rfl,?_,h.grown hg tZ74 (fun g hgg=>(how.lt _ hgg).1)⟩
     rw [← insT_cells,← HPS.out]
     exact hv
    have HSS:=Lib.hid (show W1.heap.size≤w3.heap.size∧w3.heap.size≤w7.heap.size from ⟨HW3.out.size,h37.size⟩)
    have HGZ:=Lib.hid (show w3.heap.size≤gZ∧gZ<w7.heap.size from ⟨hbZ,hkZ.lt⟩)
    obtain ⟨i0,hi0,hz0,hz1,hz2⟩:=info_parts Tryz.cloneSt_info
    clear ho6 he6 hb6 hlen hms hbg hblk hgS6 hszc hszn hb67 ho7 k7 kz7 hbw7 hw17 hsz7 hxk hxcon hsx7 hxs hxn hAZ hbZ hkZ hzk hzkc hzcon hcS hfzS hltS hbg7 hpw HCON hkm hks hii h37
    go_upto_region 11 with (refine wpList_store_new w6 rfl 27 (.tmp 16) (.tmp 55) rfl 27 [.string ⟨#[]⟩,.int .i64 0,.int .i64 0,.slice none 0 0,.slice none 0 0,.slice none 0 0,.slice none 0 0] [.string ⟨mm.toArray⟩,.int .i64 mq,.int .i64 mx,.slice (some ⟨gS,0,none⟩) m2 m3,.slice n1 n2 n3,.slice p1 p2 p3,.slice q1 q2 q3] rfl rfl rfl tZ2 tZ5 ?_;rw [show ([.string ⟨mm.toArray⟩,.int .i64 mq,.int .i64 mx,.slice (some ⟨gS,0,none⟩) m2 m3,.slice n1 n2 n3,.slice p1 p2 p3,.slice q1 q2 q3]:List Value).toArray=#[.string ⟨mm.toArray⟩,.int .i64 mq,.int .i64 mx,.slice (some ⟨gS,0,none⟩) m2 m3,.slice n1 n2 n3,.slice p1 p2 p3,.slice q1 q2 q3] from rfl,← hW7,← hg5];clear hW7 hg5)
    refine wp_region_two 12 15 [0,1,2,3,4,5,6,13,14] tZ2 tZ2 tZ2 tZ3 tZ3 tZ3 [(fun v _=>v=.pointer (some ⟨g5,3,none⟩)),
      (fun v _=>v=.slice (some ⟨gS,0,none⟩) m2 m3),
      (fun v _=>v=.int .i64 (k:Int)),
      (fun v _=>v=.pointer (some ⟨gS,k*5,none⟩)),
      (fun v _=>v=.pointer (some ⟨gS,k*5+3,none⟩)),
      (fun v _=>v=.slice (some ⟨gZ,0,none⟩) xk.snaps.n xk.snaps.c),
      (fun v _=>v=.int .i64 (i:Int)),
      (fun v _=>v=.slice zz.tags.A zz.tags.n zz.tags.c),
      (fun v W=>∃ A c,v=.slice A zz.tags.n c∧(zz.tags.n=0→c=0)∧W.ownsRow w7.heap.size 9 1 (.slice A zz.tags.n c) zz.tags.n (cellsK encS zz.tags.l)),
      (fun v _=>v=.int .i64 (ps:Int)),
      (fun v _=>v=.string ⟨tg.toArray⟩),
      (fun v W=>∃ vb,v=.slice (some ⟨vb,0,none⟩) 1 1∧Blk W vb 9 #[.string ⟨tg.toArray⟩]∧vb<W.heap.size),
      (fun _ _=>True),
      (fun v _=>v=.pointer (some ⟨gZ,i*5,none⟩)),
      (fun v _=>v=.pointer (some ⟨gZ,i*5+3,none⟩)),
      (fun _ _=>True)] ?_ (early2 tZ2) ?_ (fun W9 u W=>∃ A1 c1,u=.slice A1 (zz.tags.n+1) c1∧W.ownsRow w7.heap.size 9 1 u (zz.tags.n+1) (cellsK encS (insT tg zz.tags.l))∧Below w7.heap.size w7 W) ?_ ?_ ?_
    ·repeat' (first | exact stays_nil | refine stays_cons ?_ ?_ | exact Stays.pure | exact (fun v W W' h hb=>let ⟨A,c,h1,h2,h3⟩:=h;⟨A,c,h1,h2,own_below h3 hb⟩) | exact (fun v W W' h hb=>let ⟨b,h1,h2,h3⟩:=h;⟨b,h1,h2.below hb h3,Nat.lt_of_lt_of_le h3 hb.size⟩))
    ·intro i oo ho hiS hiL hil mf W hb0 hmi hcl hdeps AA KK hA hK
     rcases i with _ | _ | _ | _ | _ | _ | _ | _ | _ | _ | _ | _ | _ | _ | _ | _ | i
     ·exact mZ167
     ·exact mZ167
     ·exact mZ167
     ·exact mZ167
     ·exact mZ167
     ·exact mZ167
     ·exact mZ167
     ·injection ho with ho;subst ho
      have ef13:AA.tmps[13]?.getD undef=.slice zz.tags.A zz.tags.n zz.tags.c:=tF hA
      exact zP
     ·injection ho with ho;subst ho
      have e7:=eD hdeps hA 7 63
      clear hA hdeps hcl hmi hiS hiL hil
      have hKK:=hK
      clear hK
      go_simp
      refine (hCT.out W hb0).mono ?_
      rintro e w5 ⟨A1,c1,rfl,hc0,ho1,hbn⟩
      exact hKK _ _ hbn ⟨A1,c1,rfl,hc0,own_mono ho1 hb0.size⟩
     ·injection ho with ho;subst ho
      have ef14:AA.tmps[14]?.getD undef=.int .i64 (ps:Int):=tF hA
      exact zP
     ·exact mZ197
     ·injection ho with ho;subst ho
      have e10:=eD hdeps hA 10 66
      clear hA hdeps hcl hmi hiS hiL hil
      have hK0:KK (AA.put (some 67) _) _:=hK (.slice (some ⟨W.heap.size,0,none⟩) 1 1) (W.alloc (.cells #[.string ⟨tg.toArray⟩] 9)) ((Below.refl _ _).alloc (Nat.le_refl _) _) ⟨_,rfl,Blk.new W _ _,by simp⟩
      exact mZ90
     ·exact absurd rfl hiS
     ·exact mZ167
     ·exact mZ167
     ·exact absurd rfl hiL
     ·simp at ho
    ·intro i oo ho hiS hiL hil mf W9 W hb9 hmi hcl hdeps hRW AA KK hA hK
     rcases i with _ | _ | _ | _ | _ | _ | _ | _ | _ | _ | _ | _ | _ | _ | _ | _ | i
     ·injection ho with ho;subst ho
      have ef16:AA.tmps[16]?.getD undef=.pointer (some ⟨g5,0,none⟩):=tF hA
      exact zL
     ·injection ho with ho;subst ho
      have e0:=eL hdeps hA 0 56
      exact mZ196
     ·injection ho with ho;subst ho
      have ef10:AA.tmps[10]?.getD undef=.int .i64 (k:Int):=tF hA
      exact zL
     ·injection ho with ho;subst ho
      have e1:=eL hdeps hA 1 57
      have e2:=eL hdeps hA 2 58
      exact zL
     ·injection ho with ho;subst ho
      have e3:=eL hdeps hA 3 59
      exact zL
     ·injection ho with ho;subst ho
      have e4:=eL hdeps hA 4 60
      exact mZ196
     ·injection ho with ho;subst ho
      have ef11:AA.tmps[11]?.getD undef=.int .i64 (i:Int):=tF hA
      exact zL
     ·exact mZ166
     ·exact mZ166
     ·exact mZ166
     ·exact mZ166
     ·exact mZ166
     ·exact absurd rfl hiS
     ·injection ho with ho;subst ho
      have e5:=eL hdeps hA 5 61
      have e6:=eL hdeps hA 6 62
      exact zL
     ·injection ho with ho;subst ho
      have e13:=eL hdeps hA 13 69
      exact zL
     ·exact absurd rfl hiL
     ·simp at ho
    ·intro oo ho mf W hb0 hmi hcl hdeps AA KK hA hK
     injection ho with ho;subst ho
     obtain ⟨x8,hx8,hg8⟩:=hdeps ⟨8,.data⟩ tZ4 rfl
     have hg8:∃ A c,x8=.slice A zz.tags.n c∧(zz.tags.n=0→c=0)∧W.ownsRow w7.heap.size 9 1 (.slice A zz.tags.n c) zz.tags.n (cellsK encS zz.tags.l):=hg8
     obtain ⟨A8,c8,rfl,hz8,how8⟩:=hg8
     have e8:AA.tmps[64]?.getD undef=.slice A8 zz.tags.n c8:=tO hA hx8
     have e9:=eD hdeps hA 9 65
     obtain ⟨x11,hx11,hg11⟩:=hdeps ⟨11,.data⟩ tZ4 rfl
     have hg11:∃ vb,x11=.slice (some ⟨vb,0,none⟩) 1 1∧Blk W vb 9 #[.string ⟨tg.toArray⟩]∧vb<W.heap.size:=hg11
     obtain ⟨vb11,rfl,hk11,hl11⟩:=hg11
     have e11:AA.tmps[67]?.getD undef=.slice (some ⟨vb11,0,none⟩) 1 1:=tO hA hx11
     clear hA hdeps hmi hcl
     have hKK:=hK
     clear hK
     go_simp
     refine (hIN.out W _ _ _ hb0 how8 hz8 hk11).mono ?_
     exact mZ195
    ·intro oo ho mf W9 W uS hb9 hmi hall hSm hR AA KK hA hK
     injection ho with ho;subst ho
     have zm0:=dV (hall 0 tZ4 tZ3 tZ3)
     have zm1:=dV (hall 1 tZ4 tZ3 tZ3)
     have zm2:=dV (hall 2 tZ4 tZ3 tZ3)
     have zm3:=dV (hall 3 tZ4 tZ3 tZ3)
     have zm4:=dV (hall 4 tZ4 tZ3 tZ3)
     have zm5:=dV (hall 5 tZ4 tZ3 tZ3)
     have zm6:=dV (hall 6 tZ4 tZ3 tZ3)
     have zm7:=dV (hall 7 tZ4 tZ3 tZ3)
     obtain ⟨x8,zm8,hg8⟩:=hall 8 tZ4 tZ3 tZ3
     have hg8:∃ A c,x8=.slice A zz.tags.n c∧(zz.tags.n=0→c=0)∧W9.ownsRow w7.heap.size 9 1 (.slice A zz.tags.n c) zz.tags.n (cellsK encS zz.tags.l):=hg8
     obtain ⟨A8,c8,rfl,hz8,how8⟩:=hg8
     have zm9:=dV (hall 9 tZ4 tZ3 tZ3)
     have zm10:=dV (hall 10 tZ4 tZ3 tZ3)
     obtain ⟨x11,zm11,hg11⟩:=hall 11 tZ4 tZ3 tZ3
     have hg11:∃ vb,x11=.slice (some ⟨vb,0,none⟩) 1 1∧Blk W9 vb 9 #[.string ⟨tg.toArray⟩]∧vb<W9.heap.size:=hg11
     obtain ⟨vb11,rfl,hk11,hl11⟩:=hg11
     have zm13:=dV (hall 13 tZ4 tZ3 tZ3)
     have zm14:=dV (hall 14 tZ4 tZ3 tZ3)
     obtain ⟨v1,v3,rfl,hv,hg⟩:=hR
     have e12:AA.tmps[68]?.getD undef=.slice v1 (zz.tags.n+1) v3:=tO hA hSm
     have e14:AA.tmps[70]?.getD undef=.pointer (some ⟨gZ,i*5+3,none⟩):=tO hA zm14
     have ho9:=HO7.out.below hg
     have hsx9:=HSX.out.below hg
     have k9:=K7.out.below hg K7.out.lt
     have hw9:Below W1.heap.size W1 W:=HW7.out.trans (hg.mono HW7.out.size)
     obtain ⟨az,hza,-,-,-,-,fz3,-⟩:=snap_at hsx9.snaps.rd.2.2 hsx9.snaps.1 (show i<xk.snaps.n by have:=hsx9.snaps.1;have:=HXIL.out;omega)
     rw [HAZ.out] at hza
     injection hza with hza
     subst hza
     rw [addr_add0] at fz3
     simp only at fz3
     have fz3e:∃ v,W.cell? ⟨gZ,i*5+3,none⟩=some v:=⟨_,fz3⟩
     clear fz3
     obtain ⟨zv,fz3⟩:=fz3e
     have hfZ:W.frozen? ⟨gZ,i*5+3,none⟩=false:=(HKZ.out.below hg HKZ.out.lt).frozen _
     obtain ⟨hown8,hg8⟩:=hsx9.snaps.field (fun _=>rfl) HAZ.out i 3 tZ3 (⟨zk.nm,zk.gd,zk.body,⟨v1,zz.tags.n+1,v3,insT tg zz.tags.l⟩,zk.own⟩:SnapR) (.slice v1 (zz.tags.n+1) v3) (fun z hz=>by rw [List.getElem?_eq_getElem HXIL.out,← HZK.out] at hz;cases hz;rfl)
     have hgZ:W.grownBy (W.setCell ⟨gZ,i*5+3,none⟩ (.slice v1 (zz.tags.n+1) v3)) (ml[k]'HKM.out).snaps.val.ownBlock:=by simp only [← HXK.out];rw [show xk.snaps.val.ownBlock=some gZ from by show (Value.slice xk.snaps.A _ _).ownBlock=_;rw [HAZ.out];rfl];exact hg8
     have hAs:=ho9.aside HPW.out k HKM.out hgZ
     have hTO:=hAs.place ⟨xk.snaps.A,xk.snaps.n,xk.snaps.c,xk.snaps.l.set i ⟨zk.nm,zk.gd,zk.body,⟨v1,zz.tags.n+1,v3,insT tg zz.tags.l⟩,zk.own⟩⟩ hown8 (fun z hz=>by
      have ho:=hAs.olds
      simp only [← HXK.out] at ho
      rcases List.mem_or_eq_of_mem_set hz with hz | rfl
      ·exact ho z hz
      ·have h:=ho zk (by rw [HZK.out];exact List.getElem_mem _)
       refine ⟨h.body,⟨?_,own_mono (hv.kept hg8 (.inr (fun e=>by have:=(hv.lt _ e).1;have:=HGZ.out;omega))) (by have:=HSS.out;omega)⟩,h.own⟩
       show zz.tags.n+1=(insT tg zz.tags.l).length
       rw [insT_len,← HTL.out]) (by simp only [← HXK.out];rfl)
     have HYO:Hid (TenO (W.setCell ⟨gZ,i*5+3,none⟩ (.slice v1 (zz.tags.n+1) v3)) w3.heap.size (TenR.putS ⟨mm,mq,mx,⟨some ⟨gS,0,none⟩,m2,m3,ml⟩,⟨n1,n2,n3,nl⟩,⟨p1,p2,p3,pl⟩,⟨q1,q2,q3,ql⟩⟩ k ((ml[k]'HKM.out).withSn ⟨xk.snaps.A,xk.snaps.n,xk.snaps.c,xk.snaps.l.set i ⟨zk.nm,zk.gd,zk.body,⟨v1,zz.tags.n+1,v3,insT tg zz.tags.l⟩,zk.own⟩⟩))):=by
      have h:=hTO
      simp only [← HXK.out] at h ⊢
      exact h
     have HW10:=Lib.hid (hw9.setCell (p:=⟨gZ,i*5+3,none⟩) tZ111 (.slice v1 (zz.tags.n+1) v3))
     have K10:=Lib.hid (k9.far (p:=⟨gZ,i*5+3,none⟩) (by intro e;exact own_ne hsx9.snaps k9 tZ3 (by rw [show xk.snaps.val.ownBlock=some gZ from by show (Value.slice xk.snaps.A _ _).ownBlock=_;rw [HAZ.out];rfl];exact congrArg some e)) (.slice v1 (zz.tags.n+1) v3))
     have HYC:Hid (TenR.con (TenR.putS ⟨mm,mq,mx,⟨some ⟨gS,0,none⟩,m2,m3,ml⟩,⟨n1,n2,n3,nl⟩,⟨p1,p2,p3,pl⟩,⟨q1,q2,q3,ql⟩⟩ k ((ml[k]'HKM.out).withSn ⟨xk.snaps.A,xk.snaps.n,xk.snaps.c,xk.snaps.l.set i ⟨zk.nm,zk.gd,zk.body,⟨v1,zz.tags.n+1,v3,insT tg zz.tags.l⟩,zk.own⟩⟩))=C.putS k (x.con.retag i zz.con (insT tg zz.tags.l))):=by
      show _=_
      have h1:=retag_con xk zk i (⟨v1,zz.tags.n+1,v3,insT tg zz.tags.l⟩:FS BS)
      simp only [← HXK.out]
      rw [TenR.con_putS,hyc.out,h1,HXC.out,HZKC.out]
     clear ho9 hsx9 hAs k9 hw9 hv hb9 hown8 hg8 hgZ hTO
     have hK0:=hK undef (W.setCell ⟨gZ,i*5+3,none⟩ (.slice v1 (zz.tags.n+1) v3))
     clear hA hK hall hmi
     go_simp
     refine hK0 ?_
     clear hK0 e12 e14
     rw [frameM_all tZ2 [.pointer (some ⟨g5,3,none⟩),.slice (some ⟨gS,0,none⟩) m2 m3,.int .i64 (k:Int),.pointer (some ⟨gS,k*5,none⟩),.pointer (some ⟨gS,k*5+3,none⟩),.slice (some ⟨gZ,0,none⟩) xk.snaps.n xk.snaps.c,.int .i64 (i:Int),.slice zz.tags.A zz.tags.n zz.tags.c,.slice A8 zz.tags.n c8,.int .i64 (ps:Int),.string ⟨tg.toArray⟩,.slice (some ⟨vb11,0,none⟩) 1 1,.slice v1 (zz.tags.n+1) v3,.pointer (some ⟨gZ,i*5,none⟩),.pointer (some ⟨gZ,i*5+3,none⟩),undef] rfl (fun i hi=>by rcases i with _ | _ | _ | _ | _ | _ | _ | _ | _ | _ | _ | _ | _ | _ | _ | _ | i <;> first | (rw [upd_self];rfl) | (rw [upd_ne _ _ tZ3];assumption) | (simp at hi;omega))]
     clear hSm zm0 zm1 zm2 zm3 zm4 zm5 zm6 zm7 zm8 zm9 zm10 zm11 zm13 zm14
     simp only [putAll,Act.put,zA,zC,zB]
     obtain ⟨W10,hW10⟩:∃ W',W'=W.setCell ⟨gZ,i*5+3,none⟩ (.slice v1 (zz.tags.n+1) v3):=⟨_,rfl⟩
     clear hfZ hg fz3
     rw [← hW10] at HYO HW10 K10 ⊢
     clear hW10
     obtain ⟨d0,d1,d2,d3,d4,d5,d6⟩:=(⟨K10.out.cell 0,K10.out.cell 1,K10.out.cell 2,K10.out.cell 3,K10.out.cell 4,K10.out.cell 5,K10.out.cell 6⟩:_∧_∧_∧_∧_∧_∧_)
     simp only [zF,zD,zE] at d0 d1 d2 d3 d4 d5 d6
     go_upto_region 12 with (fail)
     have KZ:=Lib.hid (hKz.out W10 HW10.out)
     have HB:=Lib.hid (hBW.out W10 HW10.out)
     obtain ⟨WR,hW4,hth,HL,HBW,hgw⟩:=res7 (g:=(w.heap.size+1)) [.string ⟨mm.toArray⟩,.int .i64 mq,.int .i64 mx,.slice (some ⟨gS,0,none⟩) m2 m3,.slice n1 n2 n3,.slice p1 p2 p3,.slice q1 q2 q3] KZ.out HB.out tZ1
     have HOO:=Lib.hid ((TenO.keptT HYO.out hgw KZ.out offT_ten).mono (base':=w.heap.size) tZ90)
     clear hgw
     go_wp2_with (refine wpList_store_mid rfl 27 (.tmp 8) (.tmp 71) rfl ((w.heap.size+1)) 0 #[.string ⟨mm.toArray⟩,.int .i64 mq,.int .i64 mx,.slice (some ⟨gS,0,none⟩) m2 m3,.slice n1 n2 n3,.slice p1 p2 p3,.slice q1 q2 q3] rfl rfl hth.out tZ2 tZ5 ?_;rw [← hW4];clear hW4)
     exact bodyPost_ret (v:=.tuple #[.agg #[.string ⟨mm.toArray⟩,.int .i64 mq,.int .i64 mx,.slice (some ⟨gS,0,none⟩) m2 m3,.slice n1 n2 n3,.slice p1 p2 p3,.slice q1 q2 q3],.int .i64 0]) (results_cell_tmp rfl rfl HL.out) rfl (tenPost_ok HX.out HBW.out (TenR.putS ⟨mm,mq,mx,⟨some ⟨gS,0,none⟩,m2,m3,ml⟩,⟨n1,n2,n3,nl⟩,⟨p1,p2,p3,pl⟩,⟨q1,q2,q3,ql⟩⟩ k ((ml[k]'HKM.out).withSn ⟨xk.snaps.A,xk.snaps.n,xk.snaps.c,xk.snaps.l.set i ⟨zk.nm,zk.gd,zk.body,⟨v1,zz.tags.n+1,v3,insT tg zz.tags.l⟩,zk.own⟩⟩)) HOO.out HYC.out)
end Go.Proofs.YtiojfffgiejibaaGreatDoor
namespace Go.Proofs.YtiojfffgiejibaaGreatDoor
open Go.RowKit
theorem TenO.retag1 {w:World} {base base0:Nat} {t:TenR} (h:TenO w base t) (hp:t.sets.l.Pairwise ApartS) (k:Nat) (hk:k<t.sets.l.length) (x:SetR) (hx:x=t.sets.l[k]'hk) (i:Nat) (hi:i<x.snaps.l.length) (z:SnapR) (hz:z=x.snaps.l[i]'hi) (s':FS BS) (hs:s'.own w base0 9 1 encS) (hb:base0≤base) {gZ:Nat} (hA:x.snaps.A=some ⟨gZ,0,none⟩) :
  TenO (w.setCell ⟨gZ,i*5+3,none⟩ s'.val) base0 (t.putS k (x.withSn ⟨x.snaps.A,x.snaps.n,x.snaps.c,x.snaps.l.set i ⟨z.nm,z.gd,z.body,s',z.own⟩⟩))∧(t.putS k (x.withSn ⟨x.snaps.A,x.snaps.n,x.snaps.c,x.snaps.l.set i ⟨z.nm,z.gd,z.body,s',z.own⟩⟩)).con=t.con.putS k (x.con.retag i z.con s'.l)∧w.grownBy (w.setCell ⟨gZ,i*5+3,none⟩ s'.val) (some gZ):=by
 subst hx
 subst hz
 have hsx:=h.eachS _ (List.getElem_mem hk)
 obtain ⟨g,cs,hA2,_,hbk⟩:=hsx.snaps.blk (by have:=hsx.snaps.1;omega)
 rw [hA] at hA2
 injection hA2 with hA2
 injection hA2 with hA2
 subst hA2
 obtain ⟨hown8,hg8⟩:=hsx.snaps.field (fun _=>rfl) hA i 3 tZ3 (⟨((t.sets.l[k]'hk).snaps.l[i]'hi).nm,((t.sets.l[k]'hk).snaps.l[i]'hi).gd,((t.sets.l[k]'hk).snaps.l[i]'hi).body,s',((t.sets.l[k]'hk).snaps.l[i]'hi).own⟩:SnapR) s'.val (fun z hz=>by rw [List.getElem?_eq_getElem hi] at hz;cases hz;rfl)
 have hgZ:w.grownBy (w.setCell ⟨gZ,i*5+3,none⟩ s'.val) (t.sets.l[k]'hk).snaps.val.ownBlock:=by rw [show (t.sets.l[k]'hk).snaps.val.ownBlock=some gZ from by show (Value.slice (t.sets.l[k]'hk).snaps.A _ _).ownBlock=_;rw [hA];rfl];exact hg8
 have hAs:=h.aside hp k hk hgZ
 have hs8:s'.own (w.setCell ⟨gZ,i*5+3,none⟩ s'.val) base0 9 1 encS:=hs.keptT hg8 hbk tZ3
 have hm:Aside (w.setCell ⟨gZ,i*5+3,none⟩ s'.val) base0 t k hk:=⟨hAs.sets.mono hb,fun j hj hne=>(hAs.others j hj hne).mono hb,hAs.body.mono hb,hAs.own.mono hb,fun y hy=>(hAs.olds y hy).mono hb,hAs.grants.mono hb,hAs.stages.mono hb,fun y hy=>(hAs.eachG y hy).mono hb,hAs.log.mono hb⟩
 refine ⟨hm.place _ (hown8.mono hb) (fun y hy=>?_) rfl,?_,hg8⟩
 ·rcases List.mem_or_eq_of_mem_set hy with hy | rfl
  ·exact hm.olds y hy
  ·have h1:=hm.olds _ (List.getElem_mem hi)
   exact ⟨h1.body,hs8,h1.own⟩
 ·rw [TenR.con_putS,retag_con]
end Go.Proofs.YtiojfffgiejibaaGreatDoor
