/-
  snaps.Destroy: a snapshot is gone. holds.Held: has a snapshot a tag? What is held, by content: each of all that are held is a path and a name, and held.
-/
import Derived.Test.YtiojfffgiejibaaGreatDoorTtM1
import Derived.WalkKit
import Derived.WalkSpells
import Derived.Below
import Derived.Laws.OwnMore
import Derived.Deep.AppendLies
import Derived.Deep.Draws
import Derived.Laws.Rows
import Derived.Maps.AppendAt
import Derived.RegionTactic
import Derived.OwnWalk
import Derived.Deep.QuietTactic
import Derived.BigQuiet
import Derived.Lib.Hide
import Derived.Laws.CopyOwn
import Derived.IntWalk
import Derived.Test.YtiojfffgiejibaaGreatDoorRows
import Derived.Handy
import Derived.Lib.AppendZeros
import Derived.ProofKit
import Derived.Deep.Quiet
import Derived.OpenShut
import Derived.ShutString
import Derived.ChangeOld
import Derived.Carry
import Derived.SizedLaws
import Derived.JoinedCond
import Derived.Deep.CondSized
import Derived.Deep.Slices
import Derived.Deep.Fields
import Derived.Lib.SmallJoins
import Derived.Orders
import Derived.Lib.SplitLaws
import Derived.Lib.LastIndexByte
import Derived.Lib.Strings
import Derived.Deep.RegionLaw
import Derived.Sort.Walk0
import Derived.Sort.KeysCollected
import Derived.Shelf.SlIter.Nil
import Derived.Shelf.SortM.Plain
import Derived.Shelf.SortM.SortNone
import Derived.Maps.OwnSet
import Derived.Maps.StringElems
import Derived.Deep.MidRow
import Derived.Shelf.Strings.Search1
import Derived.Shelf.Strings.Search2
import Derived.Shelf.Strings.Search3
import Derived.Shelf.Strings.Cut
import Derived.Shelf.Strings.Count
import Derived.Shelf.LaysM
import Derived.Shelf.Strings.Shaped
import Derived.Shelf.Strings.LastIndex
import Derived.Shelf.Strings.Split
import Derived.Shelf.Strings.SplitShaped
import Derived.Shelf.Unicode.Decode
import Derived.Shelf.Strings.RuneCount
import Derived.Shelf.Strings.Explode
import Derived.Shelf.Unicode.DecodeSlow
import Derived.Shelf.Slices.Turned
import Derived.Test.YtiojfffgiejibaaGreatDoorProg
import Derived.Lib.Overlaps
import Derived.Lib.AppendZerosOnto
import Derived.Laws.BytesString
import Derived.Laws.IdiomStrings
import Derived.Lib.ConvBytes
import Derived.Deep.DeepCutAuto
import Derived.Great.BuildSlice
import Derived.Test.YtiojfffgiejibaaGreatDoorT0
import Derived.Test.YtiojfffgiejibaaGreatDoorTt1
import Derived.Test.YtiojfffgiejibaaGreatDoorTt5
import Derived.Test.YtiojfffgiejibaaGreatDoorTt7
import Derived.Test.YtiojfffgiejibaaGreatDoorTt9
import Derived.Test.YtiojfffgiejibaaGreatDoorTt10
import Derived.Test.YtiojfffgiejibaaGreatDoorTt11
import Derived.Test.YtiojfffgiejibaaGreatDoorTt12
import Derived.Test.YtiojfffgiejibaaGreatDoorTt15
import Derived.Test.YtiojfffgiejibaaGreatDoorTt16
import Derived.Test.YtiojfffgiejibaaGreatDoorTt17
import Derived.Test.YtiojfffgiejibaaGreatDoorTt19
import Derived.Test.YtiojfffgiejibaaGreatDoorTt20
import Derived.Test.YtiojfffgiejibaaGreatDoorTt21
import Derived.Test.YtiojfffgiejibaaGreatDoorTt23
import Derived.Test.YtiojfffgiejibaaGreatDoorTt24
import Derived.Test.YtiojfffgiejibaaGreatDoorTt25
import Derived.Test.YtiojfffgiejibaaGreatDoorTt26
import Derived.Test.YtiojfffgiejibaaGreatDoorTt30
import Derived.Test.YtiojfffgiejibaaGreatDoorTt36
import Derived.Test.YtiojfffgiejibaaGreatDoorTt39
namespace Go.Proofs.YtiojfffgiejibaaGreatDoor
open Go.RowKit
theorem encSnap_one (x:SnapR):∀ u∈encSnap x,u.oneCell'=true:=by intro u hu;simp [encSnap,strV,FS.val] at hu;rcases hu with rfl | rfl | rfl | rfl | rfl <;> rfl
set_option maxRecDepth 100000 in
set_option maxHeartbeats 8000000 in
theorem unsnap_any (t:TenR) (p n:BS)  (w:World) (B:Nat) (hB:B≤w.heap.size) (hr:t.rd w B) (hz:t.sz) (hp:p.length≤3000000000) (hmx:HasMax w) :
  Calls Tryz.prog 26 #[t.val,.string ⟨p.toArray⟩,.string ⟨n.toArray⟩] w (TenPost w (t.con.unsnap p n)):=by
 obtain ⟨V,hV⟩:∃ V,V=t.con.unsnap p n:=⟨_,rfl⟩
 rw [← hV]
 obtain ⟨R,hR⟩:∃ R,R=t.con.foundS p n false:=⟨_,rfl⟩
 have hway:=found_way t t.sets.l rfl p n false R hR
 have hcz:=TenC.sz_of hr hz
 obtain ⟨nm,qu,nx,⟨s1,sn,s3,sl⟩,⟨gA,gN,gC,gL⟩,⟨t1,tn,t3,tl⟩,⟨l1,ln,l3,ll⟩⟩:=t
 show Calls Tryz.prog 26 #[.agg #[.string ⟨nm.toArray⟩,.int .i64 qu,.int .i64 nx,.slice s1 sn s3,.slice gA gN gC,.slice t1 tn t3,.slice l1 ln l3],.string ⟨p.toArray⟩,.string ⟨n.toArray⟩] w _
 have hb:=(((Below.refl w.heap.size w).alloc (Nat.le_refl _) (.cells #[.string ⟨nm.toArray⟩,.int .i64 qu,.int .i64 nx,.slice s1 sn s3,.slice gA gN gC,.slice t1 tn t3,.slice l1 ln l3] 27)).alloc tZ4 (.cells #[.string ⟨#[]⟩,.int .i64 0,.int .i64 0,.slice none 0 0,.slice none 0 0,.slice none 0 0,.slice none 0 0] 27))
 have kt:=Blk.new w 27 #[.string ⟨nm.toArray⟩,.int .i64 qu,.int .i64 nx,.slice s1 sn s3,.slice gA gN gC,.slice t1 tn t3,.slice l1 ln l3]
 replace kt:=kt.alloc (.cells #[.string ⟨#[]⟩,.int .i64 0,.int .i64 0,.slice none 0 0,.slice none 0 0,.slice none 0 0,.slice none 0 0] 27)
 have kz:=Blk.new (w.alloc (.cells #[.string ⟨nm.toArray⟩,.int .i64 qu,.int .i64 nx,.slice s1 sn s3,.slice gA gN gC,.slice t1 tn t3,.slice l1 ln l3] 27)) 27 #[.string ⟨#[]⟩,.int .i64 0,.int .i64 0,.slice none 0 0,.slice none 0 0,.slice none 0 0,.slice none 0 0]
 rw [show (w.alloc (.cells #[.string ⟨nm.toArray⟩,.int .i64 qu,.int .i64 nx,.slice s1 sn s3,.slice gA gN gC,.slice t1 tn t3,.slice l1 ln l3] 27)).heap.size=w.heap.size+1 by simp] at kz
 have hsz:((w.alloc (.cells #[.string ⟨nm.toArray⟩,.int .i64 qu,.int .i64 nx,.slice s1 sn s3,.slice gA gN gC,.slice t1 tn t3,.slice l1 ln l3] 27)).alloc (.cells #[.string ⟨#[]⟩,.int .i64 0,.int .i64 0,.slice none 0 0,.slice none 0 0,.slice none 0 0,.slice none 0 0] 27)).heap.size=w.heap.size+2:=tZ4
 obtain ⟨W1,hW1⟩:∃ W,W=((w.alloc (.cells #[.string ⟨nm.toArray⟩,.int .i64 qu,.int .i64 nx,.slice s1 sn s3,.slice gA gN gC,.slice t1 tn t3,.slice l1 ln l3] 27)).alloc (.cells #[.string ⟨#[]⟩,.int .i64 0,.int .i64 0,.slice none 0 0,.slice none 0 0,.slice none 0 0,.slice none 0 0] 27)):=⟨_,rfl⟩
 rw [← hW1] at hb hsz kt kz
 have hKt:Hid (∀ W,Below W1.heap.size W1 W→Blk W w.heap.size 27 #[.string ⟨nm.toArray⟩,.int .i64 qu,.int .i64 nx,.slice s1 sn s3,.slice gA gN gC,.slice t1 tn t3,.slice l1 ln l3]):=fun W h=>kt.below h tZ1
 have hKz:Hid (∀ W,Below W1.heap.size W1 W→Blk W (w.heap.size+1) 27 #[.string ⟨#[]⟩,.int .i64 0,.int .i64 0,.slice none 0 0,.slice none 0 0,.slice none 0 0,.slice none 0 0]):=fun W h=>kz.below h tZ1
 have hBW:Hid (∀ W,Below W1.heap.size W1 W→Below w.heap.size w W):=fun W h=>hb.trans (h.mono tZ1)
 have hSZ:Hid (∀ W,Below W1.heap.size W1 W→w.heap.size+2≤W.heap.size):=fun W h=>by have:=h.size;omega
 have hW0:Hid (Below W1.heap.size W1 W1):=Below.refl _ _
 have hrw:Hid (∀ W,Below W1.heap.size W1 W→TenR.rd W B ⟨nm,qu,nx,⟨s1,sn,s3,sl⟩,⟨gA,gN,gC,gL⟩,⟨t1,tn,t3,tl⟩,⟨l1,ln,l3,ll⟩⟩∧B≤W.heap.size∧HasMax W):=fun W h =>
  ⟨TenR.rd.below hr ((hBW.out W h).mono hB),by have:=hSZ.out W h;omega,hmx.below (hBW.out W h)⟩
 obtain ⟨C,hC⟩:∃ C,C=TenR.con ⟨nm,qu,nx,⟨s1,sn,s3,sl⟩,⟨gA,gN,gC,gL⟩,⟨t1,tn,t3,tl⟩,⟨l1,ln,l3,ll⟩⟩:=⟨_,rfl⟩
 have hHC:=Lib.hid hC
 rw [← hC] at hR hway hcz hV
 simp only at hway
 have HR:=Lib.hid hR
 have HV:=Lib.hid hV
 have HCZ:=Lib.hid hcz
 have HZ:=Lib.hid hz
 have HP:=Lib.hid hp
 obtain ⟨a0,k0,e0⟩:=R
 have hFO:Hid (∀ W,Below W1.heap.size W1 W→Calls Tryz.prog 71 #[.agg #[.string ⟨nm.toArray⟩,.int .i64 qu,.int .i64 nx,.slice s1 sn s3,.slice gA gN gC,.slice t1 tn t3,.slice l1 ln l3],.string ⟨p.toArray⟩,.string ⟨n.toArray⟩,.slice none 0 0] W fun e w'=>e=.returned (.tuple #[.int .i64 a0,.int .i64 k0,.int .i64 e0])∧Below W.heap.size W w'):=fun W h=>by
  have h1:=found_any ⟨nm,qu,nx,⟨s1,sn,s3,sl⟩,⟨gA,gN,gC,gL⟩,⟨t1,tn,t3,tl⟩,⟨l1,ln,l3,ll⟩⟩ p n [] none 0 0 W B (hrw.out W h).2.1 (hrw.out W h).1 hz tZ1 (hrw.out W h).2.2 rfl tZ3 Reads.none_
  rw [foundS_con,← hC,show ([]:List Bool).contains false=false from rfl,← hR] at h1
  exact h1
 have hcn:(clonesL sl p n).length=C.clones p n:=by rw [hC];exact clones_con ⟨nm,qu,nx,⟨s1,sn,s3,sl⟩,⟨gA,gN,gC,gL⟩,⟨t1,tn,t3,tl⟩,⟨l1,ln,l3,ll⟩⟩ p n
 obtain ⟨cN,hcN⟩:∃ k,k=C.clones p n:=⟨_,rfl⟩
 have hCN:Hid (∀ W,Below W1.heap.size W1 W→Calls Tryz.prog 52 #[.agg #[.string ⟨nm.toArray⟩,.int .i64 qu,.int .i64 nx,.slice s1 sn s3,.slice gA gN gC,.slice t1 tn t3,.slice l1 ln l3],.string ⟨p.toArray⟩,.string ⟨n.toArray⟩] W fun e w'=>(∃ A1 c1,e=.returned (.slice A1 cN c1))∧Below W.heap.size W w'):=fun W h=>by
  rw [hcN,← hcn]
  exact (clones_any _ _ _ _ _ _ sl sn hr.sets.1 s1 s3 p n W B (hrw.out W h).1.sets.2.2 (hrw.out W h).2.1 tZ29 (fun y hy=>(hz.eachS y hy).org) (hrw.out W h).2.2).mono (by rintro e w' ⟨A1,c1,rfl,-,hb⟩;exact ⟨⟨A1,c1,rfl⟩,hb⟩)
 have hCP:Hid (∀ W,Below W1.heap.size W1 W→Calls Tryz.prog 54 #[.agg #[.string ⟨nm.toArray⟩,.int .i64 qu,.int .i64 nx,.slice s1 sn s3,.slice gA gN gC,.slice t1 tn t3,.slice l1 ln l3]] W fun e w'=>∃ y:TenR,e=.returned y.val∧TenO w' W.heap.size y∧TenR.eqv ⟨nm,qu,nx,⟨s1,sn,s3,sl⟩,⟨gA,gN,gC,gL⟩,⟨t1,tn,t3,tl⟩,⟨l1,ln,l3,ll⟩⟩ y∧y.sets.l.Pairwise ApartS∧Below W.heap.size W w'):=fun W h =>
  tcopy2_any ⟨nm,qu,nx,⟨s1,sn,s3,sl⟩,⟨gA,gN,gC,gL⟩,⟨t1,tn,t3,tl⟩,⟨l1,ln,l3,ll⟩⟩ W B (hrw.out W h).2.1 (hrw.out W h).1 hz
 have hSN:=Lib.hid (show sn=sl.length from hr.sets.1)
 have HCN:=Lib.hid hcN
 clear hb hsz kt kz hr hp hmx hV hC hz hcz hR hcn hcN
 go_enter Tryz.func26,Tryz.ntmps26
 have hc:=hFO.out  W1 hW0.out
 have kk:=hKt.out W1 hW0.out
 obtain ⟨c0,c1,c2,c3,c4,c5,c6⟩:=(⟨kk.cell 0,kk.cell 1,kk.cell 2,kk.cell 3,kk.cell 4,kk.cell 5,kk.cell 6⟩:_∧_∧_∧_∧_∧_∧_)
 simp only [zF,zD,zE] at c0 c1 c2 c3 c4 c5 c6
 clear kk
 go_wp2_with fail
 rw [← hW1]
 clear hW1
 refine hc.mono ?_
 clear hc c0 c1 c2 c3 c4 c5 c6
 rintro e w2 ⟨rfl,hb⟩
 have HW2:=Lib.hid (hW0.out.trans (hb.mono hW0.out.size))
 clear hb
 rcases hway with ⟨a,kk,E,hE,hRe⟩ | ⟨k,i,hkl,hil,hRe,hat,hgk,hgi,hnm⟩
 ·obtain ⟨rfl,rfl,rfl⟩:a0=a∧k0=kk∧e0=E:=tZ11
  clear hRe
  have hne:e0≠0:=by rcases hE with h | h | h <;> rw [h] <;> decide
  have hneb:(e0 == 0)=false:=tZ116
  have HX:Hid (V=(e0,C)):=by show _=_;rw [HV.out];exact unsnap_bad HR.out.symm hne
  have HNE:=Lib.hid hne
  clear HV HR hE hne
  have KZ:=Lib.hid (hKz.out w2 HW2.out)
  have HB:=Lib.hid (hBW.out w2 HW2.out)
  obtain ⟨WR,hW4,hth,HL,HBW,hgw⟩:=res7 (g:=(w.heap.size+1)) [.string ⟨#[]⟩,.int .i64 0,.int .i64 0,.slice none 0 0,.slice none 0 0,.slice none 0 0,.slice none 0 0] KZ.out HB.out tZ1
  clear hgw
  go_wp2_with (refine wpList_store_mid rfl 27 (.tmp 6) (.tmp 23) rfl ((w.heap.size+1)) 0 #[.string ⟨#[]⟩,.int .i64 0,.int .i64 0,.slice none 0 0,.slice none 0 0,.slice none 0 0,.slice none 0 0] rfl rfl hth.out tZ2 tZ5 ?_;rw [← hW4];clear hW4)
  exact mZ202
 ·obtain ⟨rfl,rfl,rfl⟩:a0=(k:Int)∧k0=(i:Int)∧e0=0:=tZ11
  clear hRe
  have HX0:Hid (V=if 0<cN then (44,C) else if 0<(sl[k]'hkl).snaps.l[i].con.tags.length then (43,C) else (0,C.putS k ((sl[k]'hkl).con.dropSnap i))):=by show _=_;rw [HV.out,HCN.out];exact unsnap_at HR.out.symm hgk hgi
  clear HV HR
  have hc:=hCN.out  w2 HW2.out
  have kk:=hKt.out w2 HW2.out
  obtain ⟨c0,c1,c2,c3,c4,c5,c6⟩:=(⟨kk.cell 0,kk.cell 1,kk.cell 2,kk.cell 3,kk.cell 4,kk.cell 5,kk.cell 6⟩:_∧_∧_∧_∧_∧_∧_)
  simp only [zF,zD,zE] at c0 c1 c2 c3 c4 c5 c6
  clear kk
  go_wp2_with fail
  refine hc.mono ?_
  clear hc c0 c1 c2 c3 c4 c5 c6
  rintro e w3 ⟨⟨A1,c1,rfl⟩,hb⟩
  have HW3:=Lib.hid (HW2.out.trans (hb.mono HW2.out.size))
  clear hb
  by_cases hcn:0<cN
  ·have hcni:(0:Int)<(cN:Int):=tZ1
   have HX:=Lib.hid (HX0.out.trans (if_pos hcn))
   clear HX0
   have KZ:=Lib.hid (hKz.out w3 HW3.out)
   have HB:=Lib.hid (hBW.out w3 HW3.out)
   clear hgi
   obtain ⟨WR,hW4,hth,HL,HBW,hgw⟩:=res7 (g:=(w.heap.size+1)) [.string ⟨#[]⟩,.int .i64 0,.int .i64 0,.slice none 0 0,.slice none 0 0,.slice none 0 0,.slice none 0 0] KZ.out HB.out tZ1
   clear hgw
   go_wp2_with (refine wpList_store_mid rfl 27 (.tmp 6) (.tmp 32) rfl ((w.heap.size+1)) 0 #[.string ⟨#[]⟩,.int .i64 0,.int .i64 0,.slice none 0 0,.slice none 0 0,.slice none 0 0,.slice none 0 0] rfl rfl hth.out tZ2 tZ5 ?_;rw [← hW4];clear hW4)
   exact bodyPost_ret (v:=.tuple #[.agg #[.string ⟨#[]⟩,.int .i64 0,.int .i64 0,.slice none 0 0,.slice none 0 0,.slice none 0 0,.slice none 0 0],.int .i64 44]) (results_cell_tmp rfl rfl HL.out) rfl (tenPost_err HX.out tZ3 HBW.out)
  ·have hcni:¬ (0:Int)<(cN:Int):=tZ1
   have HXa:=Lib.hid (HX0.out.trans (if_neg hcn))
   clear HX0
   have hrk:=(hrw.out w3 HW3.out).1
   have hks:k<sn:=tZ44
   have hki:(k:Int)<(sn:Int):=tZ1
   have hk0:(0:Int)≤(k:Int):=tZ1
   obtain ⟨ad,hsa,-,fa0,fa1,fa2,fa3,fa4⟩:=set_at hrk.sets.2.2 hSN.out hks
   simp only at hsa
   have hx:=hrk.eachS _ (List.getElem_mem hkl)
   have hzx:=HZ.out.eachS _ (List.getElem_mem hkl)
   obtain ⟨x,hxx⟩:∃ x,x=sl[k]'hkl:=⟨_,rfl⟩
   simp only [← hxx] at fa0 fa1 fa2 fa3 fa4 hx hzx hgk hil hgi hnm
   have hin:i<x.snaps.n:=tZ86
   have hii:(i:Int)<(x.snaps.n:Int):=tZ1
   have hi0:(0:Int)≤(i:Int):=tZ1
   obtain ⟨az,hza,-,fb0,fb1,fb2,fb3,fb4⟩:=snap_at hx.snaps.2.2 hx.snaps.1 hin
   obtain ⟨zz,hzz⟩:∃ z,z=x.snaps.l[i]'hil:=⟨_,rfl⟩
   have hxi:=hx.each _ (List.getElem_mem hil)
   have hzi:=hzx.each _ (List.getElem_mem hil)
   simp only [← hzz] at fb0 fb1 fb2 fb3 fb4 hgi hnm hxi hzi
   have hHX0:V=if 0<(x.snaps.l[i]'hil).con.tags.length then (43,C) else (0,C.putS k (x.con.dropSnap i)):=by have h:=HXa.out;simpa only [hxx] using h
   rw [← hzz] at hHX0
   have htl:zz.con.tags.length=zz.tags.n:=hxi.tags.1.symm
   rw [htl] at hHX0
   have HX1:=Lib.hid hHX0
   clear hHX0 htl HXa
   have kk:=hKt.out w3 HW3.out
   obtain ⟨c0,c1,c2,c3,c4,c5,c6⟩:=(⟨kk.cell 0,kk.cell 1,kk.cell 2,kk.cell 3,kk.cell 4,kk.cell 5,kk.cell 6⟩:_∧_∧_∧_∧_∧_∧_)
   simp only [zF,zD,zE] at c0 c1 c2 c3 c4 c5 c6
   clear kk
   subst hsa
   have HZA:=Lib.hid hza
   rw [hza] at fa3
   clear hza
   have hti:(0:Int)≤(zz.tags.n:Int):=tZ1
   by_cases htn:0<zz.tags.n
   ·have htni:(0:Int)<(zz.tags.n:Int):=tZ1
    have HX:=Lib.hid (HX1.out.trans (if_pos htn))
    clear HX1 hcn
    clear hgi hgk hnm
    have KZ:=Lib.hid (hKz.out w3 HW3.out)
    have HB:=Lib.hid (hBW.out w3 HW3.out)
    clear hxx hzz hx hzx hxi hzi hrk hin hil
    obtain ⟨WR,hW4,hth,HL,HBW,hgw⟩:=res7 (g:=(w.heap.size+1)) [.string ⟨#[]⟩,.int .i64 0,.int .i64 0,.slice none 0 0,.slice none 0 0,.slice none 0 0,.slice none 0 0] KZ.out HB.out tZ1
    clear hgw
    go_wp2_with (refine wpList_store_mid rfl 27 (.tmp 6) (.tmp 46) rfl ((w.heap.size+1)) 0 #[.string ⟨#[]⟩,.int .i64 0,.int .i64 0,.slice none 0 0,.slice none 0 0,.slice none 0 0,.slice none 0 0] rfl rfl hth.out tZ2 tZ5 ?_;rw [← hW4];clear hW4)
    exact bodyPost_ret (v:=.tuple #[.agg #[.string ⟨#[]⟩,.int .i64 0,.int .i64 0,.slice none 0 0,.slice none 0 0,.slice none 0 0,.slice none 0 0],.int .i64 43]) (results_cell_tmp rfl rfl HL.out) rfl (tenPost_err HX.out tZ3 HBW.out)
   ·have htni:¬ (0:Int)<(zz.tags.n:Int):=tZ1
    have HX:=Lib.hid (HX1.out.trans (if_neg htn))
    have hZS:=Lib.hid hzx.snaps
    clear HX1
    have HGK:=Lib.hid hgk
    have HXN:=Lib.hid hx.snaps.1
    have HIL:=Lib.hid hil
    clear hxx hzz hx hzx hxi hzi hrk hin hgi hgk hnm
    have hc:=hCP.out w3 HW3.out
    have kk:=hKt.out w3 HW3.out
    obtain ⟨c0,c1,c2,c3,c4,c5,c6⟩:=(⟨kk.cell 0,kk.cell 1,kk.cell 2,kk.cell 3,kk.cell 4,kk.cell 5,kk.cell 6⟩:_∧_∧_∧_∧_∧_∧_)
    simp only [zF,zD,zE] at c0 c1 c2 c3 c4 c5 c6
    clear kk
    clear hCP
    go_wp2_with fail
    refine hc.mono ?_
    clear hc c0 c1 c2 c3 c4 c5 c6
    rintro e w6 ⟨y,rfl,ho6,he6,hpw,hb6⟩
    have HW6:=Lib.hid (HW3.out.trans (hb6.mono HW3.out.size))
    have HCON:=Lib.hid ((TenR.eqv_iff _ _).1 he6)
    have hlen:y.sets.n=sn:=by
     exact mZ173
    obtain ⟨mm,mq,mx,⟨m1,m2,m3,ml⟩,⟨n1,n2,n3,nl⟩,⟨p1,p2,p3,pl⟩,⟨q1,q2,q3,ql⟩⟩:=y
    replace hlen:m2=sn:=hlen
    replace hpw:ml.Pairwise ApartS:=hpw
    have hms:m2=ml.length:=ho6.sets.1
    have hkm:k<m2:=tZ44
    have hkml:k<ml.length:=tZ1
    obtain ⟨gS,csS,hA,hbg,hblk⟩:=ho6.sets.blk tZ115
    replace hA:m1=some ⟨gS,0,none⟩:=hA
    subst hA
    have hgS6:=hblk.lt
    simp only [TenR.val,TenR.cells,FS.val,strV]
    clear hcn hcni htni htn
    have hszc:=hSZ.out w3 HW3.out
    have hszn:=hSZ.out w6 HW6.out
    have hb67:=(Below.refl w6.heap.size w6).alloc (Nat.le_refl _) (.cells #[.string ⟨mm.toArray⟩,.int .i64 mq,.int .i64 mx,.slice (some ⟨gS,0,none⟩) m2 m3,.slice n1 n2 n3,.slice p1 p2 p3,.slice q1 q2 q3] 27)
    have ho7:=ho6.below hb67
    have k7:=Blk.new w6 27 #[.string ⟨mm.toArray⟩,.int .i64 mq,.int .i64 mx,.slice (some ⟨gS,0,none⟩) m2 m3,.slice n1 n2 n3,.slice p1 p2 p3,.slice q1 q2 q3]
    have kz7:=(hKz.out w6 HW6.out).alloc (.cells #[.string ⟨mm.toArray⟩,.int .i64 mq,.int .i64 mx,.slice (some ⟨gS,0,none⟩) m2 m3,.slice n1 n2 n3,.slice p1 p2 p3,.slice q1 q2 q3] 27)
    have hbw7:=(hBW.out w6 HW6.out).alloc tZ1 (.cells #[.string ⟨mm.toArray⟩,.int .i64 mq,.int .i64 mx,.slice (some ⟨gS,0,none⟩) m2 m3,.slice n1 n2 n3,.slice p1 p2 p3,.slice q1 q2 q3] 27)
    have hw17:=HW6.out.alloc HW6.out.size (.cells #[.string ⟨mm.toArray⟩,.int .i64 mq,.int .i64 mx,.slice (some ⟨gS,0,none⟩) m2 m3,.slice n1 n2 n3,.slice p1 p2 p3,.slice q1 q2 q3] 27)
    have hsz7:(w6.alloc (.cells #[.string ⟨mm.toArray⟩,.int .i64 mq,.int .i64 mx,.slice (some ⟨gS,0,none⟩) m2 m3,.slice n1 n2 n3,.slice p1 p2 p3,.slice q1 q2 q3] 27)).heap.size=w6.heap.size+1:=tZ4
    obtain ⟨g5,hg5⟩:∃ g,g=w6.heap.size:=⟨_,rfl⟩
    obtain ⟨w7,hW7⟩:∃ W,W=w6.alloc (.cells #[.string ⟨mm.toArray⟩,.int .i64 mq,.int .i64 mx,.slice (some ⟨gS,0,none⟩) m2 m3,.slice n1 n2 n3,.slice p1 p2 p3,.slice q1 q2 q3] 27):=⟨_,rfl⟩
    rw [← hW7] at ho7 k7 kz7 hbw7 hw17 hsz7
    rw [← hg5] at k7 hsz7
    have HW7:=Lib.hid hw17
    have K7:=Lib.hid k7
    have KZ7:=Lib.hid kz7
    have HB7:=Lib.hid hbw7
    have HO7:=Lib.hid ho7
    have HPW:=Lib.hid hpw
    have HKM:=Lib.hid hkml
    have HG5:=Lib.hid (show gS<g5∧w3.heap.size≤gS∧g5<w7.heap.size∧w3.heap.size≤w7.heap.size∧w.heap.size+2≤w3.heap.size by omega)
    have hyc:Hid (TenR.con ⟨mm,mq,mx,⟨some ⟨gS,0,none⟩,m2,m3,ml⟩,⟨n1,n2,n3,nl⟩,⟨p1,p2,p3,pl⟩,⟨q1,q2,q3,ql⟩⟩=C):=tZ51
    have hkm2:(k:Int)<(m2:Int):=tZ1
    obtain ⟨xk,hxk⟩:∃ x,x=ml[k]'hkml:=⟨_,rfl⟩
    have HXK:=Lib.hid hxk
    have hxcon:xk.con=x.con:=by
     exact mZ172
    have HXC:=Lib.hid hxcon
    have hsx7:=ho7.eachS _ (List.getElem_mem hkml)
    simp only [← hxk] at hsx7
    have HSX:=Lib.hid hsx7
    obtain ⟨hbg7,hltS,hfzS,-,-,-,hcS,-⟩:=row_cells ho7.sets hkml rfl
    simp only [← hxk] at hcS
    have hxs:xk.snaps.l.length=x.snaps.l.length:=by have h:=congrArg (fun c:SetC=>c.snaps.length) hxcon;simpa [SetR.con] using h
    have hxn:i<xk.snaps.n:=tZ94
    have hxz:xk.snaps.n≤1000000000000:=by have h1:=hsx7.snaps.1;have h2:=HXN.out;have h3:=hZS.out;omega
    obtain ⟨k1,hk1⟩:∃ k1:Int,k1=(i:Int)+1:=⟨_,rfl⟩
    have hwk:IntKind.i64.wrap ((i:Int)+1)=k1:=tZ117
    have hDL:Hid (∀ W,Below w7.heap.size w7 W→Calls Tryz.prog 76 #[.slice xk.snaps.A xk.snaps.n xk.snaps.c,.int .i64 i,.int .i64 k1] W fun e w'=>∃ v,e=.returned v∧w'.ownsRow w3.heap.size 58 5 v (xk.snaps.n-1) ((cellsK encSnap xk.snaps.l).take (i*5)++(cellsK encSnap xk.snaps.l).drop ((i+1)*5))∧W.grownBy w' xk.snaps.val.ownBlock):=fun W h=>by
     rw [hk1]
     exact delSnap_any (cellsK encSnap xk.snaps.l) (cells_one encSnap_one _) xk.snaps.n i xk.snaps.c w3.heap.size xk.snaps.A W hxn tZ1 (hsx7.snaps.below h).2
    have hS:Hid (∀ W,Below w7.heap.size w7 W→W.cell? ⟨g5,3,none⟩=some (.slice (some ⟨gS,0,none⟩) m2 m3)∧W.cell? ⟨gS,k*5+3,none⟩=some (.slice xk.snaps.A xk.snaps.n xk.snaps.c)):=fun W h=>⟨(K7.out.below h K7.out.lt).cell 3,(h.cell (p:=⟨gS,k*5+3,none⟩) hltS).trans hcS⟩
    have HIN:=Lib.hid (show i<xk.snaps.n∧xk.snaps.n=xk.snaps.l.length∧xk.snaps.n≤1000000000000 from ⟨hxn,hsx7.snaps.1,hxz⟩)
    have HSS:=Lib.hid (show W1.heap.size≤w3.heap.size from HW3.out.size)
    clear ho6 he6 hb6 hlen hms hbg hblk hgS6 hszc hszn hb67 ho7 k7 kz7 hbw7 hw17 hsz7 hxk hxcon hsx7 hxs hxn hxz hk1 hcS hfzS hltS hbg7 hpw HCON hkm hil fa0 fa1 fa2 fa3 fa4 fb0 fb1 fb2 fb3 fb4 hks hti hii
    go_upto_region 9 with (refine wpList_store_new w6 rfl 27 (.tmp 11) (.tmp 48) rfl 27 [.string ⟨#[]⟩,.int .i64 0,.int .i64 0,.slice none 0 0,.slice none 0 0,.slice none 0 0,.slice none 0 0] [.string ⟨mm.toArray⟩,.int .i64 mq,.int .i64 mx,.slice (some ⟨gS,0,none⟩) m2 m3,.slice n1 n2 n3,.slice p1 p2 p3,.slice q1 q2 q3] rfl rfl rfl tZ2 tZ5 ?_;rw [show ([.string ⟨mm.toArray⟩,.int .i64 mq,.int .i64 mx,.slice (some ⟨gS,0,none⟩) m2 m3,.slice n1 n2 n3,.slice p1 p2 p3,.slice q1 q2 q3]:List Value).toArray=#[.string ⟨mm.toArray⟩,.int .i64 mq,.int .i64 mx,.slice (some ⟨gS,0,none⟩) m2 m3,.slice n1 n2 n3,.slice p1 p2 p3,.slice q1 q2 q3] from rfl,← hW7,← hg5];clear hW7 hg5)
    refine wp_region_two 12 15 [0,1,2,13,14] tZ2 tZ2 tZ2 tZ3 tZ3 tZ3 [(fun v _=>v=.pointer (some ⟨g5,3,none⟩)),
      (fun v _=>v=.slice (some ⟨gS,0,none⟩) m2 m3),
      (fun v _=>v=.int .i64 (k:Int)),
      (fun v _=>v=.pointer (some ⟨g5,3,none⟩)),
      (fun v _=>v=.slice (some ⟨gS,0,none⟩) m2 m3),
      (fun v _=>v=.int .i64 (k:Int)),
      (fun v _=>v=.pointer (some ⟨gS,k*5,none⟩)),
      (fun v _=>v=.pointer (some ⟨gS,k*5+3,none⟩)),
      (fun v _=>v=.slice xk.snaps.A xk.snaps.n xk.snaps.c),
      (fun v _=>v=.int .i64 (i:Int)),
      (fun v _=>v=.int .i64 (i:Int)),
      (fun v _=>v=.int .i64 k1),
      (fun _ _=>True),
      (fun v _=>v=.pointer (some ⟨gS,k*5,none⟩)),
      (fun v _=>v=.pointer (some ⟨gS,k*5+3,none⟩)),
      (fun _ _=>True)] ?_ (early2 tZ2) ?_ (fun W9 u W=>∃ A1 c1,u=.slice A1 (xk.snaps.n-1) c1∧W.ownsRow w3.heap.size 58 5 u (xk.snaps.n-1) ((cellsK encSnap xk.snaps.l).take (i*5)++(cellsK encSnap xk.snaps.l).drop ((i+1)*5))∧W9.grownBy W xk.snaps.val.ownBlock) ?_ ?_ ?_
    ·repeat' (first | exact stays_nil | refine stays_cons ?_ ?_ | exact Stays.pure | exact Stays.pure)
    ·intro i oo ho hiS hiL hil mf W hb0 hmi hcl hdeps AA KK hA hK
     rcases i with _ | _ | _ | _ | _ | _ | _ | _ | _ | _ | _ | _ | _ | _ | _ | _ | i
     ·exact mZ167
     ·exact mZ167
     ·exact mZ167
     ·injection ho with ho;subst ho
      have ef11:AA.tmps[11]?.getD undef=.pointer (some ⟨g5,0,none⟩):=tF hA
      exact zP
     ·injection ho with ho;subst ho
      have e3:=eD hdeps hA 3 52
      obtain ⟨r1,r2⟩:=hS.out W hb0
      exact zP
     ·injection ho with ho;subst ho
      have ef8:AA.tmps[8]?.getD undef=.int .i64 (k:Int):=tF hA
      exact zP
     ·injection ho with ho;subst ho
      have e4:=eD hdeps hA 4 53
      have e5:=eD hdeps hA 5 54
      exact zP
     ·injection ho with ho;subst ho
      have e6:=eD hdeps hA 6 55
      exact zP
     ·injection ho with ho;subst ho
      have e7:=eD hdeps hA 7 56
      obtain ⟨r1,r2⟩:=hS.out W hb0
      exact zP
     ·exact mZ207
     ·exact mZ207
     ·injection ho with ho;subst ho
      have e10:=eD hdeps hA 10 59
      exact zP
     ·exact absurd rfl hiS
     ·exact mZ167
     ·exact mZ167
     ·exact absurd rfl hiL
     ·simp at ho
    ·intro i oo ho hiS hiL hil mf W9 W hb9 hmi hcl hdeps hRW AA KK hA hK
     rcases i with _ | _ | _ | _ | _ | _ | _ | _ | _ | _ | _ | _ | _ | _ | _ | _ | i
     ·injection ho with ho;subst ho
      have ef11:AA.tmps[11]?.getD undef=.pointer (some ⟨g5,0,none⟩):=tF hA
      exact zL
     ·injection ho with ho;subst ho
      have e0:=eL hdeps hA 0 49
      have r1:W.cell? ⟨g5,3,none⟩=some (.slice (some ⟨gS,0,none⟩) m2 m3):=by
       rcases hRW with rfl | ⟨u,-,A1,c1,-,-,hg⟩
       ·exact (hS.out _ hb9).1
       ·exact ((K7.out.below hb9 K7.out.lt).grown hg (own_ne (HSX.out.snaps.below hb9) (K7.out.below hb9 K7.out.lt) tZ3)).cell 3
      exact zL
     ·injection ho with ho;subst ho
      have ef8:AA.tmps[8]?.getD undef=.int .i64 (k:Int):=tF hA
      exact zL
     ·exact mZ166
     ·exact mZ166
     ·exact mZ166
     ·exact mZ166
     ·exact mZ166
     ·exact mZ166
     ·exact mZ166
     ·exact mZ166
     ·exact mZ166
     ·exact absurd rfl hiS
     ·injection ho with ho;subst ho
      have e1:=eL hdeps hA 1 50
      have e2:=eL hdeps hA 2 51
      exact zL
     ·injection ho with ho;subst ho
      have e13:=eL hdeps hA 13 62
      exact zL
     ·exact absurd rfl hiL
     ·simp at ho
    ·intro oo ho mf W hb0 hmi hcl hdeps AA KK hA hK
     injection ho with ho;subst ho
     have e8:=eD hdeps hA 8 57
     have e9:=eD hdeps hA 9 58
     have e11:=eD hdeps hA 11 60
     clear hA hdeps hmi hcl
     have hKK:=hK
     clear hK
     go_simp
     refine (hDL.out W hb0).mono ?_
     exact mZ195
    ·intro oo ho mf W9 W uS hb9 hmi hall hSm hR AA KK hA hK
     injection ho with ho;subst ho
     have zm0:=dV (hall 0 tZ4 tZ3 tZ3)
     have zm1:=dV (hall 1 tZ4 tZ3 tZ3)
     have zm2:=dV (hall 2 tZ4 tZ3 tZ3)
     have zm3:=dV (hall 3 tZ4 tZ3 tZ3)
     have zm4:=dV (hall 4 tZ4 tZ3 tZ3)
     have zm5:=dV (hall 5 tZ4 tZ3 tZ3)
     have zm6:=dV (hall 6 tZ4 tZ3 tZ3)
     have zm7:=dV (hall 7 tZ4 tZ3 tZ3)
     have zm8:=dV (hall 8 tZ4 tZ3 tZ3)
     have zm9:=dV (hall 9 tZ4 tZ3 tZ3)
     have zm10:=dV (hall 10 tZ4 tZ3 tZ3)
     have zm11:=dV (hall 11 tZ4 tZ3 tZ3)
     have zm13:=dV (hall 13 tZ4 tZ3 tZ3)
     have zm14:=dV (hall 14 tZ4 tZ3 tZ3)
     obtain ⟨v1,v3,rfl,hv,hg⟩:=hR
     have e12:AA.tmps[61]?.getD undef=.slice v1 (xk.snaps.n-1) v3:=tO hA hSm
     have e14:AA.tmps[63]?.getD undef=.pointer (some ⟨gS,k*5+3,none⟩):=tO hA zm14
     have ho9:=HO7.out.below hb9
     have hsx9:=HSX.out.below hb9
     have hAs:=ho9.aside HPW.out k HKM.out tZ143
     obtain ⟨hbS,hlS,hfS,-,-,-,hcS,-⟩:=row_cells hAs.sets HKM.out rfl
     have hfS:=hfS (k*5+3)
     have k9:=(K7.out.below hb9 K7.out.lt).grown hg (own_ne hsx9.snaps (K7.out.below hb9 K7.out.lt) tZ3)
     have hw9:Below W1.heap.size W1 W:=(HW7.out.trans (hb9.mono HW7.out.size)).grown hg tZ121 (fun g hgg=>by have:=(hsx9.snaps.2.lt _ hgg).1;have:=HSS.out;omega)
     have hst:=hAs.store ⟨v1,xk.snaps.n-1,v3,xk.snaps.l.take i++xk.snaps.l.drop (i+1)⟩ ⟨by have:=HIN.out;simp only [List.length_append,List.length_take,List.length_drop];omega,by
      show World.ownsRow _ _ _ _ _ _ (cellsK encSnap (xk.snaps.l.take i++xk.snaps.l.drop (i+1)))
      rw [cellsK_append,cellsK_take (enc:=encSnap) (k:=5) (fun _=>rfl),cellsK_drop (enc:=encSnap) (k:=5) (fun _=>rfl)]
      exact hv⟩ (fun z hz=>hAs.olds z (by
       simp only [← HXK.out]
       rcases List.mem_append.1 hz with hz | hz
       ·exact List.mem_of_mem_take hz
       ·exact List.mem_of_mem_drop hz)) (gS:=gS) rfl
     have HYO:Hid (TenO (W.setCell ⟨gS,k*5+3,none⟩ (.slice v1 (xk.snaps.n-1) v3)) w3.heap.size (TenR.putS ⟨mm,mq,mx,⟨some ⟨gS,0,none⟩,m2,m3,ml⟩,⟨n1,n2,n3,nl⟩,⟨p1,p2,p3,pl⟩,⟨q1,q2,q3,ql⟩⟩ k ((ml[k]'HKM.out).withSn ⟨v1,xk.snaps.n-1,v3,xk.snaps.l.take i++xk.snaps.l.drop (i+1)⟩))):=hst.1
     have HW10:=Lib.hid (hw9.setCell (p:=⟨gS,k*5+3,none⟩) tZ70 (.slice v1 (xk.snaps.n-1) v3))
     have K10:=Lib.hid (k9.far (p:=⟨gS,k*5+3,none⟩) tZ158 (.slice v1 (xk.snaps.n-1) v3))
     have HYC:Hid (TenR.con (TenR.putS ⟨mm,mq,mx,⟨some ⟨gS,0,none⟩,m2,m3,ml⟩,⟨n1,n2,n3,nl⟩,⟨p1,p2,p3,pl⟩,⟨q1,q2,q3,ql⟩⟩ k ((ml[k]'HKM.out).withSn ⟨v1,xk.snaps.n-1,v3,xk.snaps.l.take i++xk.snaps.l.drop (i+1)⟩))=C.putS k (x.con.dropSnap i)):=by
      show _=_
      have h1:=dropSnap_con xk i v1 (xk.snaps.n-1) v3
      simp only [← HXK.out]
      rw [TenR.con_putS,hyc.out,h1,HXC.out]
     clear ho9 hsx9 hAs k9 hw9 hst hv hb9
     have hK0:=hK undef (W.setCell ⟨gS,k*5+3,none⟩ (.slice v1 (xk.snaps.n-1) v3))
     clear hA hK hall hmi
     go_simp
     refine hK0 ?_
     clear hK0 e12 e14
     rw [frameM_all tZ2 [.pointer (some ⟨g5,3,none⟩),.slice (some ⟨gS,0,none⟩) m2 m3,.int .i64 (k:Int),.pointer (some ⟨g5,3,none⟩),.slice (some ⟨gS,0,none⟩) m2 m3,.int .i64 (k:Int),.pointer (some ⟨gS,k*5,none⟩),.pointer (some ⟨gS,k*5+3,none⟩),.slice xk.snaps.A xk.snaps.n xk.snaps.c,.int .i64 (i:Int),.int .i64 (i:Int),.int .i64 k1,.slice v1 (xk.snaps.n-1) v3,.pointer (some ⟨gS,k*5,none⟩),.pointer (some ⟨gS,k*5+3,none⟩),undef] rfl (fun i hi=>by rcases i with _ | _ | _ | _ | _ | _ | _ | _ | _ | _ | _ | _ | _ | _ | _ | _ | i <;> first | (rw [upd_self];rfl) | (rw [upd_ne _ _ tZ3];assumption) | (simp at hi;omega))]
     clear hSm zm0 zm1 zm2 zm3 zm4 zm5 zm6 zm7 zm8 zm9 zm10 zm11 zm13 zm14
     simp only [putAll,Act.put,List.setIfInBounds_toArray,zC,zB]
     obtain ⟨W10,hW10⟩:∃ W',W'=W.setCell ⟨gS,k*5+3,none⟩ (.slice v1 (xk.snaps.n-1) v3):=⟨_,rfl⟩
     clear hcS hfS hg
     rw [← hW10] at HYO HW10 K10 ⊢
     clear hW10
     obtain ⟨d0,d1,d2,d3,d4,d5,d6⟩:=(⟨K10.out.cell 0,K10.out.cell 1,K10.out.cell 2,K10.out.cell 3,K10.out.cell 4,K10.out.cell 5,K10.out.cell 6⟩:_∧_∧_∧_∧_∧_∧_)
     simp only [zF,zD,zE] at d0 d1 d2 d3 d4 d5 d6
     go_upto_region 10 with (fail)
     have KZ:=Lib.hid (hKz.out W10 HW10.out)
     have HB:=Lib.hid (hBW.out W10 HW10.out)
     obtain ⟨WR,hW4,hth,HL,HBW,hgw⟩:=res7 (g:=(w.heap.size+1)) [.string ⟨mm.toArray⟩,.int .i64 mq,.int .i64 mx,.slice (some ⟨gS,0,none⟩) m2 m3,.slice n1 n2 n3,.slice p1 p2 p3,.slice q1 q2 q3] KZ.out HB.out tZ1
     have HOO:=Lib.hid ((TenO.keptT HYO.out hgw KZ.out offT_ten).mono (base':=w.heap.size) tZ90)
     clear hgw
     go_wp2_with (refine wpList_store_mid rfl 27 (.tmp 6) (.tmp 64) rfl ((w.heap.size+1)) 0 #[.string ⟨mm.toArray⟩,.int .i64 mq,.int .i64 mx,.slice (some ⟨gS,0,none⟩) m2 m3,.slice n1 n2 n3,.slice p1 p2 p3,.slice q1 q2 q3] rfl rfl hth.out tZ2 tZ5 ?_;rw [← hW4];clear hW4)
     exact bodyPost_ret (v:=.tuple #[.agg #[.string ⟨mm.toArray⟩,.int .i64 mq,.int .i64 mx,.slice (some ⟨gS,0,none⟩) m2 m3,.slice n1 n2 n3,.slice p1 p2 p3,.slice q1 q2 q3],.int .i64 0]) (results_cell_tmp rfl rfl HL.out) rfl (tenPost_ok HX.out HBW.out (TenR.putS ⟨mm,mq,mx,⟨some ⟨gS,0,none⟩,m2,m3,ml⟩,⟨n1,n2,n3,nl⟩,⟨p1,p2,p3,pl⟩,⟨q1,q2,q3,ql⟩⟩ k ((ml[k]'HKM.out).withSn ⟨v1,xk.snaps.n-1,v3,xk.snaps.l.take i++xk.snaps.l.drop (i+1)⟩)) HOO.out HYC.out)
end Go.Proofs.YtiojfffgiejibaaGreatDoor
namespace Go.Proofs.YtiojfffgiejibaaGreatDoor
open Go.RowKit
def heldB (l:List SetR) (p n:BS):Bool:=match l.find? (fun s=>s.path == p) with
 | none=>false
 | some s=>match s.snaps.l.find? (fun x=>x.nm == n) with
  | none=>false
  | some x=>decide (0<x.tags.n)
set_option maxRecDepth 100000 in
set_option maxHeartbeats 4000000 in
theorem held_any (t:TenR) (p n:BS) (w:World) (B:Nat) (hB:B≤w.heap.size) (hr:t.rd w B) (hz:t.sz) :
  Calls Tryz.prog 38 #[t.val,.string ⟨p.toArray⟩,.string ⟨n.toArray⟩] w fun e w'=>e=.returned (.bool (heldB t.sets.l p n))∧Below w.heap.size w w':=by
 obtain ⟨nm,qu,nx,⟨s1,sn,s3,sl⟩,⟨g1,gn,g3,gl⟩,⟨t1,tn,t3,tl⟩,⟨l1,ln,l3,ll⟩⟩:=t
 show Calls Tryz.prog 38 #[.agg #[.string ⟨nm.toArray⟩,.int .i64 qu,.int .i64 nx,.slice s1 sn s3,.slice g1 gn g3,.slice t1 tn t3,.slice l1 ln l3],.string ⟨p.toArray⟩,.string ⟨n.toArray⟩] w fun e w'=>e=.returned (.bool (heldB sl p n))∧Below w.heap.size w w'
 have hb1:=(Below.refl w.heap.size w).alloc (Nat.le_refl _) (.cells #[.string ⟨nm.toArray⟩,.int .i64 qu,.int .i64 nx,.slice s1 sn s3,.slice g1 gn g3,.slice t1 tn t3,.slice l1 ln l3] 27)
 have kT:=Blk.new w 27 #[.string ⟨nm.toArray⟩,.int .i64 qu,.int .i64 nx,.slice s1 sn s3,.slice g1 gn g3,.slice t1 tn t3,.slice l1 ln l3]
 obtain ⟨W1,hW1⟩:∃ W,W=w.alloc (.cells #[.string ⟨nm.toArray⟩,.int .i64 qu,.int .i64 nx,.slice s1 sn s3,.slice g1 gn g3,.slice t1 tn t3,.slice l1 ln l3] 27):=⟨_,rfl⟩
 have hsz1:W1.heap.size=w.heap.size+1:=tZ35
 rw [← hW1] at hb1 kT
 have hT:=Lib.hid (fun (W':World) (hB':Below W1.heap.size W1 W')=>(⟨(kT.below hB' tZ1).cell 0,(kT.below hB' tZ1).cell 1,(kT.below hB' tZ1).cell 2,(kT.below hB' tZ1).cell 3,(kT.below hB' tZ1).cell 4,(kT.below hB' tZ1).cell 5,(kT.below hB' tZ1).cell 6⟩:W'.cell? ⟨w.heap.size,0,none⟩=some (.string ⟨nm.toArray⟩)∧W'.cell? ⟨w.heap.size,1,none⟩=some (.int .i64 qu)∧W'.cell? ⟨w.heap.size,2,none⟩=some (.int .i64 nx)∧W'.cell? ⟨w.heap.size,3,none⟩=some (.slice s1 sn s3)∧W'.cell? ⟨w.heap.size,4,none⟩=some (.slice g1 gn g3)∧W'.cell? ⟨w.heap.size,5,none⟩=some (.slice t1 tn t3)∧W'.cell? ⟨w.heap.size,6,none⟩=some (.slice l1 ln l3)))
 have hrw:Hid (∀ W,Below W1.heap.size W1 W→TenR.rd W B ⟨nm,qu,nx,⟨s1,sn,s3,sl⟩,⟨g1,gn,g3,gl⟩,⟨t1,tn,t3,tl⟩,⟨l1,ln,l3,ll⟩⟩∧w.heap.size<W.heap.size):=by
  show ∀ W,_→_
  intro W h
  have h1:=hb1.trans (h.mono tZ1)
  exact ⟨TenR.rd.below hr (h1.mono hB),by have:=h.size;omega⟩
 have HZ:=Lib.hid hz
 have HSN:=Lib.hid (show sn=sl.length from hr.sets.1)
 have hc:Calls Tryz.prog 42 #[.agg #[.string ⟨nm.toArray⟩,.int .i64 qu,.int .i64 nx,.slice s1 sn s3,.slice g1 gn g3,.slice t1 tn t3,.slice l1 ln l3],.string ⟨p.toArray⟩] W1 fun e w'=>e=.returned (.int .i64 (findS sl p))∧Below W1.heap.size W1 w' :=
  find_any _ _ _ _ _ _ sl sn HSN.out s1 s3 p W1 B (hrw.out W1 (Below.refl _ _)).1.sets.2.2 tZ1 tZ29
 have HB1:=Lib.hid hb1
 have HSZ1:=Lib.hid hsz1
 obtain ⟨c0,c1,c2,c3,c4,c5,c6⟩:=hT.out _ (Below.refl _ _)
 clear hb1 kT hr hz hsz1
 go_enter Tryz.func38,Tryz.ntmps38
 go_wp2_with fail
 rw [← hW1]
 clear hW1
 refine hc.mono ?_
 clear hc c0 c1 c2 c3 c4 c5 c6
 rintro e w5 ⟨rfl,hb5⟩
 have HW5:=Lib.hid hb5
 clear hb5
 rcases firstI_cases (fun s:SetR=>s.path == p) sl with ⟨h1,h2⟩ | ⟨k,hkl,h1,h2⟩
 ·have h1:findS sl p=-1:=h1
  have HH:Hid (heldB sl p n=false):=tZ160
  rw [h1]
  clear h1 h2
  go_wp2_with fail
  go_ret
  exact ⟨by rw [HH.out];rfl,HB1.out.trans (HW5.out.mono tZ10)⟩
 ·have h1:findS sl p=(k:Int):=h1
  rw [h1]
  have hk0:¬ (k:Int)<0:=tZ1
  have hk00:(0:Int)≤(k:Int):=tZ1
  have hks:k<sn:=tZ55
  have hki:(k:Int)<(sn:Int):=tZ1
  obtain ⟨ad,hsa,-,q0,q1,q2,q3,q4⟩:=set_at (hrw.out w5 HW5.out).1.sets.2.2 HSN.out hks
  simp only at hsa
  subst hsa
  have HX:Hid (∀ W,Below W1.heap.size W1 W→(sl[k]'hkl).rd W B∧W.cell? ⟨(ad.add (k*5)).block,(ad.add (k*5)).off+3,none⟩=some (.slice (sl[k]'hkl).snaps.A (sl[k]'hkl).snaps.n (sl[k]'hkl).snaps.c)):=by
   show ∀ W,_→_
   intro W hW
   obtain ⟨ad',e',-,-,-,-,q',-⟩:=set_at (hrw.out W hW).1.sets.2.2 HSN.out hks
   injection e' with e'
   subst e'
   exact ⟨(hrw.out W hW).1.eachS _ (List.getElem_mem hkl),q'⟩
  have hzx:=HZ.out.eachS _ (List.getElem_mem hkl)
  have HH:Hid (heldB sl p n=match (sl[k]'hkl).snaps.l.find? (fun x=>x.nm == n) with | none=>false | some x=>decide (0<x.tags.n)):=tZ160
  obtain ⟨x,hxx⟩:∃ x,x=sl[k]'hkl:=⟨_,rfl⟩
  rw [← hxx] at q0 q1 q2 q3 q4 HX hzx HH
  clear hxx h1 h2
  have hx:=(HX.out w5 HW5.out).1
  have hc:=snapAt_any (.string ⟨x.path.toArray⟩) (.string ⟨x.org.toArray⟩) (.slice x.body.A x.body.n x.body.c) (.slice x.own.A x.own.n x.own.c) x.snaps.l x.snaps.n hx.snaps.1 x.snaps.A x.snaps.c n w5 B hx.snaps.2.2 (by have:=(hrw.out w5 HW5.out).2;omega) tZ104
  obtain ⟨pa,og,⟨bA,bnn,bc,bl⟩,⟨zA,zn,zc,zl⟩,⟨oA,on,oc,ol⟩⟩:=x
  simp only at q0 q1 q2 q3 q4 hc HH HX
  have HZN:Hid (zn=zl.length):=hx.snaps.1
  obtain ⟨c0,c1,c2,c3,c4,c5,c6⟩:=hT.out _ HW5.out
  clear hx hzx
  go_wp2_with fail
  refine hc.mono ?_
  clear hc c0 c1 c2 c3 c4 c5 c6 q0 q1 q2 q3 q4
  rintro e w6 ⟨rfl,hb6⟩
  have HW6:=Lib.hid (HW5.out.trans (hb6.mono HW5.out.size))
  clear hb6 HW5
  rcases firstI_cases (fun x:SnapR=>x.nm == n) zl with ⟨h1,h2⟩ | ⟨m,hml,h1,h2⟩
  ·have h1:findN zl n=-1:=h1
   have HH2:Hid (heldB sl p n=false):=by show _=_;rw [HH.out,h2]
   rw [h1]
   clear h1 h2 HH
   go_wp2_with fail
   go_ret
   exact ⟨by rw [HH2.out];rfl,HB1.out.trans (HW6.out.mono tZ10)⟩
  ·have h1:findN zl n=(m:Int):=h1
   rw [h1]
   have HH2:Hid (heldB sl p n=decide (0<(zl[m]'hml).tags.n)):=by show _=_;rw [HH.out,h2]
   have hm0:(0:Int)≤(m:Int):=tZ1
   have hmz:m<zn:=tZ73
   have hmi:(m:Int)<(zn:Int):=tZ1
   obtain ⟨hx6,q3⟩:=HX.out w6 HW6.out
   obtain ⟨ad2,hsa,-,-,-,-,r3,-⟩:=snap_at hx6.snaps.2.2 HZN.out hmz
   simp only at hsa
   subst hsa
   obtain ⟨tg,htg⟩:∃ v,v=(zl[m]'hml).tags:=⟨_,rfl⟩
   simp only at r3
   rw [← htg] at r3 HH2
   obtain ⟨tA,tgn,tc,tgl⟩:=tg
   simp only at r3 HH2
   obtain ⟨c0,c1,c2,c3,c4,c5,c6⟩:=hT.out _ HW6.out
   clear h1 h2 HH htg hx6 HX
   by_cases htg0:0<tgn
   ·have ht:(0:Int)<(tgn:Int):=tZ1
    have HD:Hid (heldB sl p n=true):=by show _=_;rw [HH2.out];exact decide_eq_true htg0
    exact mZ208
   ·have ht:¬ (0:Int)<(tgn:Int):=tZ1
    have HD:Hid (heldB sl p n=false):=by show _=_;rw [HH2.out];exact decide_eq_false htg0
    exact mZ208
end Go.Proofs.YtiojfffgiejibaaGreatDoor
namespace Go.Proofs.YtiojfffgiejibaaGreatDoor
open Go.RowKit
def TenC.heldC (c:TenC) (p n:BS):Bool:=match c.sets.find? (fun s=>s.path == p) with
 | none=>false
 | some s=>match s.snaps.find? (fun x=>x.nm == n) with
  | none=>false
  | some x=>decide (0<x.tags.length)
theorem held_con (t:TenR) (w:World) (B:Nat) (hr:t.rd w B) (p n:BS):heldB t.sets.l p n=t.con.heldC p n:=by
 unfold heldB TenC.heldC
 rw [show t.con.sets=t.sets.l.map SetR.con from rfl,find_map]
 have e:(t.sets.l.find? fun x:SetR=>(SetR.con x).path == p)=t.sets.l.find? fun x=>x.path == p:=rfl
 rw [e]
 cases h:t.sets.l.find? (fun x=>x.path == p) with
 | none=>rfl
 | some s =>
  have hs:=hr.eachS s (List.mem_of_find?_eq_some h)
  simp only [Option.map_some]
  rw [show s.con.snaps=s.snaps.l.map SnapR.con from rfl,find_map]
  have e:(s.snaps.l.find? fun x:SnapR=>(SnapR.con x).nm == n)=s.snaps.l.find? fun x=>x.nm == n:=rfl
  rw [e]
  cases h2:s.snaps.l.find? (fun x=>x.nm == n) with
  | none=>rfl
  | some x =>
   simp only [Option.map_some]
   rw [(hs.each x (List.mem_of_find?_eq_some h2)).tags.1]
   rfl
end Go.Proofs.YtiojfffgiejibaaGreatDoor
