/-
  snaps.Rollback: a set's content is a snapshot's again.
-/
import Derived.WalkKit
import Derived.WalkSpells
import Derived.Below
import Derived.Laws.OwnMore
import Derived.Deep.AppendLies
import Derived.Deep.Draws
import Derived.Laws.Rows
import Derived.Maps.AppendAt
import Derived.RegionTactic
import Derived.OwnWalk
import Derived.Deep.QuietTactic
import Derived.BigQuiet
import Derived.Lib.Hide
import Derived.Laws.CopyOwn
import Derived.IntWalk
import Derived.Test.YtcgclpcocdappaaGreatDoorRows
import Derived.Handy
import Derived.Lib.AppendZeros
import Derived.ProofKit
import Derived.Deep.Quiet
import Derived.OpenShut
import Derived.ShutString
import Derived.ChangeOld
import Derived.Carry
import Derived.SizedLaws
import Derived.JoinedCond
import Derived.Deep.CondSized
import Derived.Deep.Slices
import Derived.Deep.Fields
import Derived.Lib.SmallJoins
import Derived.Orders
import Derived.Lib.SplitLaws
import Derived.Lib.LastIndexByte
import Derived.Lib.Strings
import Derived.Deep.RegionLaw
import Derived.Sort.Walk0
import Derived.Sort.KeysCollected
import Derived.Shelf.SlIter.Nil
import Derived.Shelf.SortM.Plain
import Derived.Shelf.SortM.SortNone
import Derived.Maps.OwnSet
import Derived.Maps.StringElems
import Derived.Deep.MidRow
import Derived.Shelf.Strings.Search1
import Derived.Shelf.Strings.Search2
import Derived.Shelf.Strings.Search3
import Derived.Shelf.Strings.Cut
import Derived.Shelf.Strings.Count
import Derived.Shelf.LaysM
import Derived.Shelf.Strings.Shaped
import Derived.Shelf.Strings.LastIndex
import Derived.Shelf.Strings.Split
import Derived.Shelf.Strings.SplitShaped
import Derived.Shelf.Unicode.Decode
import Derived.Shelf.Strings.RuneCount
import Derived.Shelf.Strings.Explode
import Derived.Shelf.Unicode.DecodeSlow
import Derived.Test.YtcgclpcocdappaaGreatDoorProg
import Derived.Lib.Overlaps
import Derived.Lib.AppendZerosOnto
import Derived.Laws.BytesString
import Derived.Laws.IdiomStrings
import Derived.Lib.ConvBytes
import Derived.Deep.DeepCutAuto
import Derived.Great.BuildSlice
import Derived.Test.YtcgclpcocdappaaGreatDoorJ0
import Derived.Test.YtcgclpcocdappaaGreatDoorJbkv1
import Derived.Test.YtcgclpcocdappaaGreatDoorJbkv3
import Derived.Test.YtcgclpcocdappaaGreatDoorJbkv4
import Derived.Test.YtcgclpcocdappaaGreatDoorJbkv5
import Derived.Test.YtcgclpcocdappaaGreatDoorJbkv7
import Derived.Test.YtcgclpcocdappaaGreatDoorJbkv8
import Derived.Test.YtcgclpcocdappaaGreatDoorJbkv10
import Derived.Test.YtcgclpcocdappaaGreatDoorJbkv14
import Derived.Test.YtcgclpcocdappaaGreatDoorJbkv15
import Derived.Test.YtcgclpcocdappaaGreatDoorJbkv16
import Derived.Test.YtcgclpcocdappaaGreatDoorJbkv17
import Derived.Test.YtcgclpcocdappaaGreatDoorJbkv18
import Derived.Test.YtcgclpcocdappaaGreatDoorJbkv19
import Derived.Test.YtcgclpcocdappaaGreatDoorJbkv20
import Derived.Test.YtcgclpcocdappaaGreatDoorJbkv21
import Derived.Test.YtcgclpcocdappaaGreatDoorJbkv22
import Derived.Test.YtcgclpcocdappaaGreatDoorJbkv27
import Derived.Test.YtcgclpcocdappaaGreatDoorJbv1
import Derived.Test.YtcgclpcocdappaaGreatDoorJb5
namespace Go.Proofs.YtcgclpcocdappaaGreatDoor
open Go.RowKit
def SetR.backR (x:SetR) (b:FS BlkT) (o:FS (BS×BS)):SetR:=⟨x.path,x.org,b,x.snaps,o⟩
theorem backR_con (x:SetR) (z:SnapR) (b:FS BlkT) (o:FS (BS×BS)) (h1:b.l=z.body.l) (h2:o.l=z.own.l):(x.backR b o).con=x.con.back z.con:=by
 unfold SetR.backR SetR.con SetC.back
 rw [h1,h2]
 rfl
theorem putS_putS (c:TenC) (k:Nat) (a b:SetC):(c.putS k a).putS k b=c.putS k b:=by
 unfold TenC.putS
 simp only [List.set_set]
set_option maxRecDepth 100000 in
set_option maxHeartbeats 8000000 in
theorem rollback_any (t:TenR) (p n:BS)  (w:World) (B:Nat) (hB:B≤w.heap.size) (hr:t.rd w B) (hz:t.sz) (hp:p.length≤3000000000) (hmx:HasMax w) :
  Calls Tryz.prog 12 #[t.val,.string ⟨p.toArray⟩,.string ⟨n.toArray⟩] w (TenPost w (t.con.rollback p n)):=by
 obtain ⟨V,hV⟩:∃ V,V=t.con.rollback p n:=⟨_,rfl⟩
 rw [← hV]
 obtain ⟨R,hR⟩:∃ R,R=t.con.foundS p n false:=⟨_,rfl⟩
 have hway:=found_way t t.sets.l rfl p n false R hR
 have hcz:=TenC.sz_of hr hz
 obtain ⟨nm,qu,nx,⟨s1,sn,s3,sl⟩,⟨gA,gN,gC,gL⟩,⟨t1,tn,t3,tl⟩,⟨l1,ln,l3,ll⟩⟩:=t
 show Calls Tryz.prog 12 #[.agg #[.string ⟨nm.toArray⟩,.int .i64 qu,.int .i64 nx,.slice s1 sn s3,.slice gA gN gC,.slice t1 tn t3,.slice l1 ln l3],.string ⟨p.toArray⟩,.string ⟨n.toArray⟩] w _
 have hb:=(((Below.refl w.heap.size w).alloc (Nat.le_refl _) (.cells #[.string ⟨nm.toArray⟩,.int .i64 qu,.int .i64 nx,.slice s1 sn s3,.slice gA gN gC,.slice t1 tn t3,.slice l1 ln l3] 27)).alloc (by simp) (.cells #[.string ⟨#[]⟩,.int .i64 0,.int .i64 0,.slice none 0 0,.slice none 0 0,.slice none 0 0,.slice none 0 0] 27))
 have kt:=Blk.new w 27 #[.string ⟨nm.toArray⟩,.int .i64 qu,.int .i64 nx,.slice s1 sn s3,.slice gA gN gC,.slice t1 tn t3,.slice l1 ln l3]
 replace kt:=kt.alloc (.cells #[.string ⟨#[]⟩,.int .i64 0,.int .i64 0,.slice none 0 0,.slice none 0 0,.slice none 0 0,.slice none 0 0] 27)
 have kz:=Blk.new (w.alloc (.cells #[.string ⟨nm.toArray⟩,.int .i64 qu,.int .i64 nx,.slice s1 sn s3,.slice gA gN gC,.slice t1 tn t3,.slice l1 ln l3] 27)) 27 #[.string ⟨#[]⟩,.int .i64 0,.int .i64 0,.slice none 0 0,.slice none 0 0,.slice none 0 0,.slice none 0 0]
 rw [show (w.alloc (.cells #[.string ⟨nm.toArray⟩,.int .i64 qu,.int .i64 nx,.slice s1 sn s3,.slice gA gN gC,.slice t1 tn t3,.slice l1 ln l3] 27)).heap.size=w.heap.size+1 by simp] at kz
 have hsz:((w.alloc (.cells #[.string ⟨nm.toArray⟩,.int .i64 qu,.int .i64 nx,.slice s1 sn s3,.slice gA gN gC,.slice t1 tn t3,.slice l1 ln l3] 27)).alloc (.cells #[.string ⟨#[]⟩,.int .i64 0,.int .i64 0,.slice none 0 0,.slice none 0 0,.slice none 0 0,.slice none 0 0] 27)).heap.size=w.heap.size+2:=by simp
 obtain ⟨W1,hW1⟩:∃ W,W=((w.alloc (.cells #[.string ⟨nm.toArray⟩,.int .i64 qu,.int .i64 nx,.slice s1 sn s3,.slice gA gN gC,.slice t1 tn t3,.slice l1 ln l3] 27)).alloc (.cells #[.string ⟨#[]⟩,.int .i64 0,.int .i64 0,.slice none 0 0,.slice none 0 0,.slice none 0 0,.slice none 0 0] 27)):=⟨_,rfl⟩
 rw [← hW1] at hb hsz kt kz
 have hKt:Hid (∀ W,Below W1.heap.size W1 W→Blk W w.heap.size 27 #[.string ⟨nm.toArray⟩,.int .i64 qu,.int .i64 nx,.slice s1 sn s3,.slice gA gN gC,.slice t1 tn t3,.slice l1 ln l3]):=fun W h=>kt.below h (by omega)
 have hKz:Hid (∀ W,Below W1.heap.size W1 W→Blk W (w.heap.size+1) 27 #[.string ⟨#[]⟩,.int .i64 0,.int .i64 0,.slice none 0 0,.slice none 0 0,.slice none 0 0,.slice none 0 0]):=fun W h=>kz.below h (by omega)
 have hBW:Hid (∀ W,Below W1.heap.size W1 W→Below w.heap.size w W):=fun W h=>hb.trans (h.mono (by omega))
 have hSZ:Hid (∀ W,Below W1.heap.size W1 W→w.heap.size+2≤W.heap.size):=fun W h=>by have:=h.size;omega
 have hW0:Hid (Below W1.heap.size W1 W1):=Below.refl _ _
 have hrw:Hid (∀ W,Below W1.heap.size W1 W→TenR.rd W B ⟨nm,qu,nx,⟨s1,sn,s3,sl⟩,⟨gA,gN,gC,gL⟩,⟨t1,tn,t3,tl⟩,⟨l1,ln,l3,ll⟩⟩∧B≤W.heap.size∧HasMax W):=fun W h =>
  ⟨TenR.rd.below hr ((hBW.out W h).mono hB),by have:=hSZ.out W h;omega,hmx.below (hBW.out W h)⟩
 obtain ⟨C,hC⟩:∃ C,C=TenR.con ⟨nm,qu,nx,⟨s1,sn,s3,sl⟩,⟨gA,gN,gC,gL⟩,⟨t1,tn,t3,tl⟩,⟨l1,ln,l3,ll⟩⟩:=⟨_,rfl⟩
 have hHC:=Lib.hid hC
 rw [← hC] at hR hway hcz hV
 simp only at hway
 have HR:=Lib.hid hR
 have HV:=Lib.hid hV
 have HCZ:=Lib.hid hcz
 have HZ:=Lib.hid hz
 have HP:=Lib.hid hp
 obtain ⟨a0,k0,e0⟩:=R
 have hFO:Hid (∀ W,Below W1.heap.size W1 W→Calls Tryz.prog 55 #[.agg #[.string ⟨nm.toArray⟩,.int .i64 qu,.int .i64 nx,.slice s1 sn s3,.slice gA gN gC,.slice t1 tn t3,.slice l1 ln l3],.string ⟨p.toArray⟩,.string ⟨n.toArray⟩,.slice none 0 0] W fun e w'=>e=.returned (.tuple #[.int .i64 a0,.int .i64 k0,.int .i64 e0])∧Below W.heap.size W w'):=fun W h=>by
  have h1:=found_any ⟨nm,qu,nx,⟨s1,sn,s3,sl⟩,⟨gA,gN,gC,gL⟩,⟨t1,tn,t3,tl⟩,⟨l1,ln,l3,ll⟩⟩ p n [] none 0 0 W B (hrw.out W h).2.1 (hrw.out W h).1 hz (by omega) (hrw.out W h).2.2 rfl (by decide) Reads.none_
  rw [foundS_con,← hC,show ([]:List Bool).contains false=false from rfl,← hR] at h1
  exact h1
 have hCP:Hid (∀ W,Below W1.heap.size W1 W→Calls Tryz.prog 44 #[.agg #[.string ⟨nm.toArray⟩,.int .i64 qu,.int .i64 nx,.slice s1 sn s3,.slice gA gN gC,.slice t1 tn t3,.slice l1 ln l3]] W fun e w'=>∃ y:TenR,e=.returned y.val∧TenO w' W.heap.size y∧TenR.eqv ⟨nm,qu,nx,⟨s1,sn,s3,sl⟩,⟨gA,gN,gC,gL⟩,⟨t1,tn,t3,tl⟩,⟨l1,ln,l3,ll⟩⟩ y∧y.sets.l.Pairwise ApartS∧Below W.heap.size W w'):=fun W h =>
  tcopy2_any ⟨nm,qu,nx,⟨s1,sn,s3,sl⟩,⟨gA,gN,gC,gL⟩,⟨t1,tn,t3,tl⟩,⟨l1,ln,l3,ll⟩⟩ W B (hrw.out W h).2.1 (hrw.out W h).1 hz
 have hSN:=Lib.hid (show sn=sl.length from hr.sets.1)
 have hSE:Hid (∀ (y:TenR) (c:TenC),y.con=c→c.sz→∀ W b,TenO W b y→HasMax W→Calls Tryz.prog 47 #[y.val] W (TenPost W c.settle)):=fun y c hy hc W b ho h=>by
  rw [← hy]
  exact settleT_any y W W.heap.size (Nat.le_refl _) ho.rd (TenR.sz_of ho.rd (by rw [hy];exact hc)) h
 clear hb hsz kt kz hr hp hmx hV hC hz hcz hR
 go_enter Tryz.func12,Tryz.ntmps12
 have hc:=hFO.out  W1 hW0.out
 have kk:=hKt.out W1 hW0.out
 obtain ⟨c0,c1,c2,c3,c4,c5,c6⟩:=(⟨kk.cell 0,kk.cell 1,kk.cell 2,kk.cell 3,kk.cell 4,kk.cell 5,kk.cell 6⟩:_∧_∧_∧_∧_∧_∧_)
 simp only [zF,zD,zE] at c0 c1 c2 c3 c4 c5 c6
 clear kk
 go_wp2_with fail
 rw [← hW1]
 clear hW1
 refine hc.mono ?_
 clear hc c0 c1 c2 c3 c4 c5 c6
 rintro e w2 ⟨rfl,hb⟩
 have HW2:=Lib.hid (hW0.out.trans (hb.mono hW0.out.size))
 clear hb
 rcases hway with ⟨a,kk,E,hE,hRe⟩ | ⟨k,i,hkl,hil,hRe,hat,hgk,hgi,hnm⟩
 ·obtain ⟨rfl,rfl,rfl⟩:a0=a∧k0=kk∧e0=E:=by injection hRe with h1 h2;injection h2 with h2 h3;exact ⟨h1,h2,h3⟩
  clear hRe
  have hne:e0≠0:=by rcases hE with h | h | h <;> rw [h] <;> decide
  have hneb:(e0 == 0)=false:=by simpa using hne
  have HX:Hid (V=(e0,C)):=by show _=_;rw [HV.out];exact rollback_bad HR.out.symm hne
  have HNE:=Lib.hid hne
  clear HV HR hE hne
  have KZ:=Lib.hid (hKz.out w2 HW2.out)
  have HB:=Lib.hid (hBW.out w2 HW2.out)
  obtain ⟨WR,hW4,hth,HL,HBW,hgw⟩:=res7 (g:=(w.heap.size+1)) [.string ⟨#[]⟩,.int .i64 0,.int .i64 0,.slice none 0 0,.slice none 0 0,.slice none 0 0,.slice none 0 0] KZ.out HB.out (by omega)
  clear hgw
  go_wp2_with (refine wpList_store_mid rfl 27 (.tmp 6) (.tmp 24) rfl ((w.heap.size+1)) 0 #[.string ⟨#[]⟩,.int .i64 0,.int .i64 0,.slice none 0 0,.slice none 0 0,.slice none 0 0,.slice none 0 0] rfl rfl hth.out (by kernel_rfl) (by simp [Value.oneCell']) ?_;rw [← hW4];clear hW4)
  exact bodyPost_ret (v:=.tuple #[.agg #[.string ⟨#[]⟩,.int .i64 0,.int .i64 0,.slice none 0 0,.slice none 0 0,.slice none 0 0,.slice none 0 0],.int .i64 e0]) (results_cell_tmp rfl rfl HL.out) rfl (tenPost_err HX.out HNE.out HBW.out)
 ·obtain ⟨rfl,rfl,rfl⟩:a0=(k:Int)∧k0=(i:Int)∧e0=0:=by injection hRe with h1 h2;injection h2 with h2 h3;exact ⟨h1,h2,h3⟩
  clear hRe
  have HX0:Hid (V=if (i:Int)≠((sl[k]'hkl).con.snaps.length:Int)-1 then (44,C) else (C.putS k ((sl[k]'hkl).con.back (sl[k]'hkl).snaps.l[i].con)).settle):=by show _=_;rw [HV.out];exact rollback_at HR.out.symm hgk hgi
  have hx16:(sl[k]'hkl).con.snaps.length≤16:=by
   have h1:=hat.snaps
   have h2:(C.sets[k]'hat.lt)=(sl[k]'hkl).con:=by have h:=List.getElem?_eq_getElem hat.lt;rw [hgk] at h;exact (Option.some.inj h).symm
   rw [h2] at h1
   exact h1.len
  clear HV HR hat
  have hrk:=(hrw.out w2 HW2.out).1
  have hks:k<sn:=by have:=hSN.out;omega
  have hki:(k:Int)<(sn:Int):=by omega
  have hk0:(0:Int)≤(k:Int):=by omega
  obtain ⟨ad,hsa,-,fa0,fa1,fa2,fa3,fa4⟩:=set_at hrk.sets.2.2 hSN.out hks
  simp only at hsa
  have hx:=hrk.eachS _ (List.getElem_mem hkl)
  have hzx:=HZ.out.eachS _ (List.getElem_mem hkl)
  obtain ⟨x,hxx⟩:∃ x,x=sl[k]'hkl:=⟨_,rfl⟩
  simp only [← hxx] at fa0 fa1 fa2 fa3 fa4 hx hzx hgk hil hgi hnm
  have hin:i<x.snaps.n:=by rw [hx.snaps.1];exact hil
  have hii:(i:Int)<(x.snaps.n:Int):=by omega
  have hi0:(0:Int)≤(i:Int):=by omega
  obtain ⟨az,hza,-,fb0,fb1,fb2,fb3,fb4⟩:=snap_at hx.snaps.2.2 hx.snaps.1 hin
  obtain ⟨zz,hzz⟩:∃ z,z=x.snaps.l[i]'hil:=⟨_,rfl⟩
  have hxi:=hx.each _ (List.getElem_mem hil)
  have hzi:=hzx.each _ (List.getElem_mem hil)
  simp only [← hzz] at fb0 fb1 fb2 fb3 fb4 hgi hnm hxi hzi
  have hHX0:V=if (i:Int)≠(x.con.snaps.length:Int)-1 then (44,C) else (C.putS k (x.con.back (x.snaps.l[i]'hil).con)).settle:=by have h:=HX0.out;simpa only [hxx] using h
  have hx16:x.con.snaps.length≤16:=by simpa only [hxx] using hx16
  have hxl:x.con.snaps.length=x.snaps.n:=by rw [hx.snaps.1];exact List.length_map ..
  rw [← hzz,hxl] at hHX0
  rw [hxl] at hx16
  have HXa:=Lib.hid hHX0
  obtain ⟨nq,hnq⟩:∃ q:Int,q=(x.snaps.n:Int)-1:=⟨_,rfl⟩
  have hwk:IntKind.i64.wrap ((x.snaps.n:Int)-1)=nq:=by rw [IntKind.wrap_i64];omega
  have HNQ:=Lib.hid hnq
  have HXC0:=Lib.hid (show x.con.sz from SetC.sz_of hx hzx)
  have HZC0:=Lib.hid (show zz.con.sz from SnapC.sz_of hxi hzi)
  have HGK:=Lib.hid hgk
  have HXN:=Lib.hid hx.snaps.1
  have HIL:=Lib.hid hil
  have HZC:Hid (x.con.snaps[i]?=some zz.con):=hgi
  subst hsa
  clear hHX0 HX0 hxx hzz hx hzx hxi hzi hrk hin hgi hgk hnm hza fb0 fb1 fb2 fb3 fb4 fa0 fa1 fa2 fa4 hxl hnq hx16
  by_cases hik:(i:Int)=nq
  rotate_left
  ·have hikb:((i:Int) == nq)=false:=by simpa using hik
   have HX:=Lib.hid (HXa.out.trans (if_pos (by rw [← HNQ.out];exact hik)))
   clear HXa HGK HZC HXN hik
   have kk:=hKt.out w2 HW2.out
   obtain ⟨c0,c1,c2,c3,c4,c5,c6⟩:=(⟨kk.cell 0,kk.cell 1,kk.cell 2,kk.cell 3,kk.cell 4,kk.cell 5,kk.cell 6⟩:_∧_∧_∧_∧_∧_∧_)
   simp only [zF,zD,zE] at c0 c1 c2 c3 c4 c5 c6
   clear kk
   have KZ:=Lib.hid (hKz.out w2 HW2.out)
   have HB:=Lib.hid (hBW.out w2 HW2.out)
   clear HIL HNQ HXC0 HZC0
   obtain ⟨WR,hW4,hth,HL,HBW,hgw⟩:=res7 (g:=(w.heap.size+1)) [.string ⟨#[]⟩,.int .i64 0,.int .i64 0,.slice none 0 0,.slice none 0 0,.slice none 0 0,.slice none 0 0] KZ.out HB.out (by omega)
   clear hgw
   go_wp2_with (refine wpList_store_mid rfl 27 (.tmp 6) (.tmp 37) rfl ((w.heap.size+1)) 0 #[.string ⟨#[]⟩,.int .i64 0,.int .i64 0,.slice none 0 0,.slice none 0 0,.slice none 0 0,.slice none 0 0] rfl rfl hth.out (by kernel_rfl) (by simp [Value.oneCell']) ?_;rw [← hW4];clear hW4)
   exact bodyPost_ret (v:=.tuple #[.agg #[.string ⟨#[]⟩,.int .i64 0,.int .i64 0,.slice none 0 0,.slice none 0 0,.slice none 0 0,.slice none 0 0],.int .i64 44]) (results_cell_tmp rfl rfl HL.out) rfl (tenPost_err HX.out (by decide) HBW.out)
  have hikb:((i:Int) == nq)=true:=by simpa using hik
  have HXb:=Lib.hid (HXa.out.trans (if_neg (by rw [← HNQ.out];exact fun h=>h hik)))
  clear HXa
  have hc:=hCP.out w2 HW2.out
  have kk:=hKt.out w2 HW2.out
  obtain ⟨c0,c1,c2,c3,c4,c5,c6⟩:=(⟨kk.cell 0,kk.cell 1,kk.cell 2,kk.cell 3,kk.cell 4,kk.cell 5,kk.cell 6⟩:_∧_∧_∧_∧_∧_∧_)
  simp only [zF,zD,zE] at c0 c1 c2 c3 c4 c5 c6
  clear kk
  clear hCP
  clear hik
  go_wp2_with fail
  refine hc.mono ?_
  clear hc c0 c1 c2 c3 c4 c5 c6
  rintro e w6 ⟨y,rfl,ho6,he6,hpw,hb6⟩
  have HW6:=Lib.hid (HW2.out.trans (hb6.mono HW2.out.size))
  have HCON:=Lib.hid ((TenR.eqv_iff _ _).1 he6)
  have hlen:y.sets.n=sn:=by
   have h1:=he6.lenS
   have h2:=ho6.sets.1
   have:=hSN.out
   simp only at h1
   omega
  obtain ⟨mm,mq,mx,⟨m1,m2,m3,ml⟩,⟨n1,n2,n3,nl⟩,⟨p1,p2,p3,pl⟩,⟨q1,q2,q3,ql⟩⟩:=y
  replace hlen:m2=sn:=hlen
  replace hpw:ml.Pairwise ApartS:=hpw
  have hms:m2=ml.length:=ho6.sets.1
  have hkm:k<m2:=by have:=hSN.out;omega
  have hkml:k<ml.length:=by omega
  obtain ⟨gS,csS,hA,hbg,hblk⟩:=ho6.sets.blk (by show 0<m2;omega)
  replace hA:m1=some ⟨gS,0,none⟩:=hA
  subst hA
  have hgS6:=hblk.lt
  simp only [TenR.val,TenR.cells,FS.val,strV]
  clear hikb hwk fa3
  have hszc:=hSZ.out w2 HW2.out
  have hszn:=hSZ.out w6 HW6.out
  have hb67:=(Below.refl w6.heap.size w6).alloc (Nat.le_refl _) (.cells #[.string ⟨mm.toArray⟩,.int .i64 mq,.int .i64 mx,.slice (some ⟨gS,0,none⟩) m2 m3,.slice n1 n2 n3,.slice p1 p2 p3,.slice q1 q2 q3] 27)
  have ho7:=ho6.below hb67
  have k7:=Blk.new w6 27 #[.string ⟨mm.toArray⟩,.int .i64 mq,.int .i64 mx,.slice (some ⟨gS,0,none⟩) m2 m3,.slice n1 n2 n3,.slice p1 p2 p3,.slice q1 q2 q3]
  have kz7:=(hKz.out w6 HW6.out).alloc (.cells #[.string ⟨mm.toArray⟩,.int .i64 mq,.int .i64 mx,.slice (some ⟨gS,0,none⟩) m2 m3,.slice n1 n2 n3,.slice p1 p2 p3,.slice q1 q2 q3] 27)
  have hbw7:=(hBW.out w6 HW6.out).alloc (by omega) (.cells #[.string ⟨mm.toArray⟩,.int .i64 mq,.int .i64 mx,.slice (some ⟨gS,0,none⟩) m2 m3,.slice n1 n2 n3,.slice p1 p2 p3,.slice q1 q2 q3] 27)
  have hw17:=HW6.out.alloc HW6.out.size (.cells #[.string ⟨mm.toArray⟩,.int .i64 mq,.int .i64 mx,.slice (some ⟨gS,0,none⟩) m2 m3,.slice n1 n2 n3,.slice p1 p2 p3,.slice q1 q2 q3] 27)
  have hsz7:(w6.alloc (.cells #[.string ⟨mm.toArray⟩,.int .i64 mq,.int .i64 mx,.slice (some ⟨gS,0,none⟩) m2 m3,.slice n1 n2 n3,.slice p1 p2 p3,.slice q1 q2 q3] 27)).heap.size=w6.heap.size+1:=by simp
  obtain ⟨g5,hg5⟩:∃ g,g=w6.heap.size:=⟨_,rfl⟩
  obtain ⟨w7,hW7⟩:∃ W,W=w6.alloc (.cells #[.string ⟨mm.toArray⟩,.int .i64 mq,.int .i64 mx,.slice (some ⟨gS,0,none⟩) m2 m3,.slice n1 n2 n3,.slice p1 p2 p3,.slice q1 q2 q3] 27):=⟨_,rfl⟩
  rw [← hW7] at ho7 k7 kz7 hbw7 hw17 hsz7
  rw [← hg5] at k7 hsz7
  have HW7:=Lib.hid hw17
  have K7:=Lib.hid k7
  have KZ7:=Lib.hid kz7
  have HB7:=Lib.hid hbw7
  have HO7:=Lib.hid ho7
  have HPW:=Lib.hid hpw
  have HKM:=Lib.hid hkml
  have HG5:=Lib.hid (show gS<g5∧w2.heap.size≤gS∧g5<w7.heap.size∧w2.heap.size≤w7.heap.size∧w.heap.size+2≤w2.heap.size by omega)
  have hyc:Hid (TenR.con ⟨mm,mq,mx,⟨some ⟨gS,0,none⟩,m2,m3,ml⟩,⟨n1,n2,n3,nl⟩,⟨p1,p2,p3,pl⟩,⟨q1,q2,q3,ql⟩⟩=C):=by show _=_;rw [hHC.out];exact HCON.out.symm
  have hkm2:(k:Int)<(m2:Int):=by omega
  obtain ⟨xk,hxk⟩:∃ x,x=ml[k]'hkml:=⟨_,rfl⟩
  have HXK:=Lib.hid hxk
  have hxcon:xk.con=x.con:=by
   have h:=congrArg (fun c:TenC=>c.sets[k]?) hyc.out
   simp only [TenR.con,List.getElem?_map,List.getElem?_eq_getElem hkml,Option.map_some] at h
   rw [← hxk] at h
   exact Option.some.inj (h.trans HGK.out)
  have HXC:=Lib.hid hxcon
  have hsx7:=ho7.eachS _ (List.getElem_mem hkml)
  simp only [← hxk] at hsx7
  have HSX:=Lib.hid hsx7
  obtain ⟨hbg7,hltS,hfzS,-,-,hcS2,hcS,hcS4⟩:=row_cells ho7.sets hkml rfl
  simp only [← hxk] at hcS hcS2 hcS4
  have hzcon:xk.con.snaps[i]?=some zz.con:=by rw [hxcon];exact HZC.out
  have hxs:xk.snaps.l.length=x.snaps.l.length:=by have h:=congrArg (fun c:SetC=>c.snaps.length) hxcon;simpa [SetR.con] using h
  have hxil:i<xk.snaps.l.length:=by have:=HIL.out;omega
  have hxn:i<xk.snaps.n:=by have:=hsx7.snaps.1;omega
  obtain ⟨gZ,csZ,hAZ,hbZ,hkZ⟩:=hsx7.snaps.blk (by omega)
  obtain ⟨zk,hzk⟩:∃ z,z=xk.snaps.l[i]'hxil:=⟨_,rfl⟩
  have hzkc:zk.con=zz.con:=by
   have h:xk.con.snaps[i]?=some zk.con:=by
    show (xk.snaps.l.map SnapR.con)[i]?=_
    rw [List.getElem?_map,List.getElem?_eq_getElem hxil,hzk]
    rfl
   rw [hzcon] at h
   exact (Option.some.inj h).symm
  rw [hAZ] at hcS
  obtain ⟨az,hza,-,-,-,fz2,-,fz4⟩:=snap_at hsx7.snaps.rd.2.2 hsx7.snaps.1 hxn
  rw [hAZ] at hza
  injection hza with hza
  subst hza
  rw [addr_add0] at fz2 fz4
  simp only [← hzk] at fz2 fz4
  have hsz7k:=hsx7.each zk (by rw [hzk];exact List.getElem_mem _)
  have hzks:=HZC0.out
  rw [← hzkc] at hzks
  have hbn:zk.body.n*24≤140737488355328:=by have h1:=hzks.body;have h2:=hsz7k.body.1;have h3:zk.con.body.length=zk.body.l.length:=rfl;omega
  have hon:zk.own.n*32≤140737488355328:=by have h1:=hzks.own;have h2:=hsz7k.own.1;have h3:zk.con.own.length=zk.own.l.length:=rfl;omega
  have hxin:(i:Int)<(xk.snaps.n:Int):=by omega
  have HZKC:=Lib.hid hzkc
  have HZK7:=Lib.hid hsz7k
  have HKZ:=Lib.hid hkZ
  have hgZ7:=hkZ.lt
  have hS:Hid (∀ W,Below w7.heap.size w7 W→W.cell? ⟨g5,3,none⟩=some (.slice (some ⟨gS,0,none⟩) m2 m3)∧W.cell? ⟨gS,k*5+3,none⟩=some (.slice (some ⟨gZ,0,none⟩) xk.snaps.n xk.snaps.c)∧W.cell? ⟨gZ,i*5+2,none⟩=some (.slice zk.body.A zk.body.n zk.body.c)∧W.cell? ⟨gZ,i*5+4,none⟩=some (.slice zk.own.A zk.own.n zk.own.c)∧W.cell? ⟨gS,k*5+2,none⟩=some (.slice xk.body.A xk.body.n xk.body.c)∧W.frozen? ⟨gS,k*5+2,none⟩=false):=fun W h =>
   ⟨(K7.out.below h K7.out.lt).cell 3,(h.cell (p:=⟨gS,k*5+3,none⟩) hltS).trans hcS,(h.cell (p:=⟨gZ,i*5+2,none⟩) hgZ7).trans fz2,(h.cell (p:=⟨gZ,i*5+4,none⟩) hgZ7).trans fz4,(h.cell (p:=⟨gS,k*5+2,none⟩) hltS).trans hcS2,(World.frozen?_of_block (a:=⟨gS,k*5+2,none⟩) (h.block gS hltS)).trans (hfzS _)⟩
  have hCB:Hid (∀ W,Below w7.heap.size w7 W→Calls Tryz.prog 45 #[.slice zk.body.A zk.body.n zk.body.c] W fun e w'=>∃ v,e=.returned v∧w'.ownsRow W.heap.size 75 2 v zk.body.n (cellsK encB zk.body.l)∧Below W.heap.size W w'):=fun W h =>
   cloneBl_any _ zk.body.n zk.body.A zk.body.c W W.heap.size (HZK7.out.below h).body.rd.2.2 (Nat.le_refl _) (cells_one encB_one _) hbn
  have hCQ:Hid (∀ W,Below w7.heap.size w7 W→Calls Tryz.prog 46 #[.slice zk.own.A zk.own.n zk.own.c] W fun e w'=>∃ v,e=.returned v∧w'.ownsRow W.heap.size 78 2 v zk.own.n (cellsK encP zk.own.l)∧Below W.heap.size W w'):=fun W h =>
   clonePr_any _ zk.own.n zk.own.A zk.own.c W W.heap.size (HZK7.out.below h).own.rd.2.2 (Nat.le_refl _) (cells_one encP_one _) hon
  have HSS:=Lib.hid (show W1.heap.size≤w2.heap.size∧w2.heap.size≤w7.heap.size from ⟨HW2.out.size,by have:=HG5.out;omega⟩)
  have HGS:=Lib.hid (show w2.heap.size≤gS∧gS<w7.heap.size from ⟨hbg7,hltS⟩)
  have d3:=k7.cell 3
  simp only [zF,zD,zE] at d3
  clear ho6 he6 hb6 hlen hms hbg hblk hgS6 hszc hszn hb67 ho7 k7 kz7 hbw7 hw17 hsz7 hxk hzk hxcon hsx7 hxs hAZ hbZ hkZ hzkc hzcon hcS hcS2 hcS4 hfzS hltS hbg7 hpw HCON hkm hks hii hsz7k hzks hbn hon fz2 fz4 hgZ7
  go_upto_region 8 with (refine wpList_store_new w6 rfl 27 (.tmp 11) (.tmp 39) rfl 27 [.string ⟨#[]⟩,.int .i64 0,.int .i64 0,.slice none 0 0,.slice none 0 0,.slice none 0 0,.slice none 0 0] [.string ⟨mm.toArray⟩,.int .i64 mq,.int .i64 mx,.slice (some ⟨gS,0,none⟩) m2 m3,.slice n1 n2 n3,.slice p1 p2 p3,.slice q1 q2 q3] rfl rfl rfl (by kernel_rfl) (by simp [Value.oneCell']) ?_;rw [show ([.string ⟨mm.toArray⟩,.int .i64 mq,.int .i64 mx,.slice (some ⟨gS,0,none⟩) m2 m3,.slice n1 n2 n3,.slice p1 p2 p3,.slice q1 q2 q3]:List Value).toArray=#[.string ⟨mm.toArray⟩,.int .i64 mq,.int .i64 mx,.slice (some ⟨gS,0,none⟩) m2 m3,.slice n1 n2 n3,.slice p1 p2 p3,.slice q1 q2 q3] from rfl,← hW7,← hg5];clear hW7 hg5)
  refine wp_region_two 22 25 [1,23,24] (by kernel_rfl) (by kernel_rfl) (by kernel_rfl) (by decide) (by decide) (by decide) [(fun v _=>v=.pointer (some ⟨gS,k*5,none⟩)),
    (fun v _=>v=.pointer (some ⟨gS,k*5,none⟩)),
    (fun v _=>v=.pointer (some ⟨gS,k*5,none⟩)),
    (fun v _=>v=.pointer (some ⟨gS,k*5,none⟩)),
    (fun v _=>v=.pointer (some ⟨gS,k*5+3,none⟩)),
    (fun v _=>v=.slice (some ⟨gZ,0,none⟩) xk.snaps.n xk.snaps.c),
    (fun v _=>v=.int .i64 (i:Int)),
    (fun v _=>v=.pointer (some ⟨gZ,i*5,none⟩)),
    (fun v _=>v=.pointer (some ⟨gZ,i*5+2,none⟩)),
    (fun v _=>v=.slice zk.body.A zk.body.n zk.body.c),
    (fun v W=>∃ A c,v=.slice A zk.body.n c∧W.ownsRow w2.heap.size 75 2 v zk.body.n (cellsK encB zk.body.l)),
    (fun v _=>v=.pointer (some ⟨gS,k*5,none⟩)),
    (fun v _=>v=.pointer (some ⟨gS,k*5,none⟩)),
    (fun v _=>v=.pointer (some ⟨gS,k*5+3,none⟩)),
    (fun v _=>v=.slice (some ⟨gZ,0,none⟩) xk.snaps.n xk.snaps.c),
    (fun v _=>v=.int .i64 (i:Int)),
    (fun v _=>v=.pointer (some ⟨gZ,i*5,none⟩)),
    (fun v _=>v=.pointer (some ⟨gZ,i*5+4,none⟩)),
    (fun v _=>v=.slice zk.own.A zk.own.n zk.own.c),
    (fun v W=>∃ A c,v=.slice A zk.own.n c∧W.ownsRow w2.heap.size 78 2 v zk.own.n (cellsK encP zk.own.l)),
    (fun v _=>v=.pointer (some ⟨gS,k*5,none⟩)),
    (fun v _=>v=.pointer (some ⟨gS,k*5+2,none⟩)),
    (fun _ _=>True),
    (fun v _=>v=.pointer (some ⟨gS,k*5,none⟩)),
    (fun v _=>v=.pointer (some ⟨gS,k*5+4,none⟩)),
    (fun _ _=>True)] ?_ (early2 (by kernel_rfl)) ?_ (fun W9 u W=>u=undef∧∃ A c,W=W9.setCell ⟨gS,k*5+2,none⟩ (.slice A zk.body.n c)∧W9.ownsRow w2.heap.size 75 2 (.slice A zk.body.n c) zk.body.n (cellsK encB zk.body.l)) ?_ ?_ ?_
  ·repeat' (first | exact stays_nil | refine stays_cons ?_ ?_ | exact Stays.pure | exact (fun v W W' h hb=>let ⟨A,c,h1,h2⟩:=h;⟨A,c,h1,own_below h2 hb⟩))
  ·intro i oo ho hiS hiL hil mf W hb0 hmi hcl hdeps AA KK hA hK
   rcases i with _ | _ | _ | _ | _ | _ | _ | _ | _ | _ | _ | _ | _ | _ | _ | _ | _ | _ | _ | _ | _ | _ | _ | _ | _ | _ | i
   ·injection ho with ho;subst ho
    have ef12:AA.tmps[12]?.getD undef=.pointer (some ⟨gS,k*5,none⟩):=tF hA
    exact zP
   ·exact absurd (by decide) hil
   ·injection ho with ho;subst ho
    have ef12:AA.tmps[12]?.getD undef=.pointer (some ⟨gS,k*5,none⟩):=tF hA
    exact zP
   ·injection ho with ho;subst ho
    have e2:=eD hdeps hA 2 46
    exact zP
   ·injection ho with ho;subst ho
    have e3:=eD hdeps hA 3 47
    exact zP
   ·injection ho with ho;subst ho
    have e4:=eD hdeps hA 4 48
    obtain ⟨r1,r2,r3,r4,r5,r6⟩:=hS.out W hb0
    exact zP
   ·injection ho with ho;subst ho
    have ef9:AA.tmps[9]?.getD undef=.int .i64 (i:Int):=tF hA
    exact zP
   ·injection ho with ho;subst ho
    have e5:=eD hdeps hA 5 49
    have e6:=eD hdeps hA 6 50
    exact zP
   ·injection ho with ho;subst ho
    have e7:=eD hdeps hA 7 51
    exact zP
   ·injection ho with ho;subst ho
    have e8:=eD hdeps hA 8 52
    obtain ⟨r1,r2,r3,r4,r5,r6⟩:=hS.out W hb0
    exact zP
   ·injection ho with ho;subst ho
    have e9:=eD hdeps hA 9 53
    clear hA hdeps hcl hmi hiS hiL hil
    have hKK:=hK
    clear hK
    go_simp
    refine (hCB.out W hb0).mono ?_
    rintro e w5 ⟨v,rfl,hv,hbn⟩
    obtain ⟨v1,v3,rfl,_⟩:=own_form hv
    exact hKK _ _ hbn ⟨v1,v3,rfl,own_mono hv (by have:=hb0.size;have:=HSS.out;omega)⟩
   ·injection ho with ho;subst ho
    have ef12:AA.tmps[12]?.getD undef=.pointer (some ⟨gS,k*5,none⟩):=tF hA
    exact zP
   ·injection ho with ho;subst ho
    have e11:=eD hdeps hA 11 55
    exact zP
   ·injection ho with ho;subst ho
    have e12:=eD hdeps hA 12 56
    exact zP
   ·injection ho with ho;subst ho
    have e13:=eD hdeps hA 13 57
    obtain ⟨r1,r2,r3,r4,r5,r6⟩:=hS.out W hb0
    exact zP
   ·injection ho with ho;subst ho
    have ef9:AA.tmps[9]?.getD undef=.int .i64 (i:Int):=tF hA
    exact zP
   ·injection ho with ho;subst ho
    have e14:=eD hdeps hA 14 58
    have e15:=eD hdeps hA 15 59
    exact zP
   ·injection ho with ho;subst ho
    have e16:=eD hdeps hA 16 60
    exact zP
   ·injection ho with ho;subst ho
    have e17:=eD hdeps hA 17 61
    obtain ⟨r1,r2,r3,r4,r5,r6⟩:=hS.out W hb0
    exact zP
   ·injection ho with ho;subst ho
    have e18:=eD hdeps hA 18 62
    clear hA hdeps hcl hmi hiS hiL hil
    have hKK:=hK
    clear hK
    go_simp
    refine (hCQ.out W hb0).mono ?_
    rintro e w5 ⟨v,rfl,hv,hbn⟩
    obtain ⟨v1,v3,rfl,_⟩:=own_form hv
    exact hKK _ _ hbn ⟨v1,v3,rfl,own_mono hv (by have:=hb0.size;have:=HSS.out;omega)⟩
   ·injection ho with ho;subst ho
    have e0:=eD hdeps hA 0 44
    exact zP
   ·injection ho with ho;subst ho
    have e20:=eD hdeps hA 20 64
    exact zP
   ·exact absurd rfl hiS
   ·exact absurd (by decide) hil
   ·exact absurd (by decide) hil
   ·exact absurd rfl hiL
   ·simp at ho
  ·intro i oo ho hiS hiL hil mf W9 W hb9 hmi hcl hdeps hRW AA KK hA hK
   rcases i with _ | _ | _ | _ | _ | _ | _ | _ | _ | _ | _ | _ | _ | _ | _ | _ | _ | _ | _ | _ | _ | _ | _ | _ | _ | _ | i
   ·exact absurd hil (by decide)
   ·injection ho with ho;subst ho
    have ef12:AA.tmps[12]?.getD undef=.pointer (some ⟨gS,k*5,none⟩):=tF hA
    exact zL
   ·exact absurd hil (by decide)
   ·exact absurd hil (by decide)
   ·exact absurd hil (by decide)
   ·exact absurd hil (by decide)
   ·exact absurd hil (by decide)
   ·exact absurd hil (by decide)
   ·exact absurd hil (by decide)
   ·exact absurd hil (by decide)
   ·exact absurd hil (by decide)
   ·exact absurd hil (by decide)
   ·exact absurd hil (by decide)
   ·exact absurd hil (by decide)
   ·exact absurd hil (by decide)
   ·exact absurd hil (by decide)
   ·exact absurd hil (by decide)
   ·exact absurd hil (by decide)
   ·exact absurd hil (by decide)
   ·exact absurd hil (by decide)
   ·exact absurd hil (by decide)
   ·exact absurd hil (by decide)
   ·exact absurd rfl hiS
   ·injection ho with ho;subst ho
    have e1:=eL hdeps hA 1 45
    exact zL
   ·injection ho with ho;subst ho
    have e23:=eL hdeps hA 23 66
    exact zL
   ·exact absurd rfl hiL
   ·simp at ho
  ·intro oo ho mf W hb0 hmi hcl hdeps AA KK hA hK
   injection ho with ho;subst ho
   obtain ⟨x10,hx10,hg10⟩:=hdeps ⟨10,.data⟩ (by simp) rfl
   have hg10:∃ A c,x10=.slice A zk.body.n c∧W.ownsRow w2.heap.size 75 2 x10 zk.body.n (cellsK encB zk.body.l):=hg10
   obtain ⟨A10,c10,rfl,how10⟩:=hg10
   have e10:AA.tmps[54]?.getD undef=.slice A10 zk.body.n c10:=tO hA hx10
   have e21:=eD hdeps hA 21 65
   clear hA hdeps hmi hcl
   obtain ⟨r1,r2,r3,r4,r5,r6⟩:=hS.out W hb0
   have hK0:KK (AA.put none undef) _:=hK undef (W.setCell ⟨gS,k*5+2,none⟩ (.slice A10 zk.body.n c10)) ⟨rfl,A10,c10,rfl,how10⟩
   clear hK
   go_simp
   exact hK0
  ·intro oo ho mf W9 W uS hb9 hmi hall hSm hR AA KK hA hK
   injection ho with ho;subst ho
   have zm0:=dV (hall 0 (by simp) (by decide) (by decide))
   have zm1:=dV (hall 1 (by simp) (by decide) (by decide))
   have zm2:=dV (hall 2 (by simp) (by decide) (by decide))
   have zm3:=dV (hall 3 (by simp) (by decide) (by decide))
   have zm4:=dV (hall 4 (by simp) (by decide) (by decide))
   have zm5:=dV (hall 5 (by simp) (by decide) (by decide))
   have zm6:=dV (hall 6 (by simp) (by decide) (by decide))
   have zm7:=dV (hall 7 (by simp) (by decide) (by decide))
   have zm8:=dV (hall 8 (by simp) (by decide) (by decide))
   have zm9:=dV (hall 9 (by simp) (by decide) (by decide))
   obtain ⟨x10,zm10,hg10⟩:=hall 10 (by simp) (by decide) (by decide)
   have hg10:∃ A c,x10=.slice A zk.body.n c∧W9.ownsRow w2.heap.size 75 2 x10 zk.body.n (cellsK encB zk.body.l):=hg10
   obtain ⟨A10,c10,rfl,how10⟩:=hg10
   have zm11:=dV (hall 11 (by simp) (by decide) (by decide))
   have zm12:=dV (hall 12 (by simp) (by decide) (by decide))
   have zm13:=dV (hall 13 (by simp) (by decide) (by decide))
   have zm14:=dV (hall 14 (by simp) (by decide) (by decide))
   have zm15:=dV (hall 15 (by simp) (by decide) (by decide))
   have zm16:=dV (hall 16 (by simp) (by decide) (by decide))
   have zm17:=dV (hall 17 (by simp) (by decide) (by decide))
   have zm18:=dV (hall 18 (by simp) (by decide) (by decide))
   obtain ⟨x19,zm19,hg19⟩:=hall 19 (by simp) (by decide) (by decide)
   have hg19:∃ A c,x19=.slice A zk.own.n c∧W9.ownsRow w2.heap.size 78 2 x19 zk.own.n (cellsK encP zk.own.l):=hg19
   obtain ⟨A19,c19,rfl,how19⟩:=hg19
   have zm20:=dV (hall 20 (by simp) (by decide) (by decide))
   have zm21:=dV (hall 21 (by simp) (by decide) (by decide))
   have zm23:=dV (hall 23 (by simp) (by decide) (by decide))
   have zm24:=dV (hall 24 (by simp) (by decide) (by decide))
   obtain ⟨rfl,A1,c1,hWS,ho1⟩:=hR
   have e19:AA.tmps[63]?.getD undef=.slice A19 zk.own.n c19:=tO hA zm19
   have e24:AA.tmps[67]?.getD undef=.pointer (some ⟨gS,k*5+4,none⟩):=tO hA zm24
   have ho9:=HO7.out.below hb9
   have hx9:=ho9.eachS _ (List.getElem_mem HKM.out)
   have hzk9:=HZK7.out.below hb9
   obtain ⟨gq,csq,hAq,-,hbq⟩:=ho9.sets.blk (by show 0<m2;have h1:=HO7.out.sets.1;have h2:=HKM.out;simp only at h1;omega)
   obtain ⟨g1,hg1,-,hT1,hgr1⟩:=TenO.setF ho9 k 2 HKM.out (by decide) ((ml[k]'HKM.out).backR ⟨A1,zk.body.n,c1,zk.body.l⟩ (ml[k]'HKM.out).own) (.slice A1 zk.body.n c1) (fun z hz=>by rw [List.getElem?_eq_getElem HKM.out] at hz;cases hz;rfl) ⟨⟨hzk9.body.1,ho1⟩,hx9.snaps,hx9.each,hx9.own⟩
   have hg1:some (⟨gS,0,none⟩:Addr)=some ⟨g1,0,none⟩:=hg1
   injection hg1 with hg1
   injection hg1 with hg1
   subst hg1
   have hAq:some (⟨gS,0,none⟩:Addr)=some ⟨gq,0,none⟩:=hAq
   injection hAq with hAq
   injection hAq with hAq
   subst hAq
   have hxn:SetO W9 w2.heap.size ((ml[k]'HKM.out).backR ⟨A1,zk.body.n,c1,zk.body.l⟩ ⟨A19,zk.own.n,c19,zk.own.l⟩):=⟨⟨hzk9.body.1,ho1⟩,hx9.snaps,hx9.each,⟨hzk9.own.1,how19⟩⟩
   rw [← hWS] at hT1 hgr1
   have hxn:=hxn.keptS hgr1 hbq
   have hkp:k<(TenR.putS ⟨mm,mq,mx,⟨some ⟨gS,0,none⟩,m2,m3,ml⟩,⟨n1,n2,n3,nl⟩,⟨p1,p2,p3,pl⟩,⟨q1,q2,q3,ql⟩⟩ k ((ml[k]'HKM.out).backR ⟨A1,zk.body.n,c1,zk.body.l⟩ (ml[k]'HKM.out).own)).sets.l.length:=by show k<(ml.set k _).length;rw [List.length_set];exact HKM.out
   obtain ⟨-,hlS,hfS,-,-,-,-,hcS⟩:=row_cells hT1.sets hkp rfl
   obtain ⟨g2,hg2,-,hT2,hgr2⟩:=TenO.setF hT1 k 4 hkp (by decide) ((ml[k]'HKM.out).backR ⟨A1,zk.body.n,c1,zk.body.l⟩ ⟨A19,zk.own.n,c19,zk.own.l⟩) (.slice A19 zk.own.n c19) (fun z hz=>by
    rw [List.getElem?_eq_getElem hkp] at hz
    cases hz
    rw [show (TenR.putS ⟨mm,mq,mx,⟨some ⟨gS,0,none⟩,m2,m3,ml⟩,⟨n1,n2,n3,nl⟩,⟨p1,p2,p3,pl⟩,⟨q1,q2,q3,ql⟩⟩ k ((ml[k]'HKM.out).backR ⟨A1,zk.body.n,c1,zk.body.l⟩ (ml[k]'HKM.out).own)).sets.l[k]'hkp=((ml[k]'HKM.out).backR ⟨A1,zk.body.n,c1,zk.body.l⟩ (ml[k]'HKM.out).own) from List.getElem_set_self ..]
    rfl) hxn
   have hg2:some (⟨gS,0,none⟩:Addr)=some ⟨g2,0,none⟩:=hg2
   injection hg2 with hg2
   injection hg2 with hg2
   subst hg2
   have hcSe:∃ v,W.cell? ⟨gS,k*5+4,none⟩=some v:=⟨_,hcS⟩
   obtain ⟨zv,hcSe⟩:=hcSe
   have hfS:=hfS (k*5+4)
   have k9:=(K7.out.below hb9 K7.out.lt).grown hgr1 (fun e=>by injection e with e;have:=HG5.out;omega)
   have hw9:Below W1.heap.size W1 W:=(HW7.out.trans (hb9.mono HW7.out.size)).grown hgr1 (by have:=HW7.out.size;have:=hb9.size;omega) (fun g hgg=>by injection hgg with hgg;have:=HGS.out;have:=HSS.out;omega)
   have HYO:Hid (TenO (W.setCell ⟨gS,k*5+4,none⟩ (.slice A19 zk.own.n c19)) w2.heap.size (TenR.putS (TenR.putS ⟨mm,mq,mx,⟨some ⟨gS,0,none⟩,m2,m3,ml⟩,⟨n1,n2,n3,nl⟩,⟨p1,p2,p3,pl⟩,⟨q1,q2,q3,ql⟩⟩ k ((ml[k]'HKM.out).backR ⟨A1,zk.body.n,c1,zk.body.l⟩ (ml[k]'HKM.out).own)) k ((ml[k]'HKM.out).backR ⟨A1,zk.body.n,c1,zk.body.l⟩ ⟨A19,zk.own.n,c19,zk.own.l⟩))):=hT2
   have HW10:=Lib.hid (hw9.setCell (p:=⟨gS,k*5+4,none⟩) (by have:=HGS.out;have:=HSS.out;simp only;omega) (.slice A19 zk.own.n c19))
   have K10:=Lib.hid (k9.far (p:=⟨gS,k*5+4,none⟩) (by have:=HG5.out;simp only;omega) (.slice A19 zk.own.n c19))
   have HYC:Hid (TenR.con (TenR.putS (TenR.putS ⟨mm,mq,mx,⟨some ⟨gS,0,none⟩,m2,m3,ml⟩,⟨n1,n2,n3,nl⟩,⟨p1,p2,p3,pl⟩,⟨q1,q2,q3,ql⟩⟩ k ((ml[k]'HKM.out).backR ⟨A1,zk.body.n,c1,zk.body.l⟩ (ml[k]'HKM.out).own)) k ((ml[k]'HKM.out).backR ⟨A1,zk.body.n,c1,zk.body.l⟩ ⟨A19,zk.own.n,c19,zk.own.l⟩))=C.putS k (x.con.back zz.con)):=by
    show _=_
    rw [TenR.con_putS,TenR.con_putS,hyc.out,putS_putS,backR_con (ml[k]'HKM.out) zk ⟨A1,zk.body.n,c1,zk.body.l⟩ ⟨A19,zk.own.n,c19,zk.own.l⟩ rfl rfl,← HXK.out,HXC.out,HZKC.out]
   clear ho9 hx9 hzk9 hbq hxn hkp hT1 hT2 hgr1 hgr2 k9 hw9 ho1 hb9 hcS hlS hWS how10
   have hK0:=hK undef (W.setCell ⟨gS,k*5+4,none⟩ (.slice A19 zk.own.n c19))
   clear hA hK hall hmi
   go_simp
   refine hK0 ?_
   clear hK0 e19 e24
   rw [frameM_all (by kernel_rfl) [.pointer (some ⟨gS,k*5,none⟩),.pointer (some ⟨gS,k*5,none⟩),.pointer (some ⟨gS,k*5,none⟩),.pointer (some ⟨gS,k*5,none⟩),.pointer (some ⟨gS,k*5+3,none⟩),.slice (some ⟨gZ,0,none⟩) xk.snaps.n xk.snaps.c,.int .i64 (i:Int),.pointer (some ⟨gZ,i*5,none⟩),.pointer (some ⟨gZ,i*5+2,none⟩),.slice zk.body.A zk.body.n zk.body.c,.slice A10 zk.body.n c10,.pointer (some ⟨gS,k*5,none⟩),.pointer (some ⟨gS,k*5,none⟩),.pointer (some ⟨gS,k*5+3,none⟩),.slice (some ⟨gZ,0,none⟩) xk.snaps.n xk.snaps.c,.int .i64 (i:Int),.pointer (some ⟨gZ,i*5,none⟩),.pointer (some ⟨gZ,i*5+4,none⟩),.slice zk.own.A zk.own.n zk.own.c,.slice A19 zk.own.n c19,.pointer (some ⟨gS,k*5,none⟩),.pointer (some ⟨gS,k*5+2,none⟩),undef,.pointer (some ⟨gS,k*5,none⟩),.pointer (some ⟨gS,k*5+4,none⟩),undef] rfl (fun i hi=>by rcases i with _ | _ | _ | _ | _ | _ | _ | _ | _ | _ | _ | _ | _ | _ | _ | _ | _ | _ | _ | _ | _ | _ | _ | _ | _ | _ | i <;> first | (rw [upd_self];rfl) | (rw [upd_ne _ _ (by decide)];assumption) | (simp at hi;omega))]
   clear hSm zm0 zm1 zm2 zm3 zm4 zm5 zm6 zm7 zm8 zm9 zm10 zm11 zm12 zm13 zm14 zm15 zm16 zm17 zm18 zm19 zm20 zm21 zm23 zm24
   simp only [putAll,Act.put,zA,zC,zB]
   obtain ⟨W10,hW10⟩:∃ W',W'=W.setCell ⟨gS,k*5+4,none⟩ (.slice A19 zk.own.n c19):=⟨_,rfl⟩
   clear hcSe hfS
   rw [← hW10] at HYO HW10 K10 ⊢
   clear hW10
   have hsz:(C.putS k (x.con.back zz.con)).sz:=back_sz HCZ.out k x.con HXC0.out zz.con HZC0.out
   have hSE1:=hSE.out (TenR.putS (TenR.putS ⟨mm,mq,mx,⟨some ⟨gS,0,none⟩,m2,m3,ml⟩,⟨n1,n2,n3,nl⟩,⟨p1,p2,p3,pl⟩,⟨q1,q2,q3,ql⟩⟩ k ((ml[k]'HKM.out).backR ⟨A1,zk.body.n,c1,zk.body.l⟩ (ml[k]'HKM.out).own)) k ((ml[k]'HKM.out).backR ⟨A1,zk.body.n,c1,zk.body.l⟩ ⟨A19,zk.own.n,c19,zk.own.l⟩)) _ HYC.out hsz W10 _ HYO.out (hrw.out W10 HW10.out).2.2
   obtain ⟨⟨E2,C2⟩,hV2⟩:∃ V2:Int×TenC,V2=(C.putS k (x.con.back zz.con)).settle:=⟨_,rfl⟩
   rw [← hV2] at hSE1
   have HX:Hid (V=(E2,C2)):=HXb.out.trans hV2.symm
   have HSE1:Hid (Calls Tryz.prog 47 #[.agg #[.string ⟨mm.toArray⟩,.int .i64 mq,.int .i64 mx,.slice (some ⟨gS,0,none⟩) m2 m3,.slice n1 n2 n3,.slice p1 p2 p3,.slice q1 q2 q3]] W10 (TenPost W10 (E2,C2))):=hSE1
   obtain ⟨d0,d1,d2,d3,d4,d5,d6⟩:=(⟨K10.out.cell 0,K10.out.cell 1,K10.out.cell 2,K10.out.cell 3,K10.out.cell 4,K10.out.cell 5,K10.out.cell 6⟩:_∧_∧_∧_∧_∧_∧_)
   simp only [zF,zD,zE] at d0 d1 d2 d3 d4 d5 d6
   clear hSE hSE1 hsz hV2 HXb
   go_upto_region 9 with (fail)
   go_wp2_with fail
   refine HSE1.out.mono ?_
   clear HSE1 d0 d1 d2 d3 d4 d5 d6
   rintro e w12 ⟨v,rfl,hb,hcs⟩
   have HW12:=Lib.hid (HW10.out.trans (hb.mono HW10.out.size))
   have HS12:=Lib.hid (show W1.heap.size≤W10.heap.size from HW10.out.size)
   clear hb
   have KZ:=Lib.hid (hKz.out w12 HW12.out)
   have HB:=Lib.hid (hBW.out w12 HW12.out)
   rcases hcs with ⟨h1,rfl⟩ | ⟨h1,z,rfl,ho,hy⟩
   ·simp only at h1
    have HE:=Lib.hid h1
    clear h1
    unfold ZEROT
    obtain ⟨WR,hW4,hth,HL,HBW,hgw⟩:=res7 (g:=(w.heap.size+1)) [.string ⟨#[]⟩,.int .i64 0,.int .i64 0,.slice none 0 0,.slice none 0 0,.slice none 0 0,.slice none 0 0] KZ.out HB.out (by omega)
    clear hgw
    go_wp2_with (refine wpList_store_mid rfl 27 (.tmp 6) (.tmp 70) rfl ((w.heap.size+1)) 0 #[.string ⟨#[]⟩,.int .i64 0,.int .i64 0,.slice none 0 0,.slice none 0 0,.slice none 0 0,.slice none 0 0] rfl rfl hth.out (by kernel_rfl) (by simp [Value.oneCell']) ?_;rw [← hW4];clear hW4)
    exact bodyPost_ret (v:=.tuple #[.agg #[.string ⟨#[]⟩,.int .i64 0,.int .i64 0,.slice none 0 0,.slice none 0 0,.slice none 0 0,.slice none 0 0],.int .i64 E2]) (results_cell_tmp rfl rfl HL.out) rfl (tenPost_err HX.out HE.out HBW.out)
   ·simp only at h1
    subst h1
    have HO:=Lib.hid (ho.mono (base':=w.heap.size) (by have:=HS12.out;have:=hSZ.out W1 hW0.out;omega))
    have HY:=Lib.hid hy
    clear ho hy
    obtain ⟨km,kq,kx,⟨k1,k2,k3,kl⟩,⟨j1,j2,j3,jl⟩,⟨i1,i2,i3,il⟩,⟨h1,h2,h3,hl⟩⟩:=z
    simp only [TenR.val,TenR.cells,FS.val,strV]
    obtain ⟨WR,hW4,hth,HL,HBW,hgw⟩:=res7 (g:=(w.heap.size+1)) [.string ⟨km.toArray⟩,.int .i64 kq,.int .i64 kx,.slice k1 k2 k3,.slice j1 j2 j3,.slice i1 i2 i3,.slice h1 h2 h3] KZ.out HB.out (by omega)
    have HOO:=Lib.hid (HO.out.keptT hgw KZ.out offT_ten)
    clear hgw
    go_wp2_with (refine wpList_store_mid rfl 27 (.tmp 6) (.tmp 70) rfl ((w.heap.size+1)) 0 #[.string ⟨km.toArray⟩,.int .i64 kq,.int .i64 kx,.slice k1 k2 k3,.slice j1 j2 j3,.slice i1 i2 i3,.slice h1 h2 h3] rfl rfl hth.out (by kernel_rfl) (by simp [Value.oneCell']) ?_;rw [← hW4];clear hW4)
    exact bodyPost_ret (v:=.tuple #[.agg #[.string ⟨km.toArray⟩,.int .i64 kq,.int .i64 kx,.slice k1 k2 k3,.slice j1 j2 j3,.slice i1 i2 i3,.slice h1 h2 h3],.int .i64 0]) (results_cell_tmp rfl rfl HL.out) rfl (tenPost_ok HX.out HBW.out ⟨km,kq,kx,⟨k1,k2,k3,kl⟩,⟨j1,j2,j3,jl⟩,⟨i1,i2,i3,il⟩,⟨h1,h2,h3,hl⟩⟩ HOO.out HY.out)
end Go.Proofs.YtcgclpcocdappaaGreatDoor
