/-
  SnapsClones: a clone has what the snapshot has, which may not go as long as it is there; its name may change: the law's walk.
-/
import Derived.WalkKit
import Derived.WalkSpells
import Derived.Below
import Derived.Laws.OwnMore
import Derived.Deep.AppendLies
import Derived.Deep.Draws
import Derived.Laws.Rows
import Derived.Maps.AppendAt
import Derived.RegionTactic
import Derived.OwnWalk
import Derived.Deep.QuietTactic
import Derived.BigQuiet
import Derived.Lib.Hide
import Derived.Laws.CopyOwn
import Derived.IntWalk
import Derived.Test.YtcgclpcocdappaaGreatDoorRows
import Derived.Handy
import Derived.Lib.AppendZeros
import Derived.ProofKit
import Derived.Deep.Quiet
import Derived.OpenShut
import Derived.ShutString
import Derived.ChangeOld
import Derived.Carry
import Derived.SizedLaws
import Derived.JoinedCond
import Derived.Deep.CondSized
import Derived.Deep.Slices
import Derived.Deep.Fields
import Derived.Lib.SmallJoins
import Derived.Orders
import Derived.Lib.SplitLaws
import Derived.Lib.LastIndexByte
import Derived.Lib.Strings
import Derived.Deep.RegionLaw
import Derived.Sort.Walk0
import Derived.Sort.KeysCollected
import Derived.Shelf.SlIter.Nil
import Derived.Shelf.SortM.Plain
import Derived.Shelf.SortM.SortNone
import Derived.Maps.OwnSet
import Derived.Maps.StringElems
import Derived.Deep.MidRow
import Derived.Shelf.Strings.Search1
import Derived.Shelf.Strings.Search2
import Derived.Shelf.Strings.Search3
import Derived.Shelf.Strings.Cut
import Derived.Shelf.Strings.Count
import Derived.Shelf.LaysM
import Derived.Shelf.Strings.Shaped
import Derived.Shelf.Strings.LastIndex
import Derived.Shelf.Strings.Split
import Derived.Shelf.Strings.SplitShaped
import Derived.Shelf.Unicode.Decode
import Derived.Shelf.Strings.RuneCount
import Derived.Shelf.Strings.Explode
import Derived.Shelf.Unicode.DecodeSlow
import Derived.Test.YtcgclpcocdappaaGreatDoorProg
import Derived.Lib.Overlaps
import Derived.Lib.AppendZerosOnto
import Derived.Laws.BytesString
import Derived.Laws.IdiomStrings
import Derived.Lib.ConvBytes
import Derived.Deep.DeepCutAuto
import Derived.Great.BuildSlice
import Derived.Test.YtcgclpcocdappaaGreatDoorJ0
import Derived.Test.YtcgclpcocdappaaGreatDoorJbkv1
import Derived.Test.YtcgclpcocdappaaGreatDoorJbkv3
import Derived.Test.YtcgclpcocdappaaGreatDoorJbkv4
import Derived.Test.YtcgclpcocdappaaGreatDoorJbkv5
import Derived.Test.YtcgclpcocdappaaGreatDoorJbkv7
import Derived.Test.YtcgclpcocdappaaGreatDoorJbkv8
import Derived.Test.YtcgclpcocdappaaGreatDoorJbkv10
import Derived.Test.YtcgclpcocdappaaGreatDoorJbkv14
import Derived.Test.YtcgclpcocdappaaGreatDoorJbkv15
import Derived.Test.YtcgclpcocdappaaGreatDoorJbkv16
import Derived.Test.YtcgclpcocdappaaGreatDoorJbkv17
import Derived.Test.YtcgclpcocdappaaGreatDoorJbkv19
import Derived.Test.YtcgclpcocdappaaGreatDoorJbkv20
import Derived.Test.YtcgclpcocdappaaGreatDoorJbkv21
import Derived.Test.YtcgclpcocdappaaGreatDoorJbkv22
import Derived.Test.YtcgclpcocdappaaGreatDoorJbkv25
import Derived.Test.YtcgclpcocdappaaGreatDoorJbkv27
import Derived.Test.YtcgclpcocdappaaGreatDoorJbv1
import Derived.Test.YtcgclpcocdappaaGreatDoorJkv2
import Derived.Test.YtcgclpcocdappaaGreatDoorJkv3
import Derived.Test.YtcgclpcocdappaaGreatDoorJkv4
import Derived.Test.YtcgclpcocdappaaGreatDoorJv3
import Derived.Test.YtcgclpcocdappaaGreatDoorJv4
import Derived.Test.YtcgclpcocdappaaGreatDoorJv5
import Derived.Test.YtcgclpcocdappaaGreatDoorJv6
import Derived.Test.YtcgclpcocdappaaGreatDoorJv7
import Derived.Test.YtcgclpcocdappaaGreatDoorJv8
namespace Go.Proofs.YtcgclpcocdappaaGreatDoor
open Go.RowKit
theorem at_getC {l:List SetR} {j:Nat} {c:SetC} (h:(l.map SetR.con)[j]?=some c):∃ hj:j<l.length,(l[j]'hj).con=c:=by
 rw [List.getElem?_map] at h
 cases hg:l[j]? with
 | none=>rw [hg] at h;cases h
 | some x =>
  rw [hg] at h
  obtain ⟨hj,e⟩:=List.getElem?_eq_some_iff.1 hg
  exact ⟨hj,by rw [e];exact Option.some.inj h⟩
theorem cat_at (a b:BS):(⟨a.toArray⟩++⟨#[64]⟩:ByteArray)++⟨b.toArray⟩=⟨(a++64 :: b).toArray⟩:=by
 refine eq_mk _ _ ?_
 rw [append_data,append_data]
 simp
set_option maxRecDepth 100000 in
set_option maxHeartbeats 16000000 in
theorem snapsClones_any (t:TenR) (p n tq ot:BS) (w:World) (hr:t.rd w w.heap.size) (hz:t.sz) (hp:p.length≤500000000) (hn:n.length≤500000000) (htq:tq.length≤500000000) (hot:ot.length≤500000000) (hmx:HasMax w) :
  Calls Tryz.prog 5 #[t.val,.string ⟨p.toArray⟩,.string ⟨n.toArray⟩,.string ⟨tq.toArray⟩,.string ⟨ot.toArray⟩] w fun e w'=>e=.returned (.bool true)∧Below w.heap.size w w':=by
 have hcz:=TenC.sz_of hr hz
 obtain ⟨nm,qu,nx,⟨s1,sn,s3,sl⟩,⟨gA,gN,gC,gL⟩,⟨t1,tn,t3,tl⟩,⟨l1,ln,l3,ll⟩⟩:=t
 show Calls Tryz.prog 5 #[.agg #[.string ⟨nm.toArray⟩,.int .i64 qu,.int .i64 nx,.slice s1 sn s3,.slice gA gN gC,.slice t1 tn t3,.slice l1 ln l3],.string ⟨p.toArray⟩,.string ⟨n.toArray⟩,.string ⟨tq.toArray⟩,.string ⟨ot.toArray⟩] w _
 have hb:=((Below.refl w.heap.size w).alloc (Nat.le_refl _) (.cells #[.string ⟨nm.toArray⟩,.int .i64 qu,.int .i64 nx,.slice s1 sn s3,.slice gA gN gC,.slice t1 tn t3,.slice l1 ln l3] 27))
 have kt:=Blk.new w 27 #[.string ⟨nm.toArray⟩,.int .i64 qu,.int .i64 nx,.slice s1 sn s3,.slice gA gN gC,.slice t1 tn t3,.slice l1 ln l3]
 have hsz:(w.alloc (.cells #[.string ⟨nm.toArray⟩,.int .i64 qu,.int .i64 nx,.slice s1 sn s3,.slice gA gN gC,.slice t1 tn t3,.slice l1 ln l3] 27)).heap.size=w.heap.size+1:=by simp
 obtain ⟨W1,hW1⟩:∃ W,W=(w.alloc (.cells #[.string ⟨nm.toArray⟩,.int .i64 qu,.int .i64 nx,.slice s1 sn s3,.slice gA gN gC,.slice t1 tn t3,.slice l1 ln l3] 27)):=⟨_,rfl⟩
 rw [← hW1] at hb hsz kt
 have hKt:Hid (∀ W,Below W1.heap.size W1 W→Blk W w.heap.size 27 #[.string ⟨nm.toArray⟩,.int .i64 qu,.int .i64 nx,.slice s1 sn s3,.slice gA gN gC,.slice t1 tn t3,.slice l1 ln l3]):=fun W h=>kt.below h (by omega)
 have hBW:Hid (∀ W,Below W1.heap.size W1 W→Below w.heap.size w W):=fun W h=>hb.trans (h.mono (by omega))
 have hSZ:Hid (∀ W,Below W1.heap.size W1 W→w.heap.size+1≤W.heap.size):=fun W h=>by have:=h.size;omega
 have hW0:Hid (Below W1.heap.size W1 W1):=Below.refl _ _
 have hrw:Hid (∀ W,Below W1.heap.size W1 W→TenR.rd W w.heap.size ⟨nm,qu,nx,⟨s1,sn,s3,sl⟩,⟨gA,gN,gC,gL⟩,⟨t1,tn,t3,tl⟩,⟨l1,ln,l3,ll⟩⟩∧w.heap.size≤W.heap.size∧HasMax W):=fun W h =>
  ⟨TenR.rd.below hr (hBW.out W h),by have:=hSZ.out W h;omega,hmx.below (hBW.out W h)⟩
 obtain ⟨C,hC⟩:∃ C,C=TenR.con ⟨nm,qu,nx,⟨s1,sn,s3,sl⟩,⟨gA,gN,gC,gL⟩,⟨t1,tn,t3,tl⟩,⟨l1,ln,l3,ll⟩⟩:=⟨_,rfl⟩
 have hHC:=Lib.hid hC
 rw [← hC] at hcz
 have hAL:Hid (∀ W,Below W1.heap.size W1 W→Calls Tryz.prog 8 #[] W fun e w'=>e=.returned (.bool true)∧Below W.heap.size W w'):=fun W h=>alive17_any W (hrw.out W h).2.2
 obtain ⟨⟨E1,C1⟩,hV1⟩:∃ V:Int×TenC,V=C.cloneS p n tq:=⟨_,rfl⟩
 have hCL:Hid (∀ W,Below W1.heap.size W1 W→Calls Tryz.prog 26 #[.agg #[.string ⟨nm.toArray⟩,.int .i64 qu,.int .i64 nx,.slice s1 sn s3,.slice gA gN gC,.slice t1 tn t3,.slice l1 ln l3],.string ⟨p.toArray⟩,.string ⟨n.toArray⟩,.string ⟨tq.toArray⟩] W (TenPost W (E1,C1))):=fun W h=>by
  rw [hV1,hC]
  exact cloneS_any ⟨nm,qu,nx,⟨s1,sn,s3,sl⟩,⟨gA,gN,gC,gL⟩,⟨t1,tn,t3,tl⟩,⟨l1,ln,l3,ll⟩⟩ p n tq W w.heap.size (hrw.out W h).2.1 (hrw.out W h).1 hz (by omega) hn htq (hrw.out W h).2.2
 have hFT:Hid (∀ W,Below W1.heap.size W1 W→∀ q:BS,Calls Tryz.prog 10 #[.agg #[.string ⟨nm.toArray⟩,.int .i64 qu,.int .i64 nx,.slice s1 sn s3,.slice gA gN gC,.slice t1 tn t3,.slice l1 ln l3],.string ⟨q.toArray⟩] W fun e w'=>e=.returned (.int .i64 (findS sl q))∧Below W.heap.size W w'):=fun W h q =>
  refFind_any _ _ _ _ _ _ sl sn hr.sets.1 s1 s3 q W w.heap.size (hrw.out W h).1.sets.2.2 (hrw.out W h).2.1 (by have:=hz.sets;simp only at this;omega)
 have hSN:=Lib.hid (show sn=sl.length from hr.sets.1)
 have HV1:=Lib.hid hV1
 have HZ:=Lib.hid hz
 have HCZ:=Lib.hid hcz
 have HLN:=Lib.hid (show p.length≤500000000∧n.length≤500000000∧tq.length≤500000000∧ot.length≤500000000 from ⟨hp,hn,htq,hot⟩)
 have HFS:Hid (∀ q,findS sl q=C.find q):=fun q=>by rw [hC];exact findS_con ⟨nm,qu,nx,⟨s1,sn,s3,sl⟩,⟨gA,gN,gC,gL⟩,⟨t1,tn,t3,tl⟩,⟨l1,ln,l3,ll⟩⟩ q
 clear hb hsz kt hr hz hmx hC hcz hV1 hp hn htq hot
 go_enter Tryz.func5,Tryz.ntmps5
 have hc:=hAL.out W1 hW0.out
 go_wp2_with fail
 rw [← hW1]
 clear hW1
 refine hc.mono ?_
 clear hc 
 rintro e w2 ⟨rfl,hb⟩
 have H1_2:=Lib.hid (hW0.out.trans (hb.mono hW0.out.size))
 clear hb
 have hc:=hCL.out w2 H1_2.out
 have kk:=hKt.out _ H1_2.out
 obtain ⟨c0,c1,c2,c3,c4,c5,c6⟩:=(⟨kk.cell 0,kk.cell 1,kk.cell 2,kk.cell 3,kk.cell 4,kk.cell 5,kk.cell 6⟩:_∧_∧_∧_∧_∧_∧_)
 simp only [zF,zD,zE] at c0 c1 c2 c3 c4 c5 c6
 clear kk
 go_wp2_with fail
 refine hc.mono ?_
 clear hc c0 c1 c2 c3 c4 c5 c6
 rintro e w3 ⟨v,rfl,hb,hcs⟩
 have H1_3:=Lib.hid (H1_2.out.trans (hb.mono H1_2.out.size))
 clear hb
 rcases hcs with ⟨h1,rfl⟩ | ⟨h1,y,rfl,ho,hy⟩
 ·have hE1b:(E1 == 0)=false:=by have h1:E1≠0:=h1;simpa using h1
  have hbn:=(H1_3.out).alloc H1_3.out.size (.cells #[.string ⟨#[]⟩,.int .i64 0,.int .i64 0,.slice none 0 0,.slice none 0 0,.slice none 0 0,.slice none 0 0] 27)
  have kbn:=Blk.new w3 27 #[.string ⟨#[]⟩,.int .i64 0,.int .i64 0,.slice none 0 0,.slice none 0 0,.slice none 0 0,.slice none 0 0]
  have hsn:(w3.alloc (.cells #[.string ⟨#[]⟩,.int .i64 0,.int .i64 0,.slice none 0 0,.slice none 0 0,.slice none 0 0,.slice none 0 0] 27)).heap.size=w3.heap.size+1:=by simp
  obtain ⟨Bz9,hBz9⟩:∃ g,g=w3.heap.size:=⟨_,rfl⟩
  obtain ⟨w40,hWn⟩:∃ W,W=(w3.alloc (.cells #[.string ⟨#[]⟩,.int .i64 0,.int .i64 0,.slice none 0 0,.slice none 0 0,.slice none 0 0,.slice none 0 0] 27)):=⟨_,rfl⟩
  rw [← hWn] at hbn kbn hsn 
  have HW40:=Lib.hid hbn
  rw [← hBz9] at kbn
  have hKz9:Hid (∀ W,Below w40.heap.size w40 W→Blk W Bz9 27 #[.string ⟨#[]⟩,.int .i64 0,.int .i64 0,.slice none 0 0,.slice none 0 0,.slice none 0 0,.slice none 0 0]):=fun W h=>kbn.below h (by omega)
  have HZz9:=Lib.hid (show Bz9=w3.heap.size∧w40.heap.size=w3.heap.size+1 from ⟨hBz9,hsn⟩)
  clear hbn kbn hsn 
  have kk:=hKz9.out w40 (Below.refl _ _)
  have d3:=kk.cell 3
  simp only [zF,zD,zE] at d3
  clear kk
  unfold ZEROT
  go_wp2_with (refine wpList_store_new w3 rfl 27 (.tmp 11) (.tmp 28) rfl 27 [.string ⟨#[]⟩,.int .i64 0,.int .i64 0,.slice none 0 0,.slice none 0 0,.slice none 0 0,.slice none 0 0] [.string ⟨#[]⟩,.int .i64 0,.int .i64 0,.slice none 0 0,.slice none 0 0,.slice none 0 0,.slice none 0 0] rfl rfl rfl (by kernel_rfl) (by simp [Value.oneCell']) ?_;rw [show ([.string ⟨#[]⟩,.int .i64 0,.int .i64 0,.slice none 0 0,.slice none 0 0,.slice none 0 0,.slice none 0 0]:List Value).toArray=#[.string ⟨#[]⟩,.int .i64 0,.int .i64 0,.slice none 0 0,.slice none 0 0,.slice none 0 0,.slice none 0 0] from rfl,← hWn,← hBz9];clear hWn hBz9)
  go_ret
  exact ⟨rfl,hBW.out _ HW40.out⟩
 ·replace h1:E1=0:=h1
  subst h1
  have HO:=Lib.hid ho
  have HY:=Lib.hid hy
  clear ho hy
  obtain ⟨h44,k,hk,i,hi,j,hfk,hfi,hfj,hgj,hren⟩:=clone_law C p n tq C1 HV1.out
  obtain ⟨hk1,hi1,x,hx,zz,hzz,hxk,hzi,hfi2⟩:∃ (hk1:k<sl.length) (hi1:i<(sl[k]'hk1).snaps.l.length) (x:SetR) (hx:x=sl[k]'hk1) (zz:SnapR) (hzz:zz=(sl[k]'hk1).snaps.l[i]'hi1),(C.sets[k]'hk)=x.con∧((C.sets[k]'hk).snaps[i]'hi)=zz.con∧findN x.snaps.l n=(i:Int):=by
   have h:=hHC.out
   subst h
   have hk1:k<sl.length:=by have:=hk;rwa [show (TenR.con ⟨nm,qu,nx,⟨s1,sn,s3,sl⟩,⟨gA,gN,gC,gL⟩,⟨t1,tn,t3,tl⟩,⟨l1,ln,l3,ll⟩⟩).sets.length=sl.length from List.length_map ..] at this
   have e1:((TenR.con ⟨nm,qu,nx,⟨s1,sn,s3,sl⟩,⟨gA,gN,gC,gL⟩,⟨t1,tn,t3,tl⟩,⟨l1,ln,l3,ll⟩⟩).sets[k]'hk)=(sl[k]'hk1).con:=List.getElem_map ..
   have hi1:i<(sl[k]'hk1).snaps.l.length:=by
    have h:=hi
    rw [e1] at h
    rwa [show (sl[k]'hk1).con.snaps.length=(sl[k]'hk1).snaps.l.length from List.length_map ..] at h
   refine ⟨hk1,hi1,_,rfl,_,rfl,e1,?_,?_⟩
   ·have h:=List.getElem?_eq_getElem hi
    have h2:((TenR.con ⟨nm,qu,nx,⟨s1,sn,s3,sl⟩,⟨gA,gN,gC,gL⟩,⟨t1,tn,t3,tl⟩,⟨l1,ln,l3,ll⟩⟩).sets[k]'hk).snaps[i]?=some ((sl[k]'hk1).snaps.l[i]'hi1).con:=by
     rw [e1]
     show ((sl[k]'hk1).snaps.l.map SnapR.con)[i]?=_
     rw [List.getElem?_map,List.getElem?_eq_getElem hi1]
     rfl
    rw [h] at h2
    exact Option.some.inj h2
   ·rw [findN_con,← e1]
    exact hfi
  rw [hzi] at hgj
  obtain ⟨av0,av1,av2,⟨av3,av4,av5,al0⟩,⟨av6,av7,av8,al1⟩,⟨av9,av10,av11,al2⟩,⟨av12,av13,av14,al3⟩⟩:=y
  simp only [TenR.val,TenR.cells,FS.val,strV]
  have hn1:=(H1_3.out).alloc H1_3.out.size (.cells #[.string ⟨av0.toArray⟩,.int .i64 av1,.int .i64 av2,.slice av3 av4 av5,.slice av6 av7 av8,.slice av9 av10 av11,.slice av12 av13 av14] 27)
  have kbn:=Blk.new w3 27 #[.string ⟨av0.toArray⟩,.int .i64 av1,.int .i64 av2,.slice av3 av4 av5,.slice av6 av7 av8,.slice av9 av10 av11,.slice av12 av13 av14]
  have hsn:(w3.alloc (.cells #[.string ⟨av0.toArray⟩,.int .i64 av1,.int .i64 av2,.slice av3 av4 av5,.slice av6 av7 av8,.slice av9 av10 av11,.slice av12 av13 av14] 27)).heap.size=w3.heap.size+1:=by simp
  have hbo:=((Below.refl w3.heap.size w3).alloc (Nat.le_refl _) (.cells #[.string ⟨av0.toArray⟩,.int .i64 av1,.int .i64 av2,.slice av3 av4 av5,.slice av6 av7 av8,.slice av9 av10 av11,.slice av12 av13 av14] 27))
  obtain ⟨Ba,hBa⟩:∃ g,g=w3.heap.size:=⟨_,rfl⟩
  obtain ⟨w4,hWn⟩:∃ W,W=(w3.alloc (.cells #[.string ⟨av0.toArray⟩,.int .i64 av1,.int .i64 av2,.slice av3 av4 av5,.slice av6 av7 av8,.slice av9 av10 av11,.slice av12 av13 av14] 27)):=⟨_,rfl⟩
  rw [← hWn] at kbn hsn hbo hn1
  rw [← hBa] at kbn
  have hSa:Hid (∀ W,Below w4.heap.size w4 W→W.cell? ⟨Ba,0,none⟩=some (.string ⟨av0.toArray⟩)∧W.cell? ⟨Ba,1,none⟩=some (.int .i64 av1)∧W.cell? ⟨Ba,2,none⟩=some (.int .i64 av2)∧W.cell? ⟨Ba,3,none⟩=some (.slice av3 av4 av5)∧W.cell? ⟨Ba,4,none⟩=some (.slice av6 av7 av8)∧W.cell? ⟨Ba,5,none⟩=some (.slice av9 av10 av11)∧W.cell? ⟨Ba,6,none⟩=some (.slice av12 av13 av14)):=fun W h=>blk7 (kbn.below h (by omega))
  have H1_4:=Lib.hid hn1
  have H4_4:Hid (Below w4.heap.size w4 w4):=Below.refl _ _
  have hOa:Hid (∀ W,Below w4.heap.size w4 W→TenO W w2.heap.size ⟨av0,av1,av2,⟨av3,av4,av5,al0⟩,⟨av6,av7,av8,al1⟩,⟨av9,av10,av11,al2⟩,⟨av12,av13,av14,al3⟩⟩):=fun W h=>(HO.out.below hbo).below (h.mono (by omega))
  have hCa:Hid (TenR.con ⟨av0,av1,av2,⟨av3,av4,av5,al0⟩,⟨av6,av7,av8,al1⟩,⟨av9,av10,av11,al2⟩,⟨av12,av13,av14,al3⟩⟩=C1):=HY.out
  clear HO HY
  clear kbn hsn hbo hn1
  obtain ⟨hj,hxac⟩:∃ hj:j<al0.length,(al0[j]'hj).con=cloneSet p n tq zz.con:=at_getC (by have h:=hgj;rw [← hCa.out] at h;exact h)
  obtain ⟨xa,hxa⟩:∃ x,x=al0[j]'hj:=⟨_,rfl⟩
  rw [← hxa] at hxac
  have HXA:=Lib.hid hxac
  have HXE:=Lib.hid hxa
  have hszC:Hid (C1.sz):=cloneS_sz HCZ.out p n tq (by have:=HLN.out;omega) (by have:=HLN.out;omega) C1 HV1.out
  have HREN:=Lib.hid hren
  obtain ⟨⟨E2,C2⟩,hV2⟩:∃ V:Int×TenC,V=C1.unsnap p n:=⟨_,rfl⟩
  rw [← hV2] at h44
  have h44:E2=44:=h44
  subst h44
  obtain ⟨⟨E3,C3⟩,hV3⟩:∃ V:Int×TenC,V=C1.rename p n ot:=⟨_,rfl⟩
  have HV3:=Lib.hid hV3
  have hrA:Hid (∀ W,Below w4.heap.size w4 W→TenR.rd W W.heap.size ⟨av0,av1,av2,⟨av3,av4,av5,al0⟩,⟨av6,av7,av8,al1⟩,⟨av9,av10,av11,al2⟩,⟨av12,av13,av14,al3⟩⟩∧TenR.sz ⟨av0,av1,av2,⟨av3,av4,av5,al0⟩,⟨av6,av7,av8,al1⟩,⟨av9,av10,av11,al2⟩,⟨av12,av13,av14,al3⟩⟩∧HasMax W):=fun W h=>by
   have h1:=(hOa.out W h).rd
   exact ⟨h1,TenR.sz_of h1 (by rw [hCa.out];exact hszC.out),(hrw.out W (H1_4.out.trans (h.mono H1_4.out.size))).2.2⟩
  have hDA:Hid (∀ W,Below w4.heap.size w4 W→Calls Tryz.prog 20 #[.agg #[.string ⟨av0.toArray⟩,.int .i64 av1,.int .i64 av2,.slice av3 av4 av5,.slice av6 av7 av8,.slice av9 av10 av11,.slice av12 av13 av14],.string ⟨p.toArray⟩,.string ⟨n.toArray⟩] W (TenPost W (44,C2))):=fun W h=>by
   obtain ⟨h1,h2,h3⟩:=hrA.out W h
   rw [hV2,← hCa.out]
   exact unsnap_any ⟨av0,av1,av2,⟨av3,av4,av5,al0⟩,⟨av6,av7,av8,al1⟩,⟨av9,av10,av11,al2⟩,⟨av12,av13,av14,al3⟩⟩ p n W W.heap.size (Nat.le_refl _) h1 h2 (by have:=HLN.out;omega) h3
  have hRA:Hid (∀ W,Below w4.heap.size w4 W→Calls Tryz.prog 28 #[.agg #[.string ⟨av0.toArray⟩,.int .i64 av1,.int .i64 av2,.slice av3 av4 av5,.slice av6 av7 av8,.slice av9 av10 av11,.slice av12 av13 av14],.string ⟨p.toArray⟩,.string ⟨n.toArray⟩,.string ⟨ot.toArray⟩] W (TenPost W (E3,C3))):=fun W h=>by
   obtain ⟨h1,h2,h3⟩:=hrA.out W h
   rw [hV3,← hCa.out]
   exact rename_any ⟨av0,av1,av2,⟨av3,av4,av5,al0⟩,⟨av6,av7,av8,al1⟩,⟨av9,av10,av11,al2⟩,⟨av12,av13,av14,al3⟩⟩ p n ot W W.heap.size (Nat.le_refl _) h1 h2 (by have:=HLN.out;omega) (by have:=HLN.out;omega) (by have:=HLN.out;omega) h3
  have hFA:Hid (∀ W,Below w4.heap.size w4 W→Calls Tryz.prog 10 #[.agg #[.string ⟨av0.toArray⟩,.int .i64 av1,.int .i64 av2,.slice av3 av4 av5,.slice av6 av7 av8,.slice av9 av10 av11,.slice av12 av13 av14],.string ⟨tq.toArray⟩] W fun e w'=>e=.returned (.int .i64 (j:Int))∧Below W.heap.size W w'):=fun W h=>by
   obtain ⟨h1,h2,h3⟩:=hrA.out W h
   have h4:=findS_con ⟨av0,av1,av2,⟨av3,av4,av5,al0⟩,⟨av6,av7,av8,al1⟩,⟨av9,av10,av11,al2⟩,⟨av12,av13,av14,al3⟩⟩ tq
   rw [hCa.out,hfj] at h4
   rw [← h4]
   exact refFind_any _ _ _ _ _ _ al0 _ h1.sets.1 _ _ tq W W.heap.size h1.sets.2.2 (Nat.le_refl _) (Nat.le_trans h2.sets (by decide))
  have hFK:findS sl p=(k:Int):=(HFS.out p).trans hfk
  have hZN:Hid (zz.body.n≤1000000000000∧x.snaps.n≤1000000000000):=by
   have h:=HZ.out.eachS _ (List.getElem_mem hk1)
   have h2:=h.each _ (List.getElem_mem hi1)
   exact ⟨by rw [hzz];exact h2.body,by rw [hx];exact h.snaps⟩
  have hks:k<sn:=by have:=hSN.out;omega
  obtain ⟨hrk,hB2,-⟩:=hrw.out w4 H1_4.out
  obtain ⟨ad,hsa,-⟩:=set_at hrk.sets.2.2 hSN.out hks
  simp only at hsa
  have hxr:=hrk.eachS _ (List.getElem_mem hk1)
  simp only [← hx] at hxr hzz hi1
  have hin:i<x.snaps.n:=by rw [hxr.snaps.1];exact hi1
  obtain ⟨az,hza,-⟩:=snap_at hxr.snaps.2.2 hxr.snaps.1 hin
  have hSX:Hid (∀ W,Below W1.heap.size W1 W→(W.cell? (ad.add (k*5))=some (.string ⟨x.path.toArray⟩)∧W.cell? ⟨(ad.add (k*5)).block,(ad.add (k*5)).off+1,none⟩=some (.string ⟨x.org.toArray⟩)∧W.cell? ⟨(ad.add (k*5)).block,(ad.add (k*5)).off+2,none⟩=some (.slice x.body.A x.body.n x.body.c)∧W.cell? ⟨(ad.add (k*5)).block,(ad.add (k*5)).off+3,none⟩=some (.slice (some az) x.snaps.n x.snaps.c)∧W.cell? ⟨(ad.add (k*5)).block,(ad.add (k*5)).off+4,none⟩=some (.slice x.own.A x.own.n x.own.c)) ∧
    (W.cell? (az.add (i*5))=some (.string ⟨zz.nm.toArray⟩)∧W.cell? ⟨(az.add (i*5)).block,(az.add (i*5)).off+1,none⟩=some (.int .i64 zz.gd)∧W.cell? ⟨(az.add (i*5)).block,(az.add (i*5)).off+2,none⟩=some (.slice zz.body.A zz.body.n zz.body.c)∧W.cell? ⟨(az.add (i*5)).block,(az.add (i*5)).off+3,none⟩=some (.slice zz.tags.A zz.tags.n zz.tags.c)∧W.cell? ⟨(az.add (i*5)).block,(az.add (i*5)).off+4,none⟩=some (.slice zz.own.A zz.own.n zz.own.c))):=fun W h=>by
   obtain ⟨g1,g2,-⟩:=hrw.out W h
   obtain ⟨ad2,e2,-,q0,q1,q2,q3,q4⟩:=set_at g1.sets.2.2 hSN.out hks
   simp only [hsa] at e2
   injection e2 with e2
   subst e2
   have g3:=g1.eachS _ (List.getElem_mem hk1)
   simp only [← hx] at g3 q0 q1 q2 q3 q4
   obtain ⟨az2,e3,-,r0,r1,r2,r3,r4⟩:=snap_at g3.snaps.2.2 g3.snaps.1 hin
   rw [hza] at e3
   injection e3 with e3
   subst e3
   simp only [← hzz] at r0 r1 r2 r3 r4
   rw [hza] at q3
   exact ⟨⟨q0,q1,q2,q3,q4⟩,r0,r1,r2,r3,r4⟩
  have hZR:Hid (∀ W,Below W1.heap.size W1 W→zz.rd W w.heap.size∧x.rd W w.heap.size):=fun W h=>by
   obtain ⟨g1,g2,-⟩:=hrw.out W h
   have g3:=g1.eachS _ (List.getElem_mem hk1)
   simp only [← hx] at g3
   have g4:=g3.each _ (List.getElem_mem hi1)
   simp only [← hzz] at g4
   exact ⟨g4,g3⟩
  have HKI:=Lib.hid (show k<sn∧i<x.snaps.n∧findN x.snaps.l n=(i:Int)∧j<al0.length from ⟨hks,hin,hfi2,hj⟩)
  have hkb:(k:Int)<(sn:Int):=by omega
  have hib:(i:Int)<(x.snaps.n:Int):=by omega
  have HZA:=Lib.hid hza
  subst hsa
  clear hfk hfi hfj hgj hren hx hzz hxk hzi hfi2 hxac hxa hV2 hV3 hrk hB2 hxr hza
  obtain ⟨c0,c1,c2,c3,c4,c5,c6⟩:=hSa.out w4 (Below.refl _ _)
  have hc:=hDA.out w4 H4_4.out
  go_wp2_with (refine wpList_store_new w3 rfl 27 (.tmp 11) (.tmp 28) rfl 27 [.string ⟨#[]⟩,.int .i64 0,.int .i64 0,.slice none 0 0,.slice none 0 0,.slice none 0 0,.slice none 0 0] [.string ⟨av0.toArray⟩,.int .i64 av1,.int .i64 av2,.slice av3 av4 av5,.slice av6 av7 av8,.slice av9 av10 av11,.slice av12 av13 av14] rfl rfl rfl (by kernel_rfl) (by simp [Value.oneCell']) ?_;rw [show ([.string ⟨av0.toArray⟩,.int .i64 av1,.int .i64 av2,.slice av3 av4 av5,.slice av6 av7 av8,.slice av9 av10 av11,.slice av12 av13 av14]:List Value).toArray=#[.string ⟨av0.toArray⟩,.int .i64 av1,.int .i64 av2,.slice av3 av4 av5,.slice av6 av7 av8,.slice av9 av10 av11,.slice av12 av13 av14] from rfl,← hWn,← hBa];clear hWn hBa)
  refine hc.mono ?_
  clear hc c0 c1 c2 c3 c4 c5 c6 
  rintro e w5 hone
  obtain ⟨y,rfl,hb,-⟩:=hone.one
  clear hone
  have H1_5:=Lib.hid (H1_4.out.trans (hb.mono H1_4.out.size))
  have H4_5:=Lib.hid (H4_4.out.trans (hb.mono H4_4.out.size))
  clear hb
  obtain ⟨dv0,dv1,dv2,⟨dv3,dv4,dv5,dl0⟩,⟨dv6,dv7,dv8,dl1⟩,⟨dv9,dv10,dv11,dl2⟩,⟨dv12,dv13,dv14,dl3⟩⟩:=y
  simp only [TenR.val,TenR.cells,FS.val,strV]
  have hn1:=(H1_5.out).alloc H1_5.out.size (.cells #[.string ⟨dv0.toArray⟩,.int .i64 dv1,.int .i64 dv2,.slice dv3 dv4 dv5,.slice dv6 dv7 dv8,.slice dv9 dv10 dv11,.slice dv12 dv13 dv14] 27)
  have hn4:=(H4_5.out).alloc H4_5.out.size (.cells #[.string ⟨dv0.toArray⟩,.int .i64 dv1,.int .i64 dv2,.slice dv3 dv4 dv5,.slice dv6 dv7 dv8,.slice dv9 dv10 dv11,.slice dv12 dv13 dv14] 27)
  have kbn:=Blk.new w5 27 #[.string ⟨dv0.toArray⟩,.int .i64 dv1,.int .i64 dv2,.slice dv3 dv4 dv5,.slice dv6 dv7 dv8,.slice dv9 dv10 dv11,.slice dv12 dv13 dv14]
  have hsn:(w5.alloc (.cells #[.string ⟨dv0.toArray⟩,.int .i64 dv1,.int .i64 dv2,.slice dv3 dv4 dv5,.slice dv6 dv7 dv8,.slice dv9 dv10 dv11,.slice dv12 dv13 dv14] 27)).heap.size=w5.heap.size+1:=by simp
  have hbo:=((Below.refl w5.heap.size w5).alloc (Nat.le_refl _) (.cells #[.string ⟨dv0.toArray⟩,.int .i64 dv1,.int .i64 dv2,.slice dv3 dv4 dv5,.slice dv6 dv7 dv8,.slice dv9 dv10 dv11,.slice dv12 dv13 dv14] 27))
  obtain ⟨Bd,hBd⟩:∃ g,g=w5.heap.size:=⟨_,rfl⟩
  obtain ⟨w6,hWn⟩:∃ W,W=(w5.alloc (.cells #[.string ⟨dv0.toArray⟩,.int .i64 dv1,.int .i64 dv2,.slice dv3 dv4 dv5,.slice dv6 dv7 dv8,.slice dv9 dv10 dv11,.slice dv12 dv13 dv14] 27)):=⟨_,rfl⟩
  rw [← hWn] at kbn hsn hbo hn1 hn4
  rw [← hBd] at kbn
  have hSd:Hid (∀ W,Below w6.heap.size w6 W→W.cell? ⟨Bd,0,none⟩=some (.string ⟨dv0.toArray⟩)∧W.cell? ⟨Bd,1,none⟩=some (.int .i64 dv1)∧W.cell? ⟨Bd,2,none⟩=some (.int .i64 dv2)∧W.cell? ⟨Bd,3,none⟩=some (.slice dv3 dv4 dv5)∧W.cell? ⟨Bd,4,none⟩=some (.slice dv6 dv7 dv8)∧W.cell? ⟨Bd,5,none⟩=some (.slice dv9 dv10 dv11)∧W.cell? ⟨Bd,6,none⟩=some (.slice dv12 dv13 dv14)):=fun W h=>blk7 (kbn.below h (by omega))
  have H1_6:=Lib.hid hn1
  have H4_6:=Lib.hid hn4
  have H6_6:Hid (Below w6.heap.size w6 w6):=Below.refl _ _
  clear kbn hsn hbo hn1 hn4
  go_upto_region 7 with (refine wpList_store_new w5 rfl 27 (.tmp 13) (.tmp 41) rfl 27 [.string ⟨#[]⟩,.int .i64 0,.int .i64 0,.slice none 0 0,.slice none 0 0,.slice none 0 0,.slice none 0 0] [.string ⟨dv0.toArray⟩,.int .i64 dv1,.int .i64 dv2,.slice dv3 dv4 dv5,.slice dv6 dv7 dv8,.slice dv9 dv10 dv11,.slice dv12 dv13 dv14] rfl rfl rfl (by kernel_rfl) (by simp [Value.oneCell']) ?_;rw [show ([.string ⟨dv0.toArray⟩,.int .i64 dv1,.int .i64 dv2,.slice dv3 dv4 dv5,.slice dv6 dv7 dv8,.slice dv9 dv10 dv11,.slice dv12 dv13 dv14]:List Value).toArray=#[.string ⟨dv0.toArray⟩,.int .i64 dv1,.int .i64 dv2,.slice dv3 dv4 dv5,.slice dv6 dv7 dv8,.slice dv9 dv10 dv11,.slice dv12 dv13 dv14] from rfl,← hWn,← hBd];clear hWn hBd)
  obtain ⟨AVa,hAVa⟩:∃ v,v=Value.agg #[.string ⟨av0.toArray⟩,.int .i64 av1,.int .i64 av2,.slice av3 av4 av5,.slice av6 av7 av8,.slice av9 av10 av11,.slice av12 av13 av14]:=⟨_,rfl⟩
  obtain ⟨TV,hTV⟩:∃ v,v=Value.agg #[.string ⟨nm.toArray⟩,.int .i64 qu,.int .i64 nx,.slice (some ad) sn s3,.slice gA gN gC,.slice t1 tn t3,.slice l1 ln l3]:=⟨_,rfl⟩
  have HAV:=Lib.hid hAVa
  have HTV:=Lib.hid hTV
  rw [← hAVa] at hFA
  rw [← hTV] at hFT
  clear hAVa hTV
  have hX1:Hid (∀ W,Below w6.heap.size w6 W→Below W1.heap.size W1 W):=fun W h=>H1_6.out.trans (h.mono H1_6.out.size)
  have hXa:Hid (∀ W,Below w6.heap.size w6 W→Below w4.heap.size w4 W):=fun W h=>H4_6.out.trans (h.mono H4_6.out.size)
  have hT7:Hid (∀ W,Below W1.heap.size W1 W→W.cell? ⟨w.heap.size,0,none⟩=some (.string ⟨nm.toArray⟩)∧W.cell? ⟨w.heap.size,1,none⟩=some (.int .i64 qu)∧W.cell? ⟨w.heap.size,2,none⟩=some (.int .i64 nx)∧W.cell? ⟨w.heap.size,3,none⟩=some (.slice (some ad) sn s3)∧W.cell? ⟨w.heap.size,4,none⟩=some (.slice gA gN gC)∧W.cell? ⟨w.heap.size,5,none⟩=some (.slice t1 tn t3)∧W.cell? ⟨w.heap.size,6,none⟩=some (.slice l1 ln l3)):=fun W h=>blk7 (hKt.out W h)
  have hFT2:Hid (∀ W,Below W1.heap.size W1 W→Calls Tryz.prog 10 #[TV,.string ⟨p.toArray⟩] W fun e w'=>e=.returned (.int .i64 (k:Int))∧Below W.heap.size W w'):=fun W h=>by
   have h1:=hFT.out W h p
   rw [hFK] at h1
   exact h1
  clear hFT hFK
  refine wp_region_good2 (by kernel_rfl) (by kernel_rfl) [(fun v _=>v=AVa),
   (fun v _=>v=.string ⟨tq.toArray⟩),
   (fun v _=>v=.int .i64 (j:Int)),
   (fun v _=>v=TV),
   (fun v _=>v=.string ⟨p.toArray⟩),
   (fun v _=>v=.int .i64 (k:Int)),
   (fun v _=>v=.int .i64 (j:Int)),
   (fun v _=>v=.int .i64 (k:Int))] ?_ ?_ ?_
  ·repeat' (first | exact stays_nil | refine stays_cons ?_ ?_ | exact Stays.pure)
  ·intro i oo ho m2 W hb0 hmi hcl hdeps AA KK hA hK
   rcases i with _ | _ | _ | _ | _ | _ | _ | _ | i
   ·injection ho with ho;subst ho
    have ef11:AA.tmps[11]?.getD undef=.pointer (some ⟨Ba,0,none⟩):=tF hA
    clear hA hdeps hcl hmi
    obtain ⟨c0,c1,c2,c3,c4,c5,c6⟩:=hSa.out W (hXa.out W hb0)
    have hK0:KK (AA.put (some 43) _) _:=hK (AVa) _ (Below.refl _ _) (Eq.refl _)
    clear hK
    rw [HAV.out] at hK0
    go_simp
    exact hK0
   ·injection ho with ho;subst ho
    have ef3:AA.tmps[3]?.getD undef=.string ⟨tq.toArray⟩:=tF hA
    exact zP
   ·injection ho with ho;subst ho
    have e0:=eD hdeps hA 0 43
    have e1:=eD hdeps hA 1 44
    clear hA hdeps hcl hmi
    have hKK:=hK
    clear hK
    go_simp
    refine (hFA.out W (hXa.out W hb0)).mono ?_
    rintro e w5 ⟨rfl,hbn⟩
    exact hKK _ _ hbn (Eq.refl _)
   ·injection ho with ho;subst ho
    have ef5:AA.tmps[5]?.getD undef=.pointer (some ⟨w.heap.size,0,none⟩):=tF hA
    clear hA hdeps hcl hmi
    obtain ⟨c0,c1,c2,c3,c4,c5,c6⟩:=hT7.out W (hX1.out W hb0)
    have hK0:KK (AA.put (some 46) _) _:=hK (TV) _ (Below.refl _ _) (Eq.refl _)
    clear hK
    rw [HTV.out] at hK0
    go_simp
    exact hK0
   ·injection ho with ho;subst ho
    have ef1:AA.tmps[1]?.getD undef=.string ⟨p.toArray⟩:=tF hA
    exact zP
   ·injection ho with ho;subst ho
    have e3:=eD hdeps hA 3 46
    have e4:=eD hdeps hA 4 47
    clear hA hdeps hcl hmi
    have hKK:=hK
    clear hK
    go_simp
    refine (hFT2.out W (hX1.out W hb0)).mono ?_
    rintro e w5 ⟨rfl,hbn⟩
    exact hKK _ _ hbn (Eq.refl _)
   ·injection ho with ho;subst ho
    have e2:=eD hdeps hA 2 45
    exact zP
   ·injection ho with ho;subst ho
    have e5:=eD hdeps hA 5 48
    exact zP
   ·simp at ho
  ·intro m W hbx hall
   have m0:=dV (hall 0 (by simp))
   have m1:=dV (hall 1 (by simp))
   have m2:=dV (hall 2 (by simp))
   have m3:=dV (hall 3 (by simp))
   have m4:=dV (hall 4 (by simp))
   have m5:=dV (hall 5 (by simp))
   have m6:=dV (hall 6 (by simp))
   have m7:=dV (hall 7 (by simp))
   rw [frameM_all (by kernel_rfl) [AVa,.string ⟨tq.toArray⟩,.int .i64 (j:Int),TV,.string ⟨p.toArray⟩,.int .i64 (k:Int),.int .i64 (j:Int),.int .i64 (k:Int)] rfl (fun i hi=>by rcases i with _ | _ | _ | _ | _ | _ | _ | _ | i <;> first | assumption | (simp at hi;omega))]
   clear hall m0 m1 m2 m3 m4 m5 m6 m7
   simp only [putAll,Act.put,zA,zC,zB]
   obtain ⟨w60,h60⟩:∃ W',W'=W:=⟨_,rfl⟩
   subst h60
   have HY1:=Lib.hid (hX1.out _ hbx)
   have HYa:=Lib.hid (hXa.out _ hbx)
   clear hbx hX1 hXa hFA hFT2
   go_upto_region 8 with (fail)
   have hX1:Hid (∀ W,Below w60.heap.size w60 W→Below W1.heap.size W1 W):=fun W h=>HY1.out.trans (h.mono HY1.out.size)
   have hXa:Hid (∀ W,Below w60.heap.size w60 W→Below w4.heap.size w4 W):=fun W h=>HYa.out.trans (h.mono HYa.out.size)
   have hSP:Hid (∀ W,Below W1.heap.size W1 W→Calls Tryz.prog 27 #[.agg #[.string ⟨x.path.toArray⟩,.string ⟨x.org.toArray⟩,.slice x.body.A x.body.n x.body.c,.slice (some az) x.snaps.n x.snaps.c,.slice x.own.A x.own.n x.own.c],.string ⟨n.toArray⟩] W fun e w'=>e=.returned (.int .i64 (i:Int))∧Below W.heap.size W w'):=fun W h=>by
    have g:=(hZR.out W h).2
    rw [← HKI.out.2.2.1]
    have hza:x.snaps.A=some az:=by
     exact HZA.out
    rw [← hza]
    exact refSnap_any _ _ _ _ x.snaps.l x.snaps.n g.snaps.1 x.snaps.A x.snaps.c n W w.heap.size g.snaps.2.2 (hrw.out W h).2.1 (by have:=hZN.out;omega)
   refine wp_region_last 16 (by kernel_rfl) (by kernel_rfl) (by kernel_rfl) (by decide) [(fun v _=>v=.pointer (some ⟨w.heap.size,3,none⟩)),
     (fun v _=>v=.slice (some ad) sn s3),
     (fun v _=>v=.int .i64 (k:Int)),
     (fun v _=>v=.pointer (some (ad.add (k*5)))),
     (fun v _=>v=.pointer (some ⟨(ad.add (k*5)).block,(ad.add (k*5)).off+3,none⟩)),
     (fun v _=>v=.slice (some az) x.snaps.n x.snaps.c),
     (fun v _=>v=.pointer (some ⟨w.heap.size,3,none⟩)),
     (fun v _=>v=.slice (some ad) sn s3),
     (fun v _=>v=.int .i64 (k:Int)),
     (fun v _=>v=.pointer (some (ad.add (k*5)))),
     (fun v _=>v=.agg #[.string ⟨x.path.toArray⟩,.string ⟨x.org.toArray⟩,.slice x.body.A x.body.n x.body.c,.slice (some az) x.snaps.n x.snaps.c,.slice x.own.A x.own.n x.own.c]),
     (fun v _=>v=.string ⟨n.toArray⟩),
     (fun v _=>v=.int .i64 (i:Int)),
     (fun v _=>v=.pointer (some (az.add (i*5)))),
     (fun v _=>v=.agg #[.string ⟨zz.nm.toArray⟩,.int .i64 zz.gd,.slice zz.body.A zz.body.n zz.body.c,.slice zz.tags.A zz.tags.n zz.tags.c,.slice zz.own.A zz.own.n zz.own.c]),
     (fun v W=>∃ g,v=.pointer (some ⟨g,0,none⟩)∧Blk W g 57 #[.string ⟨#[]⟩,.int .i64 0,.slice none 0 0,.slice none 0 0,.slice none 0 0]∧w60.heap.size≤g),
     (fun _ _=>True)] ?_ ?_ ?_
   ·repeat' (first | exact stays_nil | refine stays_cons ?_ ?_ | exact Stays.pure | exact (fun v W W' h hb=>let ⟨g,h1,h2,h3⟩:=h;⟨g,h1,h2.below hb h2.lt,h3⟩))
   ·intro i oo ho hiL mf W hb0 hmi hcl hdeps AA KK hA hK
    rcases i with _ | _ | _ | _ | _ | _ | _ | _ | _ | _ | _ | _ | _ | _ | _ | _ | _ | i
    ·injection ho with ho;subst ho
     have ef5:AA.tmps[5]?.getD undef=.pointer (some ⟨w.heap.size,0,none⟩):=tF hA
     exact zP
    ·injection ho with ho;subst ho
     have e0:=eD hdeps hA 0 49
     obtain ⟨c0,c1,c2,c3,c4,c5,c6⟩:=hT7.out W (hX1.out W hb0)
     exact zP
    ·injection ho with ho;subst ho
     have ef16:AA.tmps[16]?.getD undef=.int .i64 (k:Int):=tF hA
     exact zP
    ·injection ho with ho;subst ho
     have e1:=eD hdeps hA 1 50
     have e2:=eD hdeps hA 2 51
     exact zP
    ·injection ho with ho;subst ho
     have e3:=eD hdeps hA 3 52
     exact zP
    ·injection ho with ho;subst ho
     have e4:=eD hdeps hA 4 53
     obtain ⟨⟨q0,q1,q2,q3,q4⟩,r0,r1,r2,r3,r4⟩:=hSX.out W (hX1.out W hb0)
     exact zP
    ·injection ho with ho;subst ho
     have ef5:AA.tmps[5]?.getD undef=.pointer (some ⟨w.heap.size,0,none⟩):=tF hA
     exact zP
    ·injection ho with ho;subst ho
     have e6:=eD hdeps hA 6 55
     obtain ⟨c0,c1,c2,c3,c4,c5,c6⟩:=hT7.out W (hX1.out W hb0)
     exact zP
    ·injection ho with ho;subst ho
     have ef16:AA.tmps[16]?.getD undef=.int .i64 (k:Int):=tF hA
     exact zP
    ·injection ho with ho;subst ho
     have e7:=eD hdeps hA 7 56
     have e8:=eD hdeps hA 8 57
     exact zP
    ·injection ho with ho;subst ho
     have e9:=eD hdeps hA 9 58
     obtain ⟨⟨q0,q1,q2,q3,q4⟩,r0,r1,r2,r3,r4⟩:=hSX.out W (hX1.out W hb0)
     exact zP
    ·injection ho with ho;subst ho
     have ef2:AA.tmps[2]?.getD undef=.string ⟨n.toArray⟩:=tF hA
     exact zP
    ·injection ho with ho;subst ho
     have e10:=eD hdeps hA 10 59
     have e11:=eD hdeps hA 11 60
     clear hA hdeps hcl hmi hiL
     have hKK:=hK
     clear hK
     go_simp
     refine (hSP.out W (hX1.out W hb0)).mono ?_
     rintro e w5 ⟨rfl,hbn⟩
     exact hKK _ _ hbn (Eq.refl _)
    ·injection ho with ho;subst ho
     have e5:=eD hdeps hA 5 54
     have e12:=eD hdeps hA 12 61
     exact zP
    ·injection ho with ho;subst ho
     have e13:=eD hdeps hA 13 62
     obtain ⟨⟨q0,q1,q2,q3,q4⟩,r0,r1,r2,r3,r4⟩:=hSX.out W (hX1.out W hb0)
     exact zP
    ·injection ho with ho;subst ho
     clear hA hdeps hcl hmi hiL
     have hK0:KK (AA.put (some 17) _) _:=hK (.pointer (some ⟨W.heap.size,0,none⟩)) (W.alloc (.cells #[.string ⟨#[]⟩,.int .i64 0,.slice none 0 0,.slice none 0 0,.slice none 0 0] 57)) ((Below.refl _ _).alloc (Nat.le_refl _) _) ⟨_,rfl,Blk.new W 57 #[.string ⟨#[]⟩,.int .i64 0,.slice none 0 0,.slice none 0 0,.slice none 0 0],hb0.size⟩
     clear hK
     go_simp
     exact hK0
    ·exact absurd rfl hiL
    ·simp at ho
   ·intro oo ho mf W hmL hb0 hall AA KK hA hAf hK
    injection ho with ho;subst ho
    have zm0:=dV (hall 0 (by simp) (by decide))
    have zm1:=dV (hall 1 (by simp) (by decide))
    have zm2:=dV (hall 2 (by simp) (by decide))
    have zm3:=dV (hall 3 (by simp) (by decide))
    have zm4:=dV (hall 4 (by simp) (by decide))
    have zm5:=dV (hall 5 (by simp) (by decide))
    have zm6:=dV (hall 6 (by simp) (by decide))
    have zm7:=dV (hall 7 (by simp) (by decide))
    have zm8:=dV (hall 8 (by simp) (by decide))
    have zm9:=dV (hall 9 (by simp) (by decide))
    have zm10:=dV (hall 10 (by simp) (by decide))
    have zm11:=dV (hall 11 (by simp) (by decide))
    have zm12:=dV (hall 12 (by simp) (by decide))
    have zm13:=dV (hall 13 (by simp) (by decide))
    have zm14:=dV (hall 14 (by simp) (by decide))
    obtain ⟨x15,zm15,hg15⟩:=hall 15 (by simp) (by decide)
    have hg15:∃ g,x15=.pointer (some ⟨g,0,none⟩)∧Blk W g 57 #[.string ⟨#[]⟩,.int .i64 0,.slice none 0 0,.slice none 0 0,.slice none 0 0]∧w60.heap.size≤g:=hg15
    obtain ⟨g15,rfl,ho15,hl15⟩:=hg15
    have e15:AA.tmps[17]?.getD undef=.pointer (some ⟨g15,0,none⟩):=tO hA zm15
    have e14:AA.tmps[63]?.getD undef=.agg #[.string ⟨zz.nm.toArray⟩,.int .i64 zz.gd,.slice zz.body.A zz.body.n zz.body.c,.slice zz.tags.A zz.tags.n zz.tags.c,.slice zz.own.A zz.own.n zz.own.c]:=tO hA zm14
    have hK0:=hK undef (W.setCells g15 0 #[.string ⟨zz.nm.toArray⟩,.int .i64 zz.gd,.slice zz.body.A zz.body.n zz.body.c,.slice zz.tags.A zz.tags.n zz.tags.c,.slice zz.own.A zz.own.n zz.own.c].toList)
    clear hA hAf hK hall hmL
    have hth:=ho15.there 5 (by decide)
    rw [if_pos (show Region.wanted _ _=true from rfl)]
    refine wp_store_mid 57 (.tmp 17) (.tmp 63) rfl g15 0 #[.string ⟨zz.nm.toArray⟩,.int .i64 zz.gd,.slice zz.body.A zz.body.n zz.body.c,.slice zz.tags.A zz.tags.n zz.tags.c,.slice zz.own.A zz.own.n zz.own.c] (by simpa [Act.eval] using e15) (by simpa [Act.eval] using e14) hth (by kernel_rfl) (by simp [Value.oneCell']) ?_
    refine hK0 ?_
    clear hK0 e15 e14
    rw [frameM_all (by kernel_rfl) [.pointer (some ⟨w.heap.size,3,none⟩),.slice (some ad) sn s3,.int .i64 (k:Int),.pointer (some (ad.add (k*5))),.pointer (some ⟨(ad.add (k*5)).block,(ad.add (k*5)).off+3,none⟩),.slice (some az) x.snaps.n x.snaps.c,.pointer (some ⟨w.heap.size,3,none⟩),.slice (some ad) sn s3,.int .i64 (k:Int),.pointer (some (ad.add (k*5))),.agg #[.string ⟨x.path.toArray⟩,.string ⟨x.org.toArray⟩,.slice x.body.A x.body.n x.body.c,.slice (some az) x.snaps.n x.snaps.c,.slice x.own.A x.own.n x.own.c],.string ⟨n.toArray⟩,.int .i64 (i:Int),.pointer (some (az.add (i*5))),.agg #[.string ⟨zz.nm.toArray⟩,.int .i64 zz.gd,.slice zz.body.A zz.body.n zz.body.c,.slice zz.tags.A zz.tags.n zz.tags.c,.slice zz.own.A zz.own.n zz.own.c],.pointer (some ⟨g15,0,none⟩),undef] rfl (fun i hi=>by rcases i with _ | _ | _ | _ | _ | _ | _ | _ | _ | _ | _ | _ | _ | _ | _ | _ | _ | i <;> first | (rw [upd_self];rfl) | (rw [upd_ne _ _ (by decide)];assumption) | (simp at hi;omega))]
    clear zm0 zm1 zm2 zm3 zm4 zm5 zm6 zm7 zm8 zm9 zm10 zm11 zm12 zm13 zm14 zm15
    simp only [putAll,Act.put,zA,zC,zB]
    have kZ:Blk (W.setCells g15 0 #[.string ⟨zz.nm.toArray⟩,.int .i64 zz.gd,.slice zz.body.A zz.body.n zz.body.c,.slice zz.tags.A zz.tags.n zz.tags.c,.slice zz.own.A zz.own.n zz.own.c].toList) g15 57 #[.string ⟨zz.nm.toArray⟩,.int .i64 zz.gd,.slice zz.body.A zz.body.n zz.body.c,.slice zz.tags.A zz.tags.n zz.tags.c,.slice zz.own.A zz.own.n zz.own.c]:=by
     have k4:=Blk.setCells (g:=g15) [.string ⟨zz.nm.toArray⟩,.int .i64 zz.gd,.slice zz.body.A zz.body.n zz.body.c,.slice zz.tags.A zz.tags.n zz.tags.c,.slice zz.own.A zz.own.n zz.own.c] W [] [.string ⟨#[]⟩,.int .i64 0,.slice none 0 0,.slice none 0 0,.slice none 0 0] rfl ho15
     simp only [List.length_nil,List.nil_append] at k4
     exact k4
    have hb1:Below W1.heap.size W1 (W.setCells g15 0 #[.string ⟨zz.nm.toArray⟩,.int .i64 zz.gd,.slice zz.body.A zz.body.n zz.body.c,.slice zz.tags.A zz.tags.n zz.tags.c,.slice zz.own.A zz.own.n zz.own.c].toList):=below_setCells (by have:=HY1.out.size;omega) _ _ _ (hX1.out W hb0)
    have hba:Below w4.heap.size w4 (W.setCells g15 0 #[.string ⟨zz.nm.toArray⟩,.int .i64 zz.gd,.slice zz.body.A zz.body.n zz.body.c,.slice zz.tags.A zz.tags.n zz.tags.c,.slice zz.own.A zz.own.n zz.own.c].toList):=below_setCells (by have:=HYa.out.size;omega) _ _ _ (hXa.out W hb0)
    obtain ⟨w61,h61⟩:∃ W',W'=W.setCells g15 0 #[.string ⟨zz.nm.toArray⟩,.int .i64 zz.gd,.slice zz.body.A zz.body.n zz.body.c,.slice zz.tags.A zz.tags.n zz.tags.c,.slice zz.own.A zz.own.n zz.own.c].toList:=⟨_,rfl⟩
    rw [← h61] at kZ hb1 hba ⊢
    obtain ⟨gz,hgz⟩:∃ g,g=g15:=⟨_,rfl⟩
    rw [← hgz] at kZ ⊢
    have HZ1:=Lib.hid hb1
    have HZa:=Lib.hid hba
    have hKZ:Hid (∀ W,Below w61.heap.size w61 W→Blk W gz 57 #[.string ⟨zz.nm.toArray⟩,.int .i64 zz.gd,.slice zz.body.A zz.body.n zz.body.c,.slice zz.tags.A zz.tags.n zz.tags.c,.slice zz.own.A zz.own.n zz.own.c]):=fun W h=>kZ.below h kZ.lt
    clear kZ hb1 hba h61 hgz ho15 hl15 hb0 hX1 hXa hSP
    obtain ⟨c0,c1,c2,c3,c4,c5,c6⟩:=hSa.out w61 HZa.out
    have hc:=hRA.out w61 HZa.out
    go_wp2_with fail
    refine hc.mono ?_
    clear hc c0 c1 c2 c3 c4 c5 c6 hRA
    rintro e w62 hone
    obtain ⟨y,rfl,hb,hyo⟩:=hone.one
    have HW62:=Lib.hid hb
    have HYO:=Lib.hid hyo
    clear hb hyo hone
    obtain ⟨bv0,bv1,bv2,⟨bv3,bv4,bv5,bl0⟩,⟨bv6,bv7,bv8,bl1⟩,⟨bv9,bv10,bv11,bl2⟩,⟨bv12,bv13,bv14,bl3⟩⟩:=y
    simp only [TenR.val,TenR.cells,FS.val,strV]
    have hb63:=(Below.refl w62.heap.size w62).alloc (Nat.le_refl _) (.cells #[.string ⟨bv0.toArray⟩,.int .i64 bv1,.int .i64 bv2,.slice bv3 bv4 bv5,.slice bv6 bv7 bv8,.slice bv9 bv10 bv11,.slice bv12 bv13 bv14] 27)
    have kb:=Blk.new w62 27 #[.string ⟨bv0.toArray⟩,.int .i64 bv1,.int .i64 bv2,.slice bv3 bv4 bv5,.slice bv6 bv7 bv8,.slice bv9 bv10 bv11,.slice bv12 bv13 bv14]
    obtain ⟨Bb,hBb⟩:∃ g,g=w62.heap.size:=⟨_,rfl⟩
    obtain ⟨w63,hWn⟩:∃ W,W=w62.alloc (.cells #[.string ⟨bv0.toArray⟩,.int .i64 bv1,.int .i64 bv2,.slice bv3 bv4 bv5,.slice bv6 bv7 bv8,.slice bv9 bv10 bv11,.slice bv12 bv13 bv14] 27):=⟨_,rfl⟩
    rw [← hWn] at hb63 kb
    rw [← hBb] at kb
    have hb6163:=HW62.out.trans (hb63.mono HW62.out.size)
    have HV1x:=Lib.hid (HZ1.out.trans (hb6163.mono HZ1.out.size))
    have HVa:=Lib.hid (HZa.out.trans (hb6163.mono HZa.out.size))
    have HVz:=Lib.hid hb6163
    have HB63:=Lib.hid hb63
    have KB:=Lib.hid kb
    clear hb6163
    obtain ⟨gQ,csA,hgA,-,-⟩:=(hOa.out w63 HVa.out).sets.blk (by have h:av4=al0.length:=(hOa.out w63 HVa.out).sets.1;have h2:=HKI.out.2.2.2;show 0<av4;omega)
    have HGA:Hid (av3=some ⟨gQ,0,none⟩):=hgA
    have HJB:Hid ((j:Int)<(av4:Int)∧(0:Int)≤(j:Int)):=by
     have h:=(hOa.out w63 HVa.out).sets.1
     have h2:=HKI.out.2.2.2
     have h:av4=al0.length:=h
     exact ⟨by omega,by omega⟩
    clear hgA
    have hsp1:(⟨p.toArray⟩:ByteArray).size≤500000000:=by have:=HLN.out;show p.toArray.size≤_;simp;omega
    have hsp2:(⟨n.toArray⟩:ByteArray).size≤500000000:=by have:=HLN.out;show n.toArray.size≤_;simp;omega
    have hsp3:(⟨ot.toArray⟩:ByteArray).size≤500000000:=by have:=HLN.out;show ot.toArray.size≤_;simp;omega
    have hsl1:p.length≤500000000:=HLN.out.1
    have hsl2:n.length≤500000000:=HLN.out.2.1
    have hsl3:ot.length≤500000000:=HLN.out.2.2.2
    by_cases hE3:E3=0
    ·subst hE3
     obtain ⟨hCE,xs,hgs,hos⟩:=HREN.out ot C3 HV3.out
     obtain ⟨hTB,hCB⟩:=HYO.out rfl
     replace hCB:TenR.con ⟨bv0,bv1,bv2,⟨bv3,bv4,bv5,bl0⟩,⟨bv6,bv7,bv8,bl1⟩,⟨bv9,bv10,bv11,bl2⟩,⟨bv12,bv13,bv14,bl3⟩⟩=C3:=hCB
     have hTB3:=hTB.below hb63
     obtain ⟨hjb3,hbc⟩:=at_getC (l:=bl0) (j:=j) (c:=xs) (by have h:=hgs;rw [← hCB] at h;exact h)
     obtain ⟨gB,csB,hgB,-,-⟩:=hTB3.sets.blk (by have h:bv4=bl0.length:=hTB3.sets.1;show 0<bv4;omega)
     have hgB:bv3=some ⟨gB,0,none⟩:=hgB
     obtain ⟨-,-,-,-,g1,-,-,-⟩:=row_cells hTB3.sets hjb3 hgB
     have hob:(bl0[j]'hjb3).org=(p++64 :: ot):=by have h:=congrArg SetC.org hbc;exact h.trans hos
     simp only [hob] at g1
     have hjb4:(j:Int)<(bv4:Int):=by have h:bv4=bl0.length:=hTB3.sets.1;omega
     have hj0:(0:Int)≤(j:Int):=by omega
     have hsz3:C3.sz:=rename_sz hszC.out p n ot (by have:=HLN.out;omega) C3 HV3.out
     have hck:=check_said (y:=⟨bv0,bv1,bv2,⟨bv3,bv4,bv5,bl0⟩,⟨bv6,bv7,bv8,bl1⟩,⟨bv9,bv10,bv11,bl2⟩,⟨bv12,bv13,bv14,bl3⟩⟩) (W:=w63) hTB3.rd hCB hsz3 hCE
     have hck:Calls Tryz.prog 18 #[.agg #[.string ⟨bv0.toArray⟩,.int .i64 bv1,.int .i64 bv2,.slice bv3 bv4 bv5,.slice bv6 bv7 bv8,.slice bv9 bv10 bv11,.slice bv12 bv13 bv14]] w63 fun e w'=>e=.returned (.int .i64 0)∧Below w63.heap.size w63 w':=hck
     rw [hgB] at hck
     have hcc:=cat_at p ot
     have d0:=kb.cell 0
     have d1:=kb.cell 1
     have d2:=kb.cell 2
     have d3:=kb.cell 3
     have d4:=kb.cell 4
     have d5:=kb.cell 5
     have d6:=kb.cell 6
     simp only [zF,zD,zE] at d0 d1 d2 d3 d4 d5 d6
     rw [hgB] at d3
     have HCK:=Lib.hid hck
     clear hCE hgs hos hTB hCB hTB3 hjb3 hbc hob hsz3 hck hb63 kb hgB
     go_wp2_with (refine wpList_store_new w62 rfl 27 (.tmp 18) (.tmp 70) rfl 27 [.string ⟨#[]⟩,.int .i64 0,.int .i64 0,.slice none 0 0,.slice none 0 0,.slice none 0 0,.slice none 0 0] [.string ⟨bv0.toArray⟩,.int .i64 bv1,.int .i64 bv2,.slice bv3 bv4 bv5,.slice bv6 bv7 bv8,.slice bv9 bv10 bv11,.slice bv12 bv13 bv14] rfl rfl rfl (by kernel_rfl) (by simp [Value.oneCell']) ?_;rw [show ([.string ⟨bv0.toArray⟩,.int .i64 bv1,.int .i64 bv2,.slice bv3 bv4 bv5,.slice bv6 bv7 bv8,.slice bv9 bv10 bv11,.slice bv12 bv13 bv14]:List Value).toArray=#[.string ⟨bv0.toArray⟩,.int .i64 bv1,.int .i64 bv2,.slice bv3 bv4 bv5,.slice bv6 bv7 bv8,.slice bv9 bv10 bv11,.slice bv12 bv13 bv14] from rfl,← hWn,← hBb];clear hWn hBb)
     refine HCK.out.mono ?_
     clear HCK d0 d1 d2 d3 d4 d5 d6 g1 hjb4 hj0 hcc
     rintro e w64 ⟨rfl,hb⟩
     have HU1:=Lib.hid (HV1x.out.trans (hb.mono HV1x.out.size))
     have HUa:=Lib.hid (HVa.out.trans (hb.mono HVa.out.size))
     have HUz:=Lib.hid (HVz.out.trans (hb.mono HVz.out.size))
     clear hb
     have hS12:Hid (∀ W,Below w64.heap.size w64 W→W.cell? ⟨Ba,3,none⟩=some (.slice (some ⟨gQ,0,none⟩) av4 av5)∧W.cell? ⟨gQ,j*5+2,none⟩=some (.slice xa.body.A xa.body.n xa.body.c)∧W.cell? ⟨gQ,j*5+1,none⟩=some (.string ⟨(p++64 :: n).toArray⟩)∧W.cell? ⟨gz,2,none⟩=some (.slice zz.body.A zz.body.n zz.body.c)):=fun W h=>by
      have h2:=HUa.out.trans (h.mono HUa.out.size)
      have h3:=(hOa.out W h2).sets
      obtain ⟨-,-,-,-,g1,g2,-,-⟩:=row_cells h3 HKI.out.2.2.2 HGA.out
      simp only [← HXE.out] at g1 g2
      have h4:=(hSa.out W h2).2.2.2.1
      rw [HGA.out] at h4
      have h5:xa.org=(p++64 :: n):=congrArg SetC.org HXA.out
      rw [h5] at g1
      have h6:=(hKZ.out W (HUz.out.trans (h.mono HUz.out.size))).cell 2
      exact ⟨h4,g2,g1,h6⟩
     have hSM:Hid (∀ W,Below w64.heap.size w64 W→Calls Tryz.prog 13 #[.slice xa.body.A xa.body.n xa.body.c,.slice zz.body.A zz.body.n zz.body.c] W fun e w'=>e=.returned (.bool true)∧Below W.heap.size W w'):=fun W h=>by
      have h2:=HUa.out.trans (h.mono HUa.out.size)
      have g1:=((hOa.out W h2).eachS _ (List.getElem_mem HKI.out.2.2.2)).body.rd
      simp only [← HXE.out] at g1
      have h5:xa.body.l=zz.body.l:=congrArg SetC.body HXA.out
      have g2:=(hZR.out W (HU1.out.trans (h.mono HU1.out.size))).1.body
      have hnn:xa.body.n=zz.body.n:=by rw [g1.1,g2.1,h5]
      have g3:=g1.2.2
      rw [h5,hnn] at g3
      rw [hnn]
      exact rsameT_any zz.body.l zz.body.n g2.1 xa.body.A zz.body.A xa.body.c zz.body.c W W.heap.size g3 (g2.2.2.more (hrw.out W (HU1.out.trans (h.mono HU1.out.size))).2.1) (by have:=hZN.out;omega)
     have hjb:=HJB.out
     go_upto_region 12 with (fail)
     refine wp_region_good2 (by kernel_rfl) (by kernel_rfl) [(fun v _=>v=.int .i64 44),
      (fun v _=>v=.bool true),
      (fun v _=>v=.bool true),
      (fun v _=>v=.pointer (some ⟨Ba,3,none⟩)),
      (fun v _=>v=.slice (some ⟨gQ,0,none⟩) av4 av5),
      (fun v _=>v=.int .i64 (j:Int)),
      (fun v _=>v=.pointer (some ⟨gQ,j*5,none⟩)),
      (fun v _=>v=.pointer (some ⟨gQ,j*5+2,none⟩)),
      (fun v _=>v=.slice xa.body.A xa.body.n xa.body.c),
      (fun v _=>v=.pointer (some ⟨gz,2,none⟩)),
      (fun v _=>v=.slice zz.body.A zz.body.n zz.body.c),
      (fun v _=>v=.bool true),
      (fun v _=>v=.bool true),
      (fun v _=>v=.bool true),
      (fun v _=>v=.pointer (some ⟨Ba,3,none⟩)),
      (fun v _=>v=.slice (some ⟨gQ,0,none⟩) av4 av5),
      (fun v _=>v=.int .i64 (j:Int)),
      (fun v _=>v=.pointer (some ⟨gQ,j*5,none⟩)),
      (fun v _=>v=.pointer (some ⟨gQ,j*5+1,none⟩)),
      (fun v _=>v=.string ⟨(p++64 :: n).toArray⟩),
      (fun v _=>v=.string ⟨p.toArray⟩),
      (fun v _=>v=.string ((⟨p.toArray⟩:ByteArray)++(⟨#[64]⟩:ByteArray))),
      (fun v _=>v=.string ⟨n.toArray⟩),
      (fun v _=>v=.string ⟨(p++64 :: n).toArray⟩),
      (fun v _=>v=.bool true),
      (fun v _=>v=.bool true),
      (fun v _=>v=.bool true)] ?_ ?_ ?_
     ·repeat' (first | exact stays_nil | refine stays_cons ?_ ?_ | exact Stays.pure)
     ·intro i oo ho m2 W hb0 hmi hcl hdeps AA KK hA hK
      rcases i with _ | _ | _ | _ | _ | _ | _ | _ | _ | _ | _ | _ | _ | _ | _ | _ | _ | _ | _ | _ | _ | _ | _ | _ | _ | _ | _ | i
      ·injection ho with ho;subst ho
       have ef14:AA.tmps[14]?.getD undef=.int .i64 44:=tF hA
       exact zP
      ·injection ho with ho;subst ho
       have e0:=eD hdeps hA 0 92
       exact zP
      ·injection ho with ho;subst ho
       have e1:=eD hdeps hA 1 93
       exact zP
      ·injection ho with ho;subst ho
       have e2:=eD hdeps hA 2 94
       have ef11:AA.tmps[11]?.getD undef=.pointer (some ⟨Ba,0,none⟩):=tF hA
       clear hA hdeps hcl hmi
       rw [if_pos (wanted_of (k:=94) rfl rfl e2)]
       have hK0:KK (AA.put (some 95) _) _:=hK (.pointer (some ⟨Ba,3,none⟩)) _ (Below.refl _ _) (Eq.refl _)
       clear hK
       go_simp
       exact hK0
      ·injection ho with ho;subst ho
       have e2:=eD hdeps hA 2 94
       have e3:=eD hdeps hA 3 95
       clear hA hdeps hcl hmi
       rw [if_pos (wanted_of (k:=94) rfl rfl e2)]
       obtain ⟨c3,x2,x1,z2⟩:=hS12.out W hb0
       have hK0:KK (AA.put (some 96) _) _:=hK (.slice (some ⟨gQ,0,none⟩) av4 av5) _ (Below.refl _ _) (Eq.refl _)
       clear hK
       go_simp
       exact hK0
      ·injection ho with ho;subst ho
       have e2:=eD hdeps hA 2 94
       have ef15:AA.tmps[15]?.getD undef=.int .i64 (j:Int):=tF hA
       clear hA hdeps hcl hmi
       rw [if_pos (wanted_of (k:=94) rfl rfl e2)]
       have hK0:KK (AA.put (some 97) _) _:=hK (.int .i64 (j:Int)) _ (Below.refl _ _) (Eq.refl _)
       clear hK
       go_simp
       exact hK0
      ·injection ho with ho;subst ho
       have e2:=eD hdeps hA 2 94
       have e4:=eD hdeps hA 4 96
       have e5:=eD hdeps hA 5 97
       clear hA hdeps hcl hmi
       rw [if_pos (wanted_of (k:=94) rfl rfl e2)]
       have hK0:KK (AA.put (some 98) _) _:=hK (.pointer (some ⟨gQ,j*5,none⟩)) _ (Below.refl _ _) (Eq.refl _)
       clear hK
       go_simp
       exact hK0
      ·injection ho with ho;subst ho
       have e2:=eD hdeps hA 2 94
       have e6:=eD hdeps hA 6 98
       clear hA hdeps hcl hmi
       rw [if_pos (wanted_of (k:=94) rfl rfl e2)]
       have hK0:KK (AA.put (some 99) _) _:=hK (.pointer (some ⟨gQ,j*5+2,none⟩)) _ (Below.refl _ _) (Eq.refl _)
       clear hK
       go_simp
       exact hK0
      ·injection ho with ho;subst ho
       have e2:=eD hdeps hA 2 94
       have e7:=eD hdeps hA 7 99
       clear hA hdeps hcl hmi
       rw [if_pos (wanted_of (k:=94) rfl rfl e2)]
       obtain ⟨c3,x2,x1,z2⟩:=hS12.out W hb0
       have hK0:KK (AA.put (some 100) _) _:=hK (.slice xa.body.A xa.body.n xa.body.c) _ (Below.refl _ _) (Eq.refl _)
       clear hK
       go_simp
       exact hK0
      ·injection ho with ho;subst ho
       have e2:=eD hdeps hA 2 94
       have ef17:AA.tmps[17]?.getD undef=.pointer (some ⟨gz,0,none⟩):=tF hA
       clear hA hdeps hcl hmi
       rw [if_pos (wanted_of (k:=94) rfl rfl e2)]
       have hK0:KK (AA.put (some 101) _) _:=hK (.pointer (some ⟨gz,2,none⟩)) _ (Below.refl _ _) (Eq.refl _)
       clear hK
       go_simp
       exact hK0
      ·injection ho with ho;subst ho
       have e2:=eD hdeps hA 2 94
       have e9:=eD hdeps hA 9 101
       clear hA hdeps hcl hmi
       rw [if_pos (wanted_of (k:=94) rfl rfl e2)]
       obtain ⟨c3,x2,x1,z2⟩:=hS12.out W hb0
       have hK0:KK (AA.put (some 102) _) _:=hK (.slice zz.body.A zz.body.n zz.body.c) _ (Below.refl _ _) (Eq.refl _)
       clear hK
       go_simp
       exact hK0
      ·injection ho with ho;subst ho
       have e2:=eD hdeps hA 2 94
       have e8:=eD hdeps hA 8 100
       have e10:=eD hdeps hA 10 102
       clear hA hdeps hcl hmi
       rw [if_pos (wanted_of (k:=94) rfl rfl e2)]
       have hKK:=hK
       clear hK
       go_simp
       refine (hSM.out W hb0).mono ?_
       rintro e w5 ⟨rfl,hbn⟩
       exact hKK _ _ hbn (Eq.refl _)
      ·injection ho with ho;subst ho
       have e2:=eD hdeps hA 2 94
       have e11:=eD hdeps hA 11 103
       exact zP
      ·injection ho with ho;subst ho
       have e12:=eD hdeps hA 12 104
       exact zP
      ·injection ho with ho;subst ho
       have e13:=eD hdeps hA 13 105
       have ef11:AA.tmps[11]?.getD undef=.pointer (some ⟨Ba,0,none⟩):=tF hA
       clear hA hdeps hcl hmi
       rw [if_pos (wanted_of (k:=105) rfl rfl e13)]
       have hK0:KK (AA.put (some 106) _) _:=hK (.pointer (some ⟨Ba,3,none⟩)) _ (Below.refl _ _) (Eq.refl _)
       clear hK
       go_simp
       exact hK0
      ·injection ho with ho;subst ho
       have e13:=eD hdeps hA 13 105
       have e14:=eD hdeps hA 14 106
       clear hA hdeps hcl hmi
       rw [if_pos (wanted_of (k:=105) rfl rfl e13)]
       obtain ⟨c3,x2,x1,z2⟩:=hS12.out W hb0
       have hK0:KK (AA.put (some 107) _) _:=hK (.slice (some ⟨gQ,0,none⟩) av4 av5) _ (Below.refl _ _) (Eq.refl _)
       clear hK
       go_simp
       exact hK0
      ·injection ho with ho;subst ho
       have e13:=eD hdeps hA 13 105
       have ef15:AA.tmps[15]?.getD undef=.int .i64 (j:Int):=tF hA
       clear hA hdeps hcl hmi
       rw [if_pos (wanted_of (k:=105) rfl rfl e13)]
       have hK0:KK (AA.put (some 108) _) _:=hK (.int .i64 (j:Int)) _ (Below.refl _ _) (Eq.refl _)
       clear hK
       go_simp
       exact hK0
      ·injection ho with ho;subst ho
       have e13:=eD hdeps hA 13 105
       have e15:=eD hdeps hA 15 107
       have e16:=eD hdeps hA 16 108
       clear hA hdeps hcl hmi
       rw [if_pos (wanted_of (k:=105) rfl rfl e13)]
       have hK0:KK (AA.put (some 109) _) _:=hK (.pointer (some ⟨gQ,j*5,none⟩)) _ (Below.refl _ _) (Eq.refl _)
       clear hK
       go_simp
       exact hK0
      ·injection ho with ho;subst ho
       have e13:=eD hdeps hA 13 105
       have e17:=eD hdeps hA 17 109
       clear hA hdeps hcl hmi
       rw [if_pos (wanted_of (k:=105) rfl rfl e13)]
       have hK0:KK (AA.put (some 110) _) _:=hK (.pointer (some ⟨gQ,j*5+1,none⟩)) _ (Below.refl _ _) (Eq.refl _)
       clear hK
       go_simp
       exact hK0
      ·injection ho with ho;subst ho
       have e13:=eD hdeps hA 13 105
       have e18:=eD hdeps hA 18 110
       clear hA hdeps hcl hmi
       rw [if_pos (wanted_of (k:=105) rfl rfl e13)]
       obtain ⟨c3,x2,x1,z2⟩:=hS12.out W hb0
       have hK0:KK (AA.put (some 111) _) _:=hK (.string ⟨(p++64 :: n).toArray⟩) _ (Below.refl _ _) (Eq.refl _)
       clear hK
       go_simp
       exact hK0
      ·injection ho with ho;subst ho
       have e13:=eD hdeps hA 13 105
       have ef1:AA.tmps[1]?.getD undef=.string ⟨p.toArray⟩:=tF hA
       clear hA hdeps hcl hmi
       rw [if_pos (wanted_of (k:=105) rfl rfl e13)]
       have hK0:KK (AA.put (some 112) _) _:=hK (.string ⟨p.toArray⟩) _ (Below.refl _ _) (Eq.refl _)
       clear hK
       go_simp
       exact hK0
      ·injection ho with ho;subst ho
       have e13:=eD hdeps hA 13 105
       have e20:=eD hdeps hA 20 112
       clear hA hdeps hcl hmi
       rw [if_pos (wanted_of (k:=105) rfl rfl e13)]
       have hK0:KK (AA.put (some 113) _) _:=hK (.string ((⟨p.toArray⟩:ByteArray)++(⟨#[64]⟩:ByteArray))) _ (Below.refl _ _) (Eq.refl _)
       clear hK
       go_simp
       rw [if_neg (by omega)]
       go_simp
       exact hK0
      ·injection ho with ho;subst ho
       have e13:=eD hdeps hA 13 105
       have ef2:AA.tmps[2]?.getD undef=.string ⟨n.toArray⟩:=tF hA
       clear hA hdeps hcl hmi
       rw [if_pos (wanted_of (k:=105) rfl rfl e13)]
       have hK0:KK (AA.put (some 114) _) _:=hK (.string ⟨n.toArray⟩) _ (Below.refl _ _) (Eq.refl _)
       clear hK
       go_simp
       exact hK0
      ·injection ho with ho;subst ho
       have e13:=eD hdeps hA 13 105
       have e21:=eD hdeps hA 21 113
       have e22:=eD hdeps hA 22 114
       clear hA hdeps hcl hmi
       rw [if_pos (wanted_of (k:=105) rfl rfl e13)]
       have hK0:KK (AA.put (some 115) _) _:=hK (.string ⟨(p++64 :: n).toArray⟩) _ (Below.refl _ _) (Eq.refl _)
       clear hK
       rw [← cat_at] at hK0
       go_simp
       rw [if_neg (by omega)]
       go_simp
       exact hK0
      ·injection ho with ho;subst ho
       have e13:=eD hdeps hA 13 105
       have e19:=eD hdeps hA 19 111
       have e23:=eD hdeps hA 23 115
       clear hA hdeps hcl hmi
       rw [if_pos (wanted_of (k:=105) rfl rfl e13)]
       have hK0:KK (AA.put (some 116) _) _:=hK (.bool true) _ (Below.refl _ _) (Eq.refl _)
       clear hK
       go_simp
       exact hK0
      ·injection ho with ho;subst ho
       have e13:=eD hdeps hA 13 105
       have e24:=eD hdeps hA 24 116
       exact zP
      ·injection ho with ho;subst ho
       have e25:=eD hdeps hA 25 117
       exact zP
      ·simp at ho
     ·intro m W hbx hall
      have m0:=dV (hall 0 (by simp))
      have m1:=dV (hall 1 (by simp))
      have m2:=dV (hall 2 (by simp))
      have m3:=dV (hall 3 (by simp))
      have m4:=dV (hall 4 (by simp))
      have m5:=dV (hall 5 (by simp))
      have m6:=dV (hall 6 (by simp))
      have m7:=dV (hall 7 (by simp))
      have m8:=dV (hall 8 (by simp))
      have m9:=dV (hall 9 (by simp))
      have m10:=dV (hall 10 (by simp))
      have m11:=dV (hall 11 (by simp))
      have m12:=dV (hall 12 (by simp))
      have m13:=dV (hall 13 (by simp))
      have m14:=dV (hall 14 (by simp))
      have m15:=dV (hall 15 (by simp))
      have m16:=dV (hall 16 (by simp))
      have m17:=dV (hall 17 (by simp))
      have m18:=dV (hall 18 (by simp))
      have m19:=dV (hall 19 (by simp))
      have m20:=dV (hall 20 (by simp))
      have m21:=dV (hall 21 (by simp))
      have m22:=dV (hall 22 (by simp))
      have m23:=dV (hall 23 (by simp))
      have m24:=dV (hall 24 (by simp))
      have m25:=dV (hall 25 (by simp))
      have m26:=dV (hall 26 (by simp))
      rw [frameM_all (by kernel_rfl) [.int .i64 44,.bool true,.bool true,.pointer (some ⟨Ba,3,none⟩),.slice (some ⟨gQ,0,none⟩) av4 av5,.int .i64 (j:Int),.pointer (some ⟨gQ,j*5,none⟩),.pointer (some ⟨gQ,j*5+2,none⟩),.slice xa.body.A xa.body.n xa.body.c,.pointer (some ⟨gz,2,none⟩),.slice zz.body.A zz.body.n zz.body.c,.bool true,.bool true,.bool true,.pointer (some ⟨Ba,3,none⟩),.slice (some ⟨gQ,0,none⟩) av4 av5,.int .i64 (j:Int),.pointer (some ⟨gQ,j*5,none⟩),.pointer (some ⟨gQ,j*5+1,none⟩),.string ⟨(p++64 :: n).toArray⟩,.string ⟨p.toArray⟩,.string ((⟨p.toArray⟩:ByteArray)++(⟨#[64]⟩:ByteArray)),.string ⟨n.toArray⟩,.string ⟨(p++64 :: n).toArray⟩,.bool true,.bool true,.bool true] rfl (fun i hi=>by rcases i with _ | _ | _ | _ | _ | _ | _ | _ | _ | _ | _ | _ | _ | _ | _ | _ | _ | _ | _ | _ | _ | _ | _ | _ | _ | _ | _ | i <;> first | assumption | (simp at hi;omega))]
      clear hall m0 m1 m2 m3 m4 m5 m6 m7 m8 m9 m10 m11 m12 m13 m14 m15 m16 m17 m18 m19 m20 m21 m22 m23 m24 m25 m26
      simp only [putAll,Act.put,zA,zC,zB]
      go_wp2_with fail
      go_ret
      exact ⟨rfl,hBW.out _ (HU1.out.trans (hbx.mono HU1.out.size))⟩
    ·clear hb63 kb
     go_upto_region 12 with (refine wpList_store_new w62 rfl 27 (.tmp 18) (.tmp 70) rfl 27 [.string ⟨#[]⟩,.int .i64 0,.int .i64 0,.slice none 0 0,.slice none 0 0,.slice none 0 0,.slice none 0 0] [.string ⟨bv0.toArray⟩,.int .i64 bv1,.int .i64 bv2,.slice bv3 bv4 bv5,.slice bv6 bv7 bv8,.slice bv9 bv10 bv11,.slice bv12 bv13 bv14] rfl rfl rfl (by kernel_rfl) (by simp [Value.oneCell']) ?_;rw [show ([.string ⟨bv0.toArray⟩,.int .i64 bv1,.int .i64 bv2,.slice bv3 bv4 bv5,.slice bv6 bv7 bv8,.slice bv9 bv10 bv11,.slice bv12 bv13 bv14]:List Value).toArray=#[.string ⟨bv0.toArray⟩,.int .i64 bv1,.int .i64 bv2,.slice bv3 bv4 bv5,.slice bv6 bv7 bv8,.slice bv9 bv10 bv11,.slice bv12 bv13 bv14] from rfl,← hWn,← hBb];clear hWn hBb)
     have hS12:Hid (∀ W,Below w63.heap.size w63 W→W.cell? ⟨Ba,3,none⟩=some (.slice (some ⟨gQ,0,none⟩) av4 av5)∧W.cell? ⟨gQ,j*5+2,none⟩=some (.slice xa.body.A xa.body.n xa.body.c)∧W.cell? ⟨gQ,j*5+1,none⟩=some (.string ⟨(p++64 :: n).toArray⟩)∧W.cell? ⟨gz,2,none⟩=some (.slice zz.body.A zz.body.n zz.body.c)):=fun W h=>by
      have h2:=HVa.out.trans (h.mono HVa.out.size)
      have h3:=(hOa.out W h2).sets
      obtain ⟨-,-,-,-,g1,g2,-,-⟩:=row_cells h3 HKI.out.2.2.2 HGA.out
      simp only [← HXE.out] at g1 g2
      have h4:=(hSa.out W h2).2.2.2.1
      rw [HGA.out] at h4
      have h5:xa.org=(p++64 :: n):=congrArg SetC.org HXA.out
      rw [h5] at g1
      have h6:=(hKZ.out W (HVz.out.trans (h.mono HVz.out.size))).cell 2
      exact ⟨h4,g2,g1,h6⟩
     have hSM:Hid (∀ W,Below w63.heap.size w63 W→Calls Tryz.prog 13 #[.slice xa.body.A xa.body.n xa.body.c,.slice zz.body.A zz.body.n zz.body.c] W fun e w'=>e=.returned (.bool true)∧Below W.heap.size W w'):=fun W h=>by
      have h2:=HVa.out.trans (h.mono HVa.out.size)
      have g1:=((hOa.out W h2).eachS _ (List.getElem_mem HKI.out.2.2.2)).body.rd
      simp only [← HXE.out] at g1
      have h5:xa.body.l=zz.body.l:=congrArg SetC.body HXA.out
      have g2:=(hZR.out W (HV1x.out.trans (h.mono HV1x.out.size))).1.body
      have hnn:xa.body.n=zz.body.n:=by rw [g1.1,g2.1,h5]
      have g3:=g1.2.2
      rw [h5,hnn] at g3
      rw [hnn]
      exact rsameT_any zz.body.l zz.body.n g2.1 xa.body.A zz.body.A xa.body.c zz.body.c W W.heap.size g3 (g2.2.2.more (hrw.out W (HV1x.out.trans (h.mono HV1x.out.size))).2.1) (by have:=hZN.out;omega)
     have hjb:=HJB.out
     refine wp_region_good2 (by kernel_rfl) (by kernel_rfl) [(fun v _=>v=.int .i64 44),
      (fun v _=>v=.bool true),
      (fun v _=>v=.bool true),
      (fun v _=>v=.pointer (some ⟨Ba,3,none⟩)),
      (fun v _=>v=.slice (some ⟨gQ,0,none⟩) av4 av5),
      (fun v _=>v=.int .i64 (j:Int)),
      (fun v _=>v=.pointer (some ⟨gQ,j*5,none⟩)),
      (fun v _=>v=.pointer (some ⟨gQ,j*5+2,none⟩)),
      (fun v _=>v=.slice xa.body.A xa.body.n xa.body.c),
      (fun v _=>v=.pointer (some ⟨gz,2,none⟩)),
      (fun v _=>v=.slice zz.body.A zz.body.n zz.body.c),
      (fun v _=>v=.bool true),
      (fun v _=>v=.bool true),
      (fun v _=>v=.bool true),
      (fun v _=>v=.pointer (some ⟨Ba,3,none⟩)),
      (fun v _=>v=.slice (some ⟨gQ,0,none⟩) av4 av5),
      (fun v _=>v=.int .i64 (j:Int)),
      (fun v _=>v=.pointer (some ⟨gQ,j*5,none⟩)),
      (fun v _=>v=.pointer (some ⟨gQ,j*5+1,none⟩)),
      (fun v _=>v=.string ⟨(p++64 :: n).toArray⟩),
      (fun v _=>v=.string ⟨p.toArray⟩),
      (fun v _=>v=.string ((⟨p.toArray⟩:ByteArray)++(⟨#[64]⟩:ByteArray))),
      (fun v _=>v=.string ⟨n.toArray⟩),
      (fun v _=>v=.string ⟨(p++64 :: n).toArray⟩),
      (fun v _=>v=.bool true),
      (fun v _=>v=.bool true),
      (fun v _=>v=.bool true)] ?_ ?_ ?_
     ·repeat' (first | exact stays_nil | refine stays_cons ?_ ?_ | exact Stays.pure)
     ·intro i oo ho m2 W hb0 hmi hcl hdeps AA KK hA hK
      rcases i with _ | _ | _ | _ | _ | _ | _ | _ | _ | _ | _ | _ | _ | _ | _ | _ | _ | _ | _ | _ | _ | _ | _ | _ | _ | _ | _ | i
      ·injection ho with ho;subst ho
       have ef14:AA.tmps[14]?.getD undef=.int .i64 44:=tF hA
       exact zP
      ·injection ho with ho;subst ho
       have e0:=eD hdeps hA 0 92
       exact zP
      ·injection ho with ho;subst ho
       have e1:=eD hdeps hA 1 93
       exact zP
      ·injection ho with ho;subst ho
       have e2:=eD hdeps hA 2 94
       have ef11:AA.tmps[11]?.getD undef=.pointer (some ⟨Ba,0,none⟩):=tF hA
       clear hA hdeps hcl hmi
       rw [if_pos (wanted_of (k:=94) rfl rfl e2)]
       have hK0:KK (AA.put (some 95) _) _:=hK (.pointer (some ⟨Ba,3,none⟩)) _ (Below.refl _ _) (Eq.refl _)
       clear hK
       go_simp
       exact hK0
      ·injection ho with ho;subst ho
       have e2:=eD hdeps hA 2 94
       have e3:=eD hdeps hA 3 95
       clear hA hdeps hcl hmi
       rw [if_pos (wanted_of (k:=94) rfl rfl e2)]
       obtain ⟨c3,x2,x1,z2⟩:=hS12.out W hb0
       have hK0:KK (AA.put (some 96) _) _:=hK (.slice (some ⟨gQ,0,none⟩) av4 av5) _ (Below.refl _ _) (Eq.refl _)
       clear hK
       go_simp
       exact hK0
      ·injection ho with ho;subst ho
       have e2:=eD hdeps hA 2 94
       have ef15:AA.tmps[15]?.getD undef=.int .i64 (j:Int):=tF hA
       clear hA hdeps hcl hmi
       rw [if_pos (wanted_of (k:=94) rfl rfl e2)]
       have hK0:KK (AA.put (some 97) _) _:=hK (.int .i64 (j:Int)) _ (Below.refl _ _) (Eq.refl _)
       clear hK
       go_simp
       exact hK0
      ·injection ho with ho;subst ho
       have e2:=eD hdeps hA 2 94
       have e4:=eD hdeps hA 4 96
       have e5:=eD hdeps hA 5 97
       clear hA hdeps hcl hmi
       rw [if_pos (wanted_of (k:=94) rfl rfl e2)]
       have hK0:KK (AA.put (some 98) _) _:=hK (.pointer (some ⟨gQ,j*5,none⟩)) _ (Below.refl _ _) (Eq.refl _)
       clear hK
       go_simp
       exact hK0
      ·injection ho with ho;subst ho
       have e2:=eD hdeps hA 2 94
       have e6:=eD hdeps hA 6 98
       clear hA hdeps hcl hmi
       rw [if_pos (wanted_of (k:=94) rfl rfl e2)]
       have hK0:KK (AA.put (some 99) _) _:=hK (.pointer (some ⟨gQ,j*5+2,none⟩)) _ (Below.refl _ _) (Eq.refl _)
       clear hK
       go_simp
       exact hK0
      ·injection ho with ho;subst ho
       have e2:=eD hdeps hA 2 94
       have e7:=eD hdeps hA 7 99
       clear hA hdeps hcl hmi
       rw [if_pos (wanted_of (k:=94) rfl rfl e2)]
       obtain ⟨c3,x2,x1,z2⟩:=hS12.out W hb0
       have hK0:KK (AA.put (some 100) _) _:=hK (.slice xa.body.A xa.body.n xa.body.c) _ (Below.refl _ _) (Eq.refl _)
       clear hK
       go_simp
       exact hK0
      ·injection ho with ho;subst ho
       have e2:=eD hdeps hA 2 94
       have ef17:AA.tmps[17]?.getD undef=.pointer (some ⟨gz,0,none⟩):=tF hA
       clear hA hdeps hcl hmi
       rw [if_pos (wanted_of (k:=94) rfl rfl e2)]
       have hK0:KK (AA.put (some 101) _) _:=hK (.pointer (some ⟨gz,2,none⟩)) _ (Below.refl _ _) (Eq.refl _)
       clear hK
       go_simp
       exact hK0
      ·injection ho with ho;subst ho
       have e2:=eD hdeps hA 2 94
       have e9:=eD hdeps hA 9 101
       clear hA hdeps hcl hmi
       rw [if_pos (wanted_of (k:=94) rfl rfl e2)]
       obtain ⟨c3,x2,x1,z2⟩:=hS12.out W hb0
       have hK0:KK (AA.put (some 102) _) _:=hK (.slice zz.body.A zz.body.n zz.body.c) _ (Below.refl _ _) (Eq.refl _)
       clear hK
       go_simp
       exact hK0
      ·injection ho with ho;subst ho
       have e2:=eD hdeps hA 2 94
       have e8:=eD hdeps hA 8 100
       have e10:=eD hdeps hA 10 102
       clear hA hdeps hcl hmi
       rw [if_pos (wanted_of (k:=94) rfl rfl e2)]
       have hKK:=hK
       clear hK
       go_simp
       refine (hSM.out W hb0).mono ?_
       rintro e w5 ⟨rfl,hbn⟩
       exact hKK _ _ hbn (Eq.refl _)
      ·injection ho with ho;subst ho
       have e2:=eD hdeps hA 2 94
       have e11:=eD hdeps hA 11 103
       exact zP
      ·injection ho with ho;subst ho
       have e12:=eD hdeps hA 12 104
       exact zP
      ·injection ho with ho;subst ho
       have e13:=eD hdeps hA 13 105
       have ef11:AA.tmps[11]?.getD undef=.pointer (some ⟨Ba,0,none⟩):=tF hA
       clear hA hdeps hcl hmi
       rw [if_pos (wanted_of (k:=105) rfl rfl e13)]
       have hK0:KK (AA.put (some 106) _) _:=hK (.pointer (some ⟨Ba,3,none⟩)) _ (Below.refl _ _) (Eq.refl _)
       clear hK
       go_simp
       exact hK0
      ·injection ho with ho;subst ho
       have e13:=eD hdeps hA 13 105
       have e14:=eD hdeps hA 14 106
       clear hA hdeps hcl hmi
       rw [if_pos (wanted_of (k:=105) rfl rfl e13)]
       obtain ⟨c3,x2,x1,z2⟩:=hS12.out W hb0
       have hK0:KK (AA.put (some 107) _) _:=hK (.slice (some ⟨gQ,0,none⟩) av4 av5) _ (Below.refl _ _) (Eq.refl _)
       clear hK
       go_simp
       exact hK0
      ·injection ho with ho;subst ho
       have e13:=eD hdeps hA 13 105
       have ef15:AA.tmps[15]?.getD undef=.int .i64 (j:Int):=tF hA
       clear hA hdeps hcl hmi
       rw [if_pos (wanted_of (k:=105) rfl rfl e13)]
       have hK0:KK (AA.put (some 108) _) _:=hK (.int .i64 (j:Int)) _ (Below.refl _ _) (Eq.refl _)
       clear hK
       go_simp
       exact hK0
      ·injection ho with ho;subst ho
       have e13:=eD hdeps hA 13 105
       have e15:=eD hdeps hA 15 107
       have e16:=eD hdeps hA 16 108
       clear hA hdeps hcl hmi
       rw [if_pos (wanted_of (k:=105) rfl rfl e13)]
       have hK0:KK (AA.put (some 109) _) _:=hK (.pointer (some ⟨gQ,j*5,none⟩)) _ (Below.refl _ _) (Eq.refl _)
       clear hK
       go_simp
       exact hK0
      ·injection ho with ho;subst ho
       have e13:=eD hdeps hA 13 105
       have e17:=eD hdeps hA 17 109
       clear hA hdeps hcl hmi
       rw [if_pos (wanted_of (k:=105) rfl rfl e13)]
       have hK0:KK (AA.put (some 110) _) _:=hK (.pointer (some ⟨gQ,j*5+1,none⟩)) _ (Below.refl _ _) (Eq.refl _)
       clear hK
       go_simp
       exact hK0
      ·injection ho with ho;subst ho
       have e13:=eD hdeps hA 13 105
       have e18:=eD hdeps hA 18 110
       clear hA hdeps hcl hmi
       rw [if_pos (wanted_of (k:=105) rfl rfl e13)]
       obtain ⟨c3,x2,x1,z2⟩:=hS12.out W hb0
       have hK0:KK (AA.put (some 111) _) _:=hK (.string ⟨(p++64 :: n).toArray⟩) _ (Below.refl _ _) (Eq.refl _)
       clear hK
       go_simp
       exact hK0
      ·injection ho with ho;subst ho
       have e13:=eD hdeps hA 13 105
       have ef1:AA.tmps[1]?.getD undef=.string ⟨p.toArray⟩:=tF hA
       clear hA hdeps hcl hmi
       rw [if_pos (wanted_of (k:=105) rfl rfl e13)]
       have hK0:KK (AA.put (some 112) _) _:=hK (.string ⟨p.toArray⟩) _ (Below.refl _ _) (Eq.refl _)
       clear hK
       go_simp
       exact hK0
      ·injection ho with ho;subst ho
       have e13:=eD hdeps hA 13 105
       have e20:=eD hdeps hA 20 112
       clear hA hdeps hcl hmi
       rw [if_pos (wanted_of (k:=105) rfl rfl e13)]
       have hK0:KK (AA.put (some 113) _) _:=hK (.string ((⟨p.toArray⟩:ByteArray)++(⟨#[64]⟩:ByteArray))) _ (Below.refl _ _) (Eq.refl _)
       clear hK
       go_simp
       rw [if_neg (by omega)]
       go_simp
       exact hK0
      ·injection ho with ho;subst ho
       have e13:=eD hdeps hA 13 105
       have ef2:AA.tmps[2]?.getD undef=.string ⟨n.toArray⟩:=tF hA
       clear hA hdeps hcl hmi
       rw [if_pos (wanted_of (k:=105) rfl rfl e13)]
       have hK0:KK (AA.put (some 114) _) _:=hK (.string ⟨n.toArray⟩) _ (Below.refl _ _) (Eq.refl _)
       clear hK
       go_simp
       exact hK0
      ·injection ho with ho;subst ho
       have e13:=eD hdeps hA 13 105
       have e21:=eD hdeps hA 21 113
       have e22:=eD hdeps hA 22 114
       clear hA hdeps hcl hmi
       rw [if_pos (wanted_of (k:=105) rfl rfl e13)]
       have hK0:KK (AA.put (some 115) _) _:=hK (.string ⟨(p++64 :: n).toArray⟩) _ (Below.refl _ _) (Eq.refl _)
       clear hK
       rw [← cat_at] at hK0
       go_simp
       rw [if_neg (by omega)]
       go_simp
       exact hK0
      ·injection ho with ho;subst ho
       have e13:=eD hdeps hA 13 105
       have e19:=eD hdeps hA 19 111
       have e23:=eD hdeps hA 23 115
       clear hA hdeps hcl hmi
       rw [if_pos (wanted_of (k:=105) rfl rfl e13)]
       have hK0:KK (AA.put (some 116) _) _:=hK (.bool true) _ (Below.refl _ _) (Eq.refl _)
       clear hK
       go_simp
       exact hK0
      ·injection ho with ho;subst ho
       have e13:=eD hdeps hA 13 105
       have e24:=eD hdeps hA 24 116
       exact zP
      ·injection ho with ho;subst ho
       have e25:=eD hdeps hA 25 117
       exact zP
      ·simp at ho
     ·intro m W hbx hall
      have m0:=dV (hall 0 (by simp))
      have m1:=dV (hall 1 (by simp))
      have m2:=dV (hall 2 (by simp))
      have m3:=dV (hall 3 (by simp))
      have m4:=dV (hall 4 (by simp))
      have m5:=dV (hall 5 (by simp))
      have m6:=dV (hall 6 (by simp))
      have m7:=dV (hall 7 (by simp))
      have m8:=dV (hall 8 (by simp))
      have m9:=dV (hall 9 (by simp))
      have m10:=dV (hall 10 (by simp))
      have m11:=dV (hall 11 (by simp))
      have m12:=dV (hall 12 (by simp))
      have m13:=dV (hall 13 (by simp))
      have m14:=dV (hall 14 (by simp))
      have m15:=dV (hall 15 (by simp))
      have m16:=dV (hall 16 (by simp))
      have m17:=dV (hall 17 (by simp))
      have m18:=dV (hall 18 (by simp))
      have m19:=dV (hall 19 (by simp))
      have m20:=dV (hall 20 (by simp))
      have m21:=dV (hall 21 (by simp))
      have m22:=dV (hall 22 (by simp))
      have m23:=dV (hall 23 (by simp))
      have m24:=dV (hall 24 (by simp))
      have m25:=dV (hall 25 (by simp))
      have m26:=dV (hall 26 (by simp))
      rw [frameM_all (by kernel_rfl) [.int .i64 44,.bool true,.bool true,.pointer (some ⟨Ba,3,none⟩),.slice (some ⟨gQ,0,none⟩) av4 av5,.int .i64 (j:Int),.pointer (some ⟨gQ,j*5,none⟩),.pointer (some ⟨gQ,j*5+2,none⟩),.slice xa.body.A xa.body.n xa.body.c,.pointer (some ⟨gz,2,none⟩),.slice zz.body.A zz.body.n zz.body.c,.bool true,.bool true,.bool true,.pointer (some ⟨Ba,3,none⟩),.slice (some ⟨gQ,0,none⟩) av4 av5,.int .i64 (j:Int),.pointer (some ⟨gQ,j*5,none⟩),.pointer (some ⟨gQ,j*5+1,none⟩),.string ⟨(p++64 :: n).toArray⟩,.string ⟨p.toArray⟩,.string ((⟨p.toArray⟩:ByteArray)++(⟨#[64]⟩:ByteArray)),.string ⟨n.toArray⟩,.string ⟨(p++64 :: n).toArray⟩,.bool true,.bool true,.bool true] rfl (fun i hi=>by rcases i with _ | _ | _ | _ | _ | _ | _ | _ | _ | _ | _ | _ | _ | _ | _ | _ | _ | _ | _ | _ | _ | _ | _ | _ | _ | _ | _ | i <;> first | assumption | (simp at hi;omega))]
      clear hall m0 m1 m2 m3 m4 m5 m6 m7 m8 m9 m10 m11 m12 m13 m14 m15 m16 m17 m18 m19 m20 m21 m22 m23 m24 m25 m26
      simp only [putAll,Act.put,zA,zC,zB]
      go_wp2_with fail
      go_ret
      exact ⟨rfl,hBW.out _ (HV1x.out.trans (hbx.mono HV1x.out.size))⟩
end Go.Proofs.YtcgclpcocdappaaGreatDoor
