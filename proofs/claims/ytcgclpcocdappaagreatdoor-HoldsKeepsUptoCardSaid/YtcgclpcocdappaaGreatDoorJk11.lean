/-
  HoldsKeeps: a snapshot that is held may not go, nor its set; releasing it brings the tenant back: the law's walk.
-/
import Derived.WalkKit
import Derived.WalkSpells
import Derived.Below
import Derived.Laws.OwnMore
import Derived.Deep.AppendLies
import Derived.Deep.Draws
import Derived.Laws.Rows
import Derived.Maps.AppendAt
import Derived.RegionTactic
import Derived.OwnWalk
import Derived.Deep.QuietTactic
import Derived.BigQuiet
import Derived.Lib.Hide
import Derived.Laws.CopyOwn
import Derived.IntWalk
import Derived.Test.YtcgclpcocdappaaGreatDoorRows
import Derived.Handy
import Derived.Lib.AppendZeros
import Derived.ProofKit
import Derived.Deep.Quiet
import Derived.OpenShut
import Derived.ShutString
import Derived.ChangeOld
import Derived.Carry
import Derived.SizedLaws
import Derived.JoinedCond
import Derived.Deep.CondSized
import Derived.Deep.Slices
import Derived.Deep.Fields
import Derived.Lib.SmallJoins
import Derived.Deep.RegionLaw
import Derived.Orders
import Derived.Lib.SplitLaws
import Derived.Lib.LastIndexByte
import Derived.Lib.Strings
import Derived.Sort.Walk0
import Derived.Sort.KeysCollected
import Derived.Shelf.SlIter.Nil
import Derived.Shelf.SortM.Plain
import Derived.Shelf.SortM.SortNone
import Derived.Maps.OwnSet
import Derived.Maps.StringElems
import Derived.Deep.MidRow
import Derived.Shelf.Strings.Search1
import Derived.Shelf.Strings.Search2
import Derived.Shelf.Strings.Search3
import Derived.Shelf.Strings.Cut
import Derived.Shelf.Strings.Count
import Derived.Shelf.LaysM
import Derived.Shelf.Strings.Shaped
import Derived.Shelf.Strings.LastIndex
import Derived.Shelf.Strings.Split
import Derived.Shelf.Strings.SplitShaped
import Derived.Shelf.Unicode.Decode
import Derived.Shelf.Strings.RuneCount
import Derived.Shelf.Strings.Explode
import Derived.Shelf.Unicode.DecodeSlow
import Derived.Test.YtcgclpcocdappaaGreatDoorProg
import Derived.Lib.Overlaps
import Derived.Lib.AppendZerosOnto
import Derived.Laws.BytesString
import Derived.Laws.IdiomStrings
import Derived.Lib.ConvBytes
import Derived.Deep.DeepCutAuto
import Derived.Great.BuildSlice
import Derived.Test.YtcgclpcocdappaaGreatDoorJ0
import Derived.Test.YtcgclpcocdappaaGreatDoorJbkv1
import Derived.Test.YtcgclpcocdappaaGreatDoorJbkv3
import Derived.Test.YtcgclpcocdappaaGreatDoorJbkv4
import Derived.Test.YtcgclpcocdappaaGreatDoorJbkv5
import Derived.Test.YtcgclpcocdappaaGreatDoorJbkv7
import Derived.Test.YtcgclpcocdappaaGreatDoorJbkv8
import Derived.Test.YtcgclpcocdappaaGreatDoorJbkv10
import Derived.Test.YtcgclpcocdappaaGreatDoorJbkv14
import Derived.Test.YtcgclpcocdappaaGreatDoorJbkv15
import Derived.Test.YtcgclpcocdappaaGreatDoorJbkv16
import Derived.Test.YtcgclpcocdappaaGreatDoorJbkv17
import Derived.Test.YtcgclpcocdappaaGreatDoorJbkv19
import Derived.Test.YtcgclpcocdappaaGreatDoorJbkv20
import Derived.Test.YtcgclpcocdappaaGreatDoorJbkv21
import Derived.Test.YtcgclpcocdappaaGreatDoorJbkv22
import Derived.Test.YtcgclpcocdappaaGreatDoorJbkv27
import Derived.Test.YtcgclpcocdappaaGreatDoorJbkv29
import Derived.Test.YtcgclpcocdappaaGreatDoorJbk1
import Derived.Test.YtcgclpcocdappaaGreatDoorJbk2
import Derived.Test.YtcgclpcocdappaaGreatDoorJkv2
import Derived.Test.YtcgclpcocdappaaGreatDoorJkv3
import Derived.Test.YtcgclpcocdappaaGreatDoorJkv4
import Derived.Test.YtcgclpcocdappaaGreatDoorJk1
import Derived.Test.YtcgclpcocdappaaGreatDoorJk4
import Derived.Test.YtcgclpcocdappaaGreatDoorJk5
import Derived.Test.YtcgclpcocdappaaGreatDoorJk8
import Derived.Test.YtcgclpcocdappaaGreatDoorJk9
import Derived.Test.YtcgclpcocdappaaGreatDoorJk10
namespace Go.Proofs.YtcgclpcocdappaaGreatDoor
open Go.RowKit
theorem hold_sz {c:TenC} (h:c.sz) (p n g:BS) (hg:g.length≤4000000000) (c2:TenC) (h2:(0,c2)=c.hold p n g):c2.sz:=by
 obtain ⟨k,ha,i,hi,-,-,-,-,e⟩:=hold_form c p n g c2 h2
 have hs:=h.eachS _ (List.getElem_mem ha.lt)
 have hx:=hs.each _ (List.getElem_mem hi)
 have ht:=(snapOk_tags ((ha.snaps.each _ (List.getElem_mem hi)).1)).len
 rw [e]
 refine h.putS ⟨hs.path,hs.org,hs.body,?_,fun y hy=>?_,hs.own,hs.props⟩
 ·show (List.set _ _ _).length≤_
  rw [List.length_set]
  exact hs.snaps
 ·rcases List.mem_or_eq_of_mem_set (show y∈List.set _ _ _ from hy) with hy | rfl
  ·exact hs.each y hy
  ·refine ⟨hx.nm,hx.body,?_,fun q hq=>?_,hx.own,hx.props⟩
   ·show (insT _ _).length≤_
    rw [insT_len]
    omega
   ·rcases List.mem_append.1 (show q∈List.take _ _++g :: List.drop _ _ from hq) with hq | hq
    ·exact hx.each q (List.mem_of_mem_take hq)
    ·rcases List.mem_cons.1 hq with rfl | hq
     ·exact hg
     ·exact hx.each q (List.mem_of_mem_drop hq)
set_option maxRecDepth 100000 in
set_option maxHeartbeats 16000000 in
theorem holdsKeeps_any (t:TenR) (p n tg:BS) (w:World) (hr:t.rd w w.heap.size) (hz:t.sz) (hp:p.length≤500000000) (hg:tg.length≤500000000) (hmx:HasMax w) :
  Calls Tryz.prog 7 #[t.val,.string ⟨p.toArray⟩,.string ⟨n.toArray⟩,.string ⟨tg.toArray⟩] w fun e w'=>e=.returned (.bool true)∧Below w.heap.size w w':=by
 have hcz:=TenC.sz_of hr hz
 obtain ⟨nm,qu,nx,⟨s1,sn,s3,sl⟩,⟨gA,gN,gC,gL⟩,⟨t1,tn,t3,tl⟩,⟨l1,ln,l3,ll⟩⟩:=t
 show Calls Tryz.prog 7 #[.agg #[.string ⟨nm.toArray⟩,.int .i64 qu,.int .i64 nx,.slice s1 sn s3,.slice gA gN gC,.slice t1 tn t3,.slice l1 ln l3],.string ⟨p.toArray⟩,.string ⟨n.toArray⟩,.string ⟨tg.toArray⟩] w _
 have hb:=((Below.refl w.heap.size w).alloc (Nat.le_refl _) (.cells #[.string ⟨nm.toArray⟩,.int .i64 qu,.int .i64 nx,.slice s1 sn s3,.slice gA gN gC,.slice t1 tn t3,.slice l1 ln l3] 27))
 have kt:=Blk.new w 27 #[.string ⟨nm.toArray⟩,.int .i64 qu,.int .i64 nx,.slice s1 sn s3,.slice gA gN gC,.slice t1 tn t3,.slice l1 ln l3]
 have hsz:(w.alloc (.cells #[.string ⟨nm.toArray⟩,.int .i64 qu,.int .i64 nx,.slice s1 sn s3,.slice gA gN gC,.slice t1 tn t3,.slice l1 ln l3] 27)).heap.size=w.heap.size+1:=by simp
 obtain ⟨W1,hW1⟩:∃ W,W=(w.alloc (.cells #[.string ⟨nm.toArray⟩,.int .i64 qu,.int .i64 nx,.slice s1 sn s3,.slice gA gN gC,.slice t1 tn t3,.slice l1 ln l3] 27)):=⟨_,rfl⟩
 rw [← hW1] at hb hsz kt
 have hKt:Hid (∀ W,Below W1.heap.size W1 W→Blk W w.heap.size 27 #[.string ⟨nm.toArray⟩,.int .i64 qu,.int .i64 nx,.slice s1 sn s3,.slice gA gN gC,.slice t1 tn t3,.slice l1 ln l3]):=fun W h=>kt.below h (by omega)
 have hBW:Hid (∀ W,Below W1.heap.size W1 W→Below w.heap.size w W):=fun W h=>hb.trans (h.mono (by omega))
 have hSZ:Hid (∀ W,Below W1.heap.size W1 W→w.heap.size+1≤W.heap.size):=fun W h=>by have:=h.size;omega
 have hW0:Hid (Below W1.heap.size W1 W1):=Below.refl _ _
 have hrw:Hid (∀ W,Below W1.heap.size W1 W→TenR.rd W w.heap.size ⟨nm,qu,nx,⟨s1,sn,s3,sl⟩,⟨gA,gN,gC,gL⟩,⟨t1,tn,t3,tl⟩,⟨l1,ln,l3,ll⟩⟩∧w.heap.size≤W.heap.size∧HasMax W):=fun W h =>
  ⟨TenR.rd.below hr (hBW.out W h),by have:=hSZ.out W h;omega,hmx.below (hBW.out W h)⟩
 obtain ⟨C,hC⟩:∃ C,C=TenR.con ⟨nm,qu,nx,⟨s1,sn,s3,sl⟩,⟨gA,gN,gC,gL⟩,⟨t1,tn,t3,tl⟩,⟨l1,ln,l3,ll⟩⟩:=⟨_,rfl⟩
 have hHC:=Lib.hid hC
 rw [← hC] at hcz
 have hAL:Hid (∀ W,Below W1.heap.size W1 W→Calls Tryz.prog 35 #[] W fun e w'=>e=.returned (.bool true)∧Below W.heap.size W w'):=fun W h=>alive18_any W (hrw.out W h).2.2
 obtain ⟨⟨E1,C1⟩,hV1⟩:∃ V:Int×TenC,V=C.hold p n tg:=⟨_,rfl⟩
 have hHO:Hid (∀ W,Below W1.heap.size W1 W→Calls Tryz.prog 36 #[.agg #[.string ⟨nm.toArray⟩,.int .i64 qu,.int .i64 nx,.slice s1 sn s3,.slice gA gN gC,.slice t1 tn t3,.slice l1 ln l3],.string ⟨p.toArray⟩,.string ⟨n.toArray⟩,.string ⟨tg.toArray⟩] W (TenPost W (E1,C1))):=fun W h=>by
  rw [hV1,hC]
  exact hold_any ⟨nm,qu,nx,⟨s1,sn,s3,sl⟩,⟨gA,gN,gC,gL⟩,⟨t1,tn,t3,tl⟩,⟨l1,ln,l3,ll⟩⟩ p n tg W w.heap.size (hrw.out W h).2.1 (hrw.out W h).1 hz (by omega) (hrw.out W h).2.2
 have HV1:=Lib.hid hV1
 have HZ:=Lib.hid hz
 have HCZ:=Lib.hid hcz
 have HLN:=Lib.hid (show p.length≤500000000∧tg.length≤500000000 from ⟨hp,hg⟩)
 clear hb hsz kt hr hz hmx hC hcz hV1 hp hg
 go_enter Tryz.func7,Tryz.ntmps7
 have hc:=hAL.out W1 hW0.out
 go_wp2_with fail
 rw [← hW1]
 clear hW1
 refine hc.mono ?_
 clear hc 
 rintro e w2 ⟨rfl,hb⟩
 have H1_2:=Lib.hid (hW0.out.trans (hb.mono hW0.out.size))
 clear hb
 have hc:=hHO.out w2 H1_2.out
 have kk:=hKt.out _ H1_2.out
 obtain ⟨c0,c1,c2,c3,c4,c5,c6⟩:=(⟨kk.cell 0,kk.cell 1,kk.cell 2,kk.cell 3,kk.cell 4,kk.cell 5,kk.cell 6⟩:_∧_∧_∧_∧_∧_∧_)
 simp only [zF,zD,zE] at c0 c1 c2 c3 c4 c5 c6
 clear kk
 go_wp2_with fail
 refine hc.mono ?_
 clear hc c0 c1 c2 c3 c4 c5 c6
 rintro e w3 ⟨v,rfl,hb,hcs⟩
 have H1_3:=Lib.hid (H1_2.out.trans (hb.mono H1_2.out.size))
 clear hb
 rcases hcs with ⟨h1,rfl⟩ | ⟨h1,y,rfl,ho,hy⟩
 ·have hE1b:(E1 == 0)=false:=by have h1:E1≠0:=h1;simpa using h1
  have hbn:=(H1_3.out).alloc H1_3.out.size (.cells #[.string ⟨#[]⟩,.int .i64 0,.int .i64 0,.slice none 0 0,.slice none 0 0,.slice none 0 0,.slice none 0 0] 27)
  have kbn:=Blk.new w3 27 #[.string ⟨#[]⟩,.int .i64 0,.int .i64 0,.slice none 0 0,.slice none 0 0,.slice none 0 0,.slice none 0 0]
  have hsn:(w3.alloc (.cells #[.string ⟨#[]⟩,.int .i64 0,.int .i64 0,.slice none 0 0,.slice none 0 0,.slice none 0 0,.slice none 0 0] 27)).heap.size=w3.heap.size+1:=by simp
  obtain ⟨Bz9,hBz9⟩:∃ g,g=w3.heap.size:=⟨_,rfl⟩
  obtain ⟨w40,hWn⟩:∃ W,W=(w3.alloc (.cells #[.string ⟨#[]⟩,.int .i64 0,.int .i64 0,.slice none 0 0,.slice none 0 0,.slice none 0 0,.slice none 0 0] 27)):=⟨_,rfl⟩
  rw [← hWn] at hbn kbn hsn 
  have HW40:=Lib.hid hbn
  rw [← hBz9] at kbn
  have hKz9:Hid (∀ W,Below w40.heap.size w40 W→Blk W Bz9 27 #[.string ⟨#[]⟩,.int .i64 0,.int .i64 0,.slice none 0 0,.slice none 0 0,.slice none 0 0,.slice none 0 0]):=fun W h=>kbn.below h (by omega)
  have HZz9:=Lib.hid (show Bz9=w3.heap.size∧w40.heap.size=w3.heap.size+1 from ⟨hBz9,hsn⟩)
  clear hbn kbn hsn 
  unfold ZEROT
  have hz3:w40.cell? ⟨Bz9,3,none⟩=some (.slice none 0 0):=(hKz9.out _ (Below.refl _ _)).cell 3
  go_wp2_with (refine wpList_store_new w3 rfl 27 (.tmp 9) (.tmp 25) rfl 27 [.string ⟨#[]⟩,.int .i64 0,.int .i64 0,.slice none 0 0,.slice none 0 0,.slice none 0 0,.slice none 0 0] [.string ⟨#[]⟩,.int .i64 0,.int .i64 0,.slice none 0 0,.slice none 0 0,.slice none 0 0,.slice none 0 0] rfl rfl rfl (by kernel_rfl) (by simp [Value.oneCell']) ?_;rw [show ([.string ⟨#[]⟩,.int .i64 0,.int .i64 0,.slice none 0 0,.slice none 0 0,.slice none 0 0,.slice none 0 0]:List Value).toArray=#[.string ⟨#[]⟩,.int .i64 0,.int .i64 0,.slice none 0 0,.slice none 0 0,.slice none 0 0,.slice none 0 0] from rfl,← hWn,← hBz9];clear hWn hBz9)
  go_ret
  exact ⟨rfl,hBW.out _ HW40.out⟩
 ·replace h1:E1=0:=h1
  subst h1
  have HO:=Lib.hid ho
  have HY:=Lib.hid hy
  clear ho hy
  obtain ⟨hE,hrl,hhd,hun,hds⟩:=hold_law C C1 p n tg HV1.out
  have hszC:Hid (C1.sz):=hold_sz HCZ.out p n tg (by have:=HLN.out;omega) C1 HV1.out
  obtain ⟨⟨E2,C2⟩,hV2⟩:∃ V:Int×TenC,V=C1.unsnap p n:=⟨_,rfl⟩
  obtain ⟨⟨E3,C3⟩,hV3⟩:∃ V:Int×TenC,V=C1.destroy p:=⟨_,rfl⟩
  rw [← hV2] at hun
  rw [← hV3] at hds
  replace hun:E2≠0:=hun
  replace hds:E3≠0:=hds
  have HUN:=Lib.hid hun
  have HDS:=Lib.hid hds
  have HV2:=Lib.hid hV2
  have HV3:=Lib.hid hV3
  have HRL:=Lib.hid hrl
  have HHD:=Lib.hid hhd
  have HE:=Lib.hid hE
  clear hE hrl hhd hun hds hV2 hV3
  obtain ⟨av0,av1,av2,⟨av3,av4,av5,al0⟩,⟨av6,av7,av8,al1⟩,⟨av9,av10,av11,al2⟩,⟨av12,av13,av14,al3⟩⟩:=y
  simp only [TenR.val,TenR.cells,FS.val,strV]
  have hn1:=(H1_3.out).alloc H1_3.out.size (.cells #[.string ⟨av0.toArray⟩,.int .i64 av1,.int .i64 av2,.slice av3 av4 av5,.slice av6 av7 av8,.slice av9 av10 av11,.slice av12 av13 av14] 27)
  have kbn:=Blk.new w3 27 #[.string ⟨av0.toArray⟩,.int .i64 av1,.int .i64 av2,.slice av3 av4 av5,.slice av6 av7 av8,.slice av9 av10 av11,.slice av12 av13 av14]
  have hsn:(w3.alloc (.cells #[.string ⟨av0.toArray⟩,.int .i64 av1,.int .i64 av2,.slice av3 av4 av5,.slice av6 av7 av8,.slice av9 av10 av11,.slice av12 av13 av14] 27)).heap.size=w3.heap.size+1:=by simp
  have hbo:=((Below.refl w3.heap.size w3).alloc (Nat.le_refl _) (.cells #[.string ⟨av0.toArray⟩,.int .i64 av1,.int .i64 av2,.slice av3 av4 av5,.slice av6 av7 av8,.slice av9 av10 av11,.slice av12 av13 av14] 27))
  obtain ⟨Ba,hBa⟩:∃ g,g=w3.heap.size:=⟨_,rfl⟩
  obtain ⟨w4,hWn⟩:∃ W,W=(w3.alloc (.cells #[.string ⟨av0.toArray⟩,.int .i64 av1,.int .i64 av2,.slice av3 av4 av5,.slice av6 av7 av8,.slice av9 av10 av11,.slice av12 av13 av14] 27)):=⟨_,rfl⟩
  rw [← hWn] at kbn hsn hbo hn1
  rw [← hBa] at kbn
  have hSa:Hid (∀ W,Below w4.heap.size w4 W→W.cell? ⟨Ba,0,none⟩=some (.string ⟨av0.toArray⟩)∧W.cell? ⟨Ba,1,none⟩=some (.int .i64 av1)∧W.cell? ⟨Ba,2,none⟩=some (.int .i64 av2)∧W.cell? ⟨Ba,3,none⟩=some (.slice av3 av4 av5)∧W.cell? ⟨Ba,4,none⟩=some (.slice av6 av7 av8)∧W.cell? ⟨Ba,5,none⟩=some (.slice av9 av10 av11)∧W.cell? ⟨Ba,6,none⟩=some (.slice av12 av13 av14)):=fun W h=>blk7 (kbn.below h (by omega))
  have H1_4:=Lib.hid hn1
  have H4_4:Hid (Below w4.heap.size w4 w4):=Below.refl _ _
  have hOa:Hid (∀ W,Below w4.heap.size w4 W→TenO W w2.heap.size ⟨av0,av1,av2,⟨av3,av4,av5,al0⟩,⟨av6,av7,av8,al1⟩,⟨av9,av10,av11,al2⟩,⟨av12,av13,av14,al3⟩⟩):=fun W h=>(HO.out.below hbo).below (h.mono (by omega))
  have hCa:Hid (TenR.con ⟨av0,av1,av2,⟨av3,av4,av5,al0⟩,⟨av6,av7,av8,al1⟩,⟨av9,av10,av11,al2⟩,⟨av12,av13,av14,al3⟩⟩=C1):=HY.out
  clear HO HY
  clear kbn hsn hbo hn1
  have hrA:Hid (∀ W,Below w4.heap.size w4 W→TenR.rd W W.heap.size ⟨av0,av1,av2,⟨av3,av4,av5,al0⟩,⟨av6,av7,av8,al1⟩,⟨av9,av10,av11,al2⟩,⟨av12,av13,av14,al3⟩⟩∧TenR.sz ⟨av0,av1,av2,⟨av3,av4,av5,al0⟩,⟨av6,av7,av8,al1⟩,⟨av9,av10,av11,al2⟩,⟨av12,av13,av14,al3⟩⟩∧HasMax W):=fun W h=>by
   have h1:=(hOa.out W h).rd
   exact ⟨h1,TenR.sz_of h1 (by rw [hCa.out];exact hszC.out),(hrw.out W (H1_4.out.trans (h.mono H1_4.out.size))).2.2⟩
  have hUN:Hid (∀ W,Below w4.heap.size w4 W→Calls Tryz.prog 20 #[.agg #[.string ⟨av0.toArray⟩,.int .i64 av1,.int .i64 av2,.slice av3 av4 av5,.slice av6 av7 av8,.slice av9 av10 av11,.slice av12 av13 av14],.string ⟨p.toArray⟩,.string ⟨n.toArray⟩] W (TenPost W (E2,C2))):=fun W h=>by
   obtain ⟨h1,h2,h3⟩:=hrA.out W h
   rw [HV2.out,← hCa.out]
   exact unsnap_any ⟨av0,av1,av2,⟨av3,av4,av5,al0⟩,⟨av6,av7,av8,al1⟩,⟨av9,av10,av11,al2⟩,⟨av12,av13,av14,al3⟩⟩ p n W W.heap.size (Nat.le_refl _) h1 h2 (by have:=HLN.out;omega) h3
  have hDS:Hid (∀ W,Below w4.heap.size w4 W→Calls Tryz.prog 37 #[.agg #[.string ⟨av0.toArray⟩,.int .i64 av1,.int .i64 av2,.slice av3 av4 av5,.slice av6 av7 av8,.slice av9 av10 av11,.slice av12 av13 av14],.string ⟨p.toArray⟩] W (TenPost W (E3,C3))):=fun W h=>by
   obtain ⟨h1,h2,h3⟩:=hrA.out W h
   rw [HV3.out,← hCa.out]
   exact destroy_any ⟨av0,av1,av2,⟨av3,av4,av5,al0⟩,⟨av6,av7,av8,al1⟩,⟨av9,av10,av11,al2⟩,⟨av12,av13,av14,al3⟩⟩ p W W.heap.size (Nat.le_refl _) h1 h2 (by have:=HLN.out;omega) h3
  have hRL:Hid (∀ W,Below w4.heap.size w4 W→Calls Tryz.prog 38 #[.agg #[.string ⟨av0.toArray⟩,.int .i64 av1,.int .i64 av2,.slice av3 av4 av5,.slice av6 av7 av8,.slice av9 av10 av11,.slice av12 av13 av14],.string ⟨p.toArray⟩,.string ⟨n.toArray⟩,.string ⟨tg.toArray⟩] W (TenPost W (0,C))):=fun W h=>by
   obtain ⟨h1,h2,h3⟩:=hrA.out W h
   rw [← HRL.out,← hCa.out]
   exact rel_any ⟨av0,av1,av2,⟨av3,av4,av5,al0⟩,⟨av6,av7,av8,al1⟩,⟨av9,av10,av11,al2⟩,⟨av12,av13,av14,al3⟩⟩ p n tg W W.heap.size (Nat.le_refl _) h1 h2 (by have:=HLN.out;omega) h3
  obtain ⟨c0,c1,c2,c3,c4,c5,c6⟩:=hSa.out w4 (Below.refl _ _)
  have hc:=hUN.out w4 (Below.refl _ _)
  go_wp2_with (refine wpList_store_new w3 rfl 27 (.tmp 9) (.tmp 25) rfl 27 [.string ⟨#[]⟩,.int .i64 0,.int .i64 0,.slice none 0 0,.slice none 0 0,.slice none 0 0,.slice none 0 0] [.string ⟨av0.toArray⟩,.int .i64 av1,.int .i64 av2,.slice av3 av4 av5,.slice av6 av7 av8,.slice av9 av10 av11,.slice av12 av13 av14] rfl rfl rfl (by kernel_rfl) (by simp [Value.oneCell']) ?_;rw [show ([.string ⟨av0.toArray⟩,.int .i64 av1,.int .i64 av2,.slice av3 av4 av5,.slice av6 av7 av8,.slice av9 av10 av11,.slice av12 av13 av14]:List Value).toArray=#[.string ⟨av0.toArray⟩,.int .i64 av1,.int .i64 av2,.slice av3 av4 av5,.slice av6 av7 av8,.slice av9 av10 av11,.slice av12 av13 av14] from rfl,← hWn,← hBa];clear hWn hBa)
  refine hc.mono ?_
  clear hc c0 c1 c2 c3 c4 c5 c6 
  rintro e w5 hone
  obtain ⟨y,rfl,hb,-⟩:=hone.one
  clear hone
  have H1_5:=Lib.hid (H1_4.out.trans (hb.mono H1_4.out.size))
  have H4_5:=Lib.hid (H4_4.out.trans (hb.mono H4_4.out.size))
  clear hb
  clear hUN
  obtain ⟨bv0,bv1,bv2,⟨bv3,bv4,bv5,bl0⟩,⟨bv6,bv7,bv8,bl1⟩,⟨bv9,bv10,bv11,bl2⟩,⟨bv12,bv13,bv14,bl3⟩⟩:=y
  simp only [TenR.val,TenR.cells,FS.val,strV]
  have hn1:=(H1_5.out).alloc H1_5.out.size (.cells #[.string ⟨bv0.toArray⟩,.int .i64 bv1,.int .i64 bv2,.slice bv3 bv4 bv5,.slice bv6 bv7 bv8,.slice bv9 bv10 bv11,.slice bv12 bv13 bv14] 27)
  have hn4:=(H4_5.out).alloc H4_5.out.size (.cells #[.string ⟨bv0.toArray⟩,.int .i64 bv1,.int .i64 bv2,.slice bv3 bv4 bv5,.slice bv6 bv7 bv8,.slice bv9 bv10 bv11,.slice bv12 bv13 bv14] 27)
  have kbn:=Blk.new w5 27 #[.string ⟨bv0.toArray⟩,.int .i64 bv1,.int .i64 bv2,.slice bv3 bv4 bv5,.slice bv6 bv7 bv8,.slice bv9 bv10 bv11,.slice bv12 bv13 bv14]
  have hsn:(w5.alloc (.cells #[.string ⟨bv0.toArray⟩,.int .i64 bv1,.int .i64 bv2,.slice bv3 bv4 bv5,.slice bv6 bv7 bv8,.slice bv9 bv10 bv11,.slice bv12 bv13 bv14] 27)).heap.size=w5.heap.size+1:=by simp
  have hbo:=((Below.refl w5.heap.size w5).alloc (Nat.le_refl _) (.cells #[.string ⟨bv0.toArray⟩,.int .i64 bv1,.int .i64 bv2,.slice bv3 bv4 bv5,.slice bv6 bv7 bv8,.slice bv9 bv10 bv11,.slice bv12 bv13 bv14] 27))
  obtain ⟨Bb,hBb⟩:∃ g,g=w5.heap.size:=⟨_,rfl⟩
  obtain ⟨w6,hWn⟩:∃ W,W=(w5.alloc (.cells #[.string ⟨bv0.toArray⟩,.int .i64 bv1,.int .i64 bv2,.slice bv3 bv4 bv5,.slice bv6 bv7 bv8,.slice bv9 bv10 bv11,.slice bv12 bv13 bv14] 27)):=⟨_,rfl⟩
  rw [← hWn] at kbn hsn hbo hn1 hn4
  rw [← hBb] at kbn
  have hSb:Hid (∀ W,Below w6.heap.size w6 W→W.cell? ⟨Bb,0,none⟩=some (.string ⟨bv0.toArray⟩)∧W.cell? ⟨Bb,1,none⟩=some (.int .i64 bv1)∧W.cell? ⟨Bb,2,none⟩=some (.int .i64 bv2)∧W.cell? ⟨Bb,3,none⟩=some (.slice bv3 bv4 bv5)∧W.cell? ⟨Bb,4,none⟩=some (.slice bv6 bv7 bv8)∧W.cell? ⟨Bb,5,none⟩=some (.slice bv9 bv10 bv11)∧W.cell? ⟨Bb,6,none⟩=some (.slice bv12 bv13 bv14)):=fun W h=>blk7 (kbn.below h (by omega))
  have H1_6:=Lib.hid hn1
  have H4_6:=Lib.hid hn4
  have H6_6:Hid (Below w6.heap.size w6 w6):=Below.refl _ _
  clear kbn hsn hbo hn1 hn4
  obtain ⟨c0,c1,c2,c3,c4,c5,c6⟩:=hSa.out w6 H4_6.out
  have hc:=hDS.out w6 H4_6.out
  go_wp2_with (refine wpList_store_new w5 rfl 27 (.tmp 11) (.tmp 38) rfl 27 [.string ⟨#[]⟩,.int .i64 0,.int .i64 0,.slice none 0 0,.slice none 0 0,.slice none 0 0,.slice none 0 0] [.string ⟨bv0.toArray⟩,.int .i64 bv1,.int .i64 bv2,.slice bv3 bv4 bv5,.slice bv6 bv7 bv8,.slice bv9 bv10 bv11,.slice bv12 bv13 bv14] rfl rfl rfl (by kernel_rfl) (by simp [Value.oneCell']) ?_;rw [show ([.string ⟨bv0.toArray⟩,.int .i64 bv1,.int .i64 bv2,.slice bv3 bv4 bv5,.slice bv6 bv7 bv8,.slice bv9 bv10 bv11,.slice bv12 bv13 bv14]:List Value).toArray=#[.string ⟨bv0.toArray⟩,.int .i64 bv1,.int .i64 bv2,.slice bv3 bv4 bv5,.slice bv6 bv7 bv8,.slice bv9 bv10 bv11,.slice bv12 bv13 bv14] from rfl,← hWn,← hBb];clear hWn hBb)
  refine hc.mono ?_
  clear hc c0 c1 c2 c3 c4 c5 c6 
  rintro e w7 hone
  obtain ⟨y,rfl,hb,-⟩:=hone.one
  clear hone
  have H1_7:=Lib.hid (H1_6.out.trans (hb.mono H1_6.out.size))
  have H4_7:=Lib.hid (H4_6.out.trans (hb.mono H4_6.out.size))
  have H6_7:=Lib.hid (H6_6.out.trans (hb.mono H6_6.out.size))
  clear hb
  clear hDS
  obtain ⟨dv0,dv1,dv2,⟨dv3,dv4,dv5,dl0⟩,⟨dv6,dv7,dv8,dl1⟩,⟨dv9,dv10,dv11,dl2⟩,⟨dv12,dv13,dv14,dl3⟩⟩:=y
  simp only [TenR.val,TenR.cells,FS.val,strV]
  have hn1:=(H1_7.out).alloc H1_7.out.size (.cells #[.string ⟨dv0.toArray⟩,.int .i64 dv1,.int .i64 dv2,.slice dv3 dv4 dv5,.slice dv6 dv7 dv8,.slice dv9 dv10 dv11,.slice dv12 dv13 dv14] 27)
  have hn4:=(H4_7.out).alloc H4_7.out.size (.cells #[.string ⟨dv0.toArray⟩,.int .i64 dv1,.int .i64 dv2,.slice dv3 dv4 dv5,.slice dv6 dv7 dv8,.slice dv9 dv10 dv11,.slice dv12 dv13 dv14] 27)
  have hn6:=(H6_7.out).alloc H6_7.out.size (.cells #[.string ⟨dv0.toArray⟩,.int .i64 dv1,.int .i64 dv2,.slice dv3 dv4 dv5,.slice dv6 dv7 dv8,.slice dv9 dv10 dv11,.slice dv12 dv13 dv14] 27)
  have kbn:=Blk.new w7 27 #[.string ⟨dv0.toArray⟩,.int .i64 dv1,.int .i64 dv2,.slice dv3 dv4 dv5,.slice dv6 dv7 dv8,.slice dv9 dv10 dv11,.slice dv12 dv13 dv14]
  have hsn:(w7.alloc (.cells #[.string ⟨dv0.toArray⟩,.int .i64 dv1,.int .i64 dv2,.slice dv3 dv4 dv5,.slice dv6 dv7 dv8,.slice dv9 dv10 dv11,.slice dv12 dv13 dv14] 27)).heap.size=w7.heap.size+1:=by simp
  have hbo:=((Below.refl w7.heap.size w7).alloc (Nat.le_refl _) (.cells #[.string ⟨dv0.toArray⟩,.int .i64 dv1,.int .i64 dv2,.slice dv3 dv4 dv5,.slice dv6 dv7 dv8,.slice dv9 dv10 dv11,.slice dv12 dv13 dv14] 27))
  obtain ⟨Bd,hBd⟩:∃ g,g=w7.heap.size:=⟨_,rfl⟩
  obtain ⟨w8,hWn⟩:∃ W,W=(w7.alloc (.cells #[.string ⟨dv0.toArray⟩,.int .i64 dv1,.int .i64 dv2,.slice dv3 dv4 dv5,.slice dv6 dv7 dv8,.slice dv9 dv10 dv11,.slice dv12 dv13 dv14] 27)):=⟨_,rfl⟩
  rw [← hWn] at kbn hsn hbo hn1 hn4 hn6
  rw [← hBd] at kbn
  have hSd:Hid (∀ W,Below w8.heap.size w8 W→W.cell? ⟨Bd,0,none⟩=some (.string ⟨dv0.toArray⟩)∧W.cell? ⟨Bd,1,none⟩=some (.int .i64 dv1)∧W.cell? ⟨Bd,2,none⟩=some (.int .i64 dv2)∧W.cell? ⟨Bd,3,none⟩=some (.slice dv3 dv4 dv5)∧W.cell? ⟨Bd,4,none⟩=some (.slice dv6 dv7 dv8)∧W.cell? ⟨Bd,5,none⟩=some (.slice dv9 dv10 dv11)∧W.cell? ⟨Bd,6,none⟩=some (.slice dv12 dv13 dv14)):=fun W h=>blk7 (kbn.below h (by omega))
  have H1_8:=Lib.hid hn1
  have H4_8:=Lib.hid hn4
  have H6_8:=Lib.hid hn6
  have H8_8:Hid (Below w8.heap.size w8 w8):=Below.refl _ _
  clear kbn hsn hbo hn1 hn4 hn6
  obtain ⟨c0,c1,c2,c3,c4,c5,c6⟩:=hSa.out w8 H4_8.out
  have hc:=hRL.out w8 H4_8.out
  go_wp2_with (refine wpList_store_new w7 rfl 27 (.tmp 13) (.tmp 44) rfl 27 [.string ⟨#[]⟩,.int .i64 0,.int .i64 0,.slice none 0 0,.slice none 0 0,.slice none 0 0,.slice none 0 0] [.string ⟨dv0.toArray⟩,.int .i64 dv1,.int .i64 dv2,.slice dv3 dv4 dv5,.slice dv6 dv7 dv8,.slice dv9 dv10 dv11,.slice dv12 dv13 dv14] rfl rfl rfl (by kernel_rfl) (by simp [Value.oneCell']) ?_;rw [show ([.string ⟨dv0.toArray⟩,.int .i64 dv1,.int .i64 dv2,.slice dv3 dv4 dv5,.slice dv6 dv7 dv8,.slice dv9 dv10 dv11,.slice dv12 dv13 dv14]:List Value).toArray=#[.string ⟨dv0.toArray⟩,.int .i64 dv1,.int .i64 dv2,.slice dv3 dv4 dv5,.slice dv6 dv7 dv8,.slice dv9 dv10 dv11,.slice dv12 dv13 dv14] from rfl,← hWn,← hBd];clear hWn hBd)
  refine hc.mono ?_
  clear hc c0 c1 c2 c3 c4 c5 c6 
  rintro e w9 ⟨v,rfl,hb,⟨h1,-⟩ | ⟨-,y,rfl,ho,hy⟩⟩
  ·exact absurd (show (0:Int)=0 from rfl) h1
  have HO:=Lib.hid ho
  have HY:=Lib.hid hy
  clear ho hy
  have H1_9:=Lib.hid (H1_8.out.trans (hb.mono H1_8.out.size))
  have H4_9:=Lib.hid (H4_8.out.trans (hb.mono H4_8.out.size))
  have H6_9:=Lib.hid (H6_8.out.trans (hb.mono H6_8.out.size))
  have H8_9:=Lib.hid (H8_8.out.trans (hb.mono H8_8.out.size))
  clear hb
  clear hRL
  obtain ⟨cv0,cv1,cv2,⟨cv3,cv4,cv5,cl0⟩,⟨cv6,cv7,cv8,cl1⟩,⟨cv9,cv10,cv11,cl2⟩,⟨cv12,cv13,cv14,cl3⟩⟩:=y
  simp only [TenR.val,TenR.cells,FS.val,strV]
  have hn1:=(H1_9.out).alloc H1_9.out.size (.cells #[.string ⟨cv0.toArray⟩,.int .i64 cv1,.int .i64 cv2,.slice cv3 cv4 cv5,.slice cv6 cv7 cv8,.slice cv9 cv10 cv11,.slice cv12 cv13 cv14] 27)
  have hn4:=(H4_9.out).alloc H4_9.out.size (.cells #[.string ⟨cv0.toArray⟩,.int .i64 cv1,.int .i64 cv2,.slice cv3 cv4 cv5,.slice cv6 cv7 cv8,.slice cv9 cv10 cv11,.slice cv12 cv13 cv14] 27)
  have hn6:=(H6_9.out).alloc H6_9.out.size (.cells #[.string ⟨cv0.toArray⟩,.int .i64 cv1,.int .i64 cv2,.slice cv3 cv4 cv5,.slice cv6 cv7 cv8,.slice cv9 cv10 cv11,.slice cv12 cv13 cv14] 27)
  have hn8:=(H8_9.out).alloc H8_9.out.size (.cells #[.string ⟨cv0.toArray⟩,.int .i64 cv1,.int .i64 cv2,.slice cv3 cv4 cv5,.slice cv6 cv7 cv8,.slice cv9 cv10 cv11,.slice cv12 cv13 cv14] 27)
  have kbn:=Blk.new w9 27 #[.string ⟨cv0.toArray⟩,.int .i64 cv1,.int .i64 cv2,.slice cv3 cv4 cv5,.slice cv6 cv7 cv8,.slice cv9 cv10 cv11,.slice cv12 cv13 cv14]
  have hsn:(w9.alloc (.cells #[.string ⟨cv0.toArray⟩,.int .i64 cv1,.int .i64 cv2,.slice cv3 cv4 cv5,.slice cv6 cv7 cv8,.slice cv9 cv10 cv11,.slice cv12 cv13 cv14] 27)).heap.size=w9.heap.size+1:=by simp
  have hbo:=((Below.refl w9.heap.size w9).alloc (Nat.le_refl _) (.cells #[.string ⟨cv0.toArray⟩,.int .i64 cv1,.int .i64 cv2,.slice cv3 cv4 cv5,.slice cv6 cv7 cv8,.slice cv9 cv10 cv11,.slice cv12 cv13 cv14] 27))
  obtain ⟨Bc,hBc⟩:∃ g,g=w9.heap.size:=⟨_,rfl⟩
  obtain ⟨w10,hWn⟩:∃ W,W=(w9.alloc (.cells #[.string ⟨cv0.toArray⟩,.int .i64 cv1,.int .i64 cv2,.slice cv3 cv4 cv5,.slice cv6 cv7 cv8,.slice cv9 cv10 cv11,.slice cv12 cv13 cv14] 27)):=⟨_,rfl⟩
  rw [← hWn] at kbn hsn hbo hn1 hn4 hn6 hn8
  rw [← hBc] at kbn
  have hSc:Hid (∀ W,Below w10.heap.size w10 W→W.cell? ⟨Bc,0,none⟩=some (.string ⟨cv0.toArray⟩)∧W.cell? ⟨Bc,1,none⟩=some (.int .i64 cv1)∧W.cell? ⟨Bc,2,none⟩=some (.int .i64 cv2)∧W.cell? ⟨Bc,3,none⟩=some (.slice cv3 cv4 cv5)∧W.cell? ⟨Bc,4,none⟩=some (.slice cv6 cv7 cv8)∧W.cell? ⟨Bc,5,none⟩=some (.slice cv9 cv10 cv11)∧W.cell? ⟨Bc,6,none⟩=some (.slice cv12 cv13 cv14)):=fun W h=>blk7 (kbn.below h (by omega))
  have H1_10:=Lib.hid hn1
  have H4_10:=Lib.hid hn4
  have H6_10:=Lib.hid hn6
  have H8_10:=Lib.hid hn8
  have H10_10:Hid (Below w10.heap.size w10 w10):=Below.refl _ _
  have hOc:Hid (∀ W,Below w10.heap.size w10 W→TenO W w4.heap.size ⟨cv0,cv1,cv2,⟨cv3,cv4,cv5,cl0⟩,⟨cv6,cv7,cv8,cl1⟩,⟨cv9,cv10,cv11,cl2⟩,⟨cv12,cv13,cv14,cl3⟩⟩):=fun W h=>((HO.out.mono (by have:=H4_8.out.size;omega)).below hbo).below (h.mono (by omega))
  have hCc:Hid (TenR.con ⟨cv0,cv1,cv2,⟨cv3,cv4,cv5,cl0⟩,⟨cv6,cv7,cv8,cl1⟩,⟨cv9,cv10,cv11,cl2⟩,⟨cv12,cv13,cv14,cl3⟩⟩=C):=HY.out
  clear HO HY
  clear kbn hsn hbo hn1 hn4 hn6 hn8
  have hSM:Hid (∀ W,Below w10.heap.size w10 W→Calls Tryz.prog 21 #[.agg #[.string ⟨cv0.toArray⟩,.int .i64 cv1,.int .i64 cv2,.slice cv3 cv4 cv5,.slice cv6 cv7 cv8,.slice cv9 cv10 cv11,.slice cv12 cv13 cv14],.agg #[.string ⟨nm.toArray⟩,.int .i64 qu,.int .i64 nx,.slice s1 sn s3,.slice gA gN gC,.slice t1 tn t3,.slice l1 ln l3]] W fun e w'=>e=.returned (.bool true)∧Below W.heap.size W w'):=fun W h=>by
   obtain ⟨g1,g2,-⟩:=hrw.out W (H1_10.out.trans (h.mono H1_10.out.size))
   have h1:=(hOc.out W h).rd
   exact same14_any ⟨cv0,cv1,cv2,⟨cv3,cv4,cv5,cl0⟩,⟨cv6,cv7,cv8,cl1⟩,⟨cv9,cv10,cv11,cl2⟩,⟨cv12,cv13,cv14,cl3⟩⟩ ⟨nm,qu,nx,⟨s1,sn,s3,sl⟩,⟨gA,gN,gC,gL⟩,⟨t1,tn,t3,tl⟩,⟨l1,ln,l3,ll⟩⟩ ((TenR.eqv_iff _ _).2 (by rw [hCc.out,hHC.out])) W W.heap.size (Nat.le_refl _) h1 (g1.more g2) (TenR.sz_of h1 (by rw [hCc.out];exact HCZ.out))
  have hCK:Hid (∀ W,Below w10.heap.size w10 W→Calls Tryz.prog 18 #[.agg #[.string ⟨av0.toArray⟩,.int .i64 av1,.int .i64 av2,.slice av3 av4 av5,.slice av6 av7 av8,.slice av9 av10 av11,.slice av12 av13 av14]] W fun e w'=>e=.returned (.int .i64 0)∧Below W.heap.size W w'):=fun W h=>by
   obtain ⟨h1,h2,h3⟩:=hrA.out W (H4_10.out.trans (h.mono H4_10.out.size))
   have e:=rcheck14_any ⟨av0,av1,av2,⟨av3,av4,av5,al0⟩,⟨av6,av7,av8,al1⟩,⟨av9,av10,av11,al2⟩,⟨av12,av13,av14,al3⟩⟩ W W.heap.size h1 (Nat.le_refl _) h2
   rw [tenE_con,hCa.out,HE.out] at e
   exact e
  have hHL:Hid (∀ W,Below w10.heap.size w10 W→Calls Tryz.prog 39 #[.agg #[.string ⟨av0.toArray⟩,.int .i64 av1,.int .i64 av2,.slice av3 av4 av5,.slice av6 av7 av8,.slice av9 av10 av11,.slice av12 av13 av14],.string ⟨p.toArray⟩,.string ⟨n.toArray⟩] W fun e w'=>e=.returned (.bool true)∧Below W.heap.size W w'):=fun W h=>by
   obtain ⟨h1,h2,h3⟩:=hrA.out W (H4_10.out.trans (h.mono H4_10.out.size))
   have e:=held_any ⟨av0,av1,av2,⟨av3,av4,av5,al0⟩,⟨av6,av7,av8,al1⟩,⟨av9,av10,av11,al2⟩,⟨av12,av13,av14,al3⟩⟩ p n W W.heap.size (Nat.le_refl _) h1 h2
   rw [held_con _ W W.heap.size h1,hCa.out,HHD.out] at e
   exact e
  have hE2b:(E2 == 0)=false:=by have h1:E2≠0:=HUN.out;simpa using h1
  have hE3b:(E3 == 0)=false:=by have h1:E3≠0:=HDS.out;simpa using h1
  have hE2n:E2≠0:=HUN.out
  have hE3n:E3≠0:=HDS.out
  have HEE:Hid ((E2 != 0 && E3 != 0)=true):=by
   have h1:(E2 != 0)=true:=by simpa using hE2n
   have h2:(E3 != 0)=true:=by simpa using hE3n
   show _=_
   rw [h1,h2]
   rfl
  clear hrA hOa hCa hOc hCc HUN HDS HE HHD HRL HV2 HV3 hHC hszC HZ HCZ HLN hrw
  obtain ⟨c0,c1,c2,c3,c4,c5,c6⟩:=hSc.out w10 (Below.refl _ _)
  obtain ⟨d0,d1,d2,d3,d4,d5,d6⟩:=blk7 (hKt.out w10 H1_10.out)
  have hc:=hSM.out w10 (Below.refl _ _)
  go_wp2_with (refine wpList_store_new w9 rfl 27 (.tmp 15) (.tmp 52) rfl 27 [.string ⟨#[]⟩,.int .i64 0,.int .i64 0,.slice none 0 0,.slice none 0 0,.slice none 0 0,.slice none 0 0] [.string ⟨cv0.toArray⟩,.int .i64 cv1,.int .i64 cv2,.slice cv3 cv4 cv5,.slice cv6 cv7 cv8,.slice cv9 cv10 cv11,.slice cv12 cv13 cv14] rfl rfl rfl (by kernel_rfl) (by simp [Value.oneCell']) ?_;rw [show ([.string ⟨cv0.toArray⟩,.int .i64 cv1,.int .i64 cv2,.slice cv3 cv4 cv5,.slice cv6 cv7 cv8,.slice cv9 cv10 cv11,.slice cv12 cv13 cv14]:List Value).toArray=#[.string ⟨cv0.toArray⟩,.int .i64 cv1,.int .i64 cv2,.slice cv3 cv4 cv5,.slice cv6 cv7 cv8,.slice cv9 cv10 cv11,.slice cv12 cv13 cv14] from rfl,← hWn,← hBc];clear hWn hBc)
  refine hc.mono ?_
  clear hc hSM c0 c1 c2 c3 c4 c5 c6 d0 d1 d2 d3 d4 d5 d6
  rintro e w21 ⟨rfl,hb21⟩
  have hc:=hCK.out w21 hb21
  obtain ⟨c0,c1,c2,c3,c4,c5,c6⟩:=hSa.out w21 (H4_10.out.trans (hb21.mono H4_10.out.size))
  have H21:=Lib.hid hb21
  clear hb21
  go_wp2_with fail
  refine hc.mono ?_
  clear hc hCK c0 c1 c2 c3 c4 c5 c6
  rintro e w22 ⟨rfl,hb22⟩
  have H22:=Lib.hid (H21.out.trans (hb22.mono H21.out.size))
  clear hb22
  have hc:=hHL.out w22 H22.out
  obtain ⟨c0,c1,c2,c3,c4,c5,c6⟩:=hSa.out w22 (H4_10.out.trans (H22.out.mono H4_10.out.size))
  go_wp2_with fail
  refine hc.mono ?_
  clear hc hHL c0 c1 c2 c3 c4 c5 c6
  rintro e w23 ⟨rfl,hb23⟩
  have H23:=Lib.hid (H22.out.trans (hb23.mono H22.out.size))
  clear hb23
  have hbf:=hBW.out _ (H1_10.out.trans (H23.out.mono H1_10.out.size))
  go_wp2_with fail
  go_ret
  refine ⟨?_,hbf⟩
  show Ending.returned (.bool (E2 != 0 && E3 != 0))=_
  rw [HEE.out]
end Go.Proofs.YtcgclpcocdappaaGreatDoor
