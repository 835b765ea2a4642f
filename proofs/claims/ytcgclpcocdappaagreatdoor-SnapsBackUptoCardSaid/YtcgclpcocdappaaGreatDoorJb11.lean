/-
  SnapsBack: behind a snapshot, whatever is written then, a rollback brings its content back: the law's walk.
-/
import Derived.WalkKit
import Derived.WalkSpells
import Derived.Below
import Derived.Laws.OwnMore
import Derived.Deep.AppendLies
import Derived.Deep.Draws
import Derived.Laws.Rows
import Derived.Maps.AppendAt
import Derived.RegionTactic
import Derived.OwnWalk
import Derived.Deep.QuietTactic
import Derived.BigQuiet
import Derived.Lib.Hide
import Derived.Laws.CopyOwn
import Derived.IntWalk
import Derived.Test.YtcgclpcocdappaaGreatDoorRows
import Derived.Handy
import Derived.Lib.AppendZeros
import Derived.ProofKit
import Derived.Deep.Quiet
import Derived.OpenShut
import Derived.ShutString
import Derived.ChangeOld
import Derived.Carry
import Derived.SizedLaws
import Derived.JoinedCond
import Derived.Deep.CondSized
import Derived.Deep.Slices
import Derived.Deep.Fields
import Derived.Lib.SmallJoins
import Derived.Orders
import Derived.Lib.SplitLaws
import Derived.Lib.LastIndexByte
import Derived.Lib.Strings
import Derived.Deep.RegionLaw
import Derived.Sort.Walk0
import Derived.Sort.KeysCollected
import Derived.Shelf.SlIter.Nil
import Derived.Shelf.SortM.Plain
import Derived.Shelf.SortM.SortNone
import Derived.Maps.OwnSet
import Derived.Maps.StringElems
import Derived.Deep.MidRow
import Derived.Shelf.Strings.Search1
import Derived.Shelf.Strings.Search2
import Derived.Shelf.Strings.Search3
import Derived.Shelf.Strings.Cut
import Derived.Shelf.Strings.Count
import Derived.Shelf.LaysM
import Derived.Shelf.Strings.Shaped
import Derived.Shelf.Strings.LastIndex
import Derived.Shelf.Strings.Split
import Derived.Shelf.Strings.SplitShaped
import Derived.Shelf.Unicode.Decode
import Derived.Shelf.Strings.RuneCount
import Derived.Shelf.Strings.Explode
import Derived.Shelf.Unicode.DecodeSlow
import Derived.Test.YtcgclpcocdappaaGreatDoorProg
import Derived.Lib.Overlaps
import Derived.Lib.AppendZerosOnto
import Derived.Laws.BytesString
import Derived.Laws.IdiomStrings
import Derived.Lib.ConvBytes
import Derived.Deep.DeepCutAuto
import Derived.Great.BuildSlice
import Derived.Test.YtcgclpcocdappaaGreatDoorJ0
import Derived.Test.YtcgclpcocdappaaGreatDoorJbkv1
import Derived.Test.YtcgclpcocdappaaGreatDoorJbkv3
import Derived.Test.YtcgclpcocdappaaGreatDoorJbkv4
import Derived.Test.YtcgclpcocdappaaGreatDoorJbkv5
import Derived.Test.YtcgclpcocdappaaGreatDoorJbkv7
import Derived.Test.YtcgclpcocdappaaGreatDoorJbkv8
import Derived.Test.YtcgclpcocdappaaGreatDoorJbkv10
import Derived.Test.YtcgclpcocdappaaGreatDoorJbkv14
import Derived.Test.YtcgclpcocdappaaGreatDoorJbkv15
import Derived.Test.YtcgclpcocdappaaGreatDoorJbkv16
import Derived.Test.YtcgclpcocdappaaGreatDoorJbkv17
import Derived.Test.YtcgclpcocdappaaGreatDoorJbkv19
import Derived.Test.YtcgclpcocdappaaGreatDoorJbkv20
import Derived.Test.YtcgclpcocdappaaGreatDoorJbkv21
import Derived.Test.YtcgclpcocdappaaGreatDoorJbkv22
import Derived.Test.YtcgclpcocdappaaGreatDoorJbkv23
import Derived.Test.YtcgclpcocdappaaGreatDoorJbkv25
import Derived.Test.YtcgclpcocdappaaGreatDoorJbkv27
import Derived.Test.YtcgclpcocdappaaGreatDoorJbk1
import Derived.Test.YtcgclpcocdappaaGreatDoorJbk3
import Derived.Test.YtcgclpcocdappaaGreatDoorJbv1
import Derived.Test.YtcgclpcocdappaaGreatDoorJb5
import Derived.Test.YtcgclpcocdappaaGreatDoorJb7
import Derived.Test.YtcgclpcocdappaaGreatDoorJb8
import Derived.Test.YtcgclpcocdappaaGreatDoorJb9
import Derived.Test.YtcgclpcocdappaaGreatDoorJb10
namespace Go.Proofs.YtcgclpcocdappaaGreatDoor
open Go.RowKit
set_option maxRecDepth 100000 in
set_option maxHeartbeats 16000000 in
theorem snapsBack_any (t:TenR) (p n:BS) (ix:Int) (d:BS) (w:World) (hr:t.rd w w.heap.size) (hz:t.sz) (hst:t.stages.n≤500000000000) (hp:p.length≤500000000) (hn:n.length≤500000000) (hmx:HasMax w) :
  Calls Tryz.prog 3 #[t.val,.string ⟨p.toArray⟩,.string ⟨n.toArray⟩,.int .i64 ix,.string ⟨d.toArray⟩] w fun e w'=>e=.returned (.bool true)∧Below w.heap.size w w':=by
 have hcz:=TenC.sz_of hr hz
 obtain ⟨nm,qu,nx,⟨s1,sn,s3,sl⟩,⟨gA,gN,gC,gL⟩,⟨t1,tn,t3,tl⟩,⟨l1,ln,l3,ll⟩⟩:=t
 show Calls Tryz.prog 3 #[.agg #[.string ⟨nm.toArray⟩,.int .i64 qu,.int .i64 nx,.slice s1 sn s3,.slice gA gN gC,.slice t1 tn t3,.slice l1 ln l3],.string ⟨p.toArray⟩,.string ⟨n.toArray⟩,.int .i64 ix,.string ⟨d.toArray⟩] w _
 have hb:=((Below.refl w.heap.size w).alloc (Nat.le_refl _) (.cells #[.string ⟨nm.toArray⟩,.int .i64 qu,.int .i64 nx,.slice s1 sn s3,.slice gA gN gC,.slice t1 tn t3,.slice l1 ln l3] 27))
 have kt:=Blk.new w 27 #[.string ⟨nm.toArray⟩,.int .i64 qu,.int .i64 nx,.slice s1 sn s3,.slice gA gN gC,.slice t1 tn t3,.slice l1 ln l3]
 have hsz:(w.alloc (.cells #[.string ⟨nm.toArray⟩,.int .i64 qu,.int .i64 nx,.slice s1 sn s3,.slice gA gN gC,.slice t1 tn t3,.slice l1 ln l3] 27)).heap.size=w.heap.size+1:=by simp
 obtain ⟨W1,hW1⟩:∃ W,W=(w.alloc (.cells #[.string ⟨nm.toArray⟩,.int .i64 qu,.int .i64 nx,.slice s1 sn s3,.slice gA gN gC,.slice t1 tn t3,.slice l1 ln l3] 27)):=⟨_,rfl⟩
 rw [← hW1] at hb hsz kt
 have hKt:Hid (∀ W,Below W1.heap.size W1 W→Blk W w.heap.size 27 #[.string ⟨nm.toArray⟩,.int .i64 qu,.int .i64 nx,.slice s1 sn s3,.slice gA gN gC,.slice t1 tn t3,.slice l1 ln l3]):=fun W h=>kt.below h (by omega)
 have hBW:Hid (∀ W,Below W1.heap.size W1 W→Below w.heap.size w W):=fun W h=>hb.trans (h.mono (by omega))
 have hSZ:Hid (∀ W,Below W1.heap.size W1 W→w.heap.size+1≤W.heap.size):=fun W h=>by have:=h.size;omega
 have hW0:Hid (Below W1.heap.size W1 W1):=Below.refl _ _
 have hrw:Hid (∀ W,Below W1.heap.size W1 W→TenR.rd W w.heap.size ⟨nm,qu,nx,⟨s1,sn,s3,sl⟩,⟨gA,gN,gC,gL⟩,⟨t1,tn,t3,tl⟩,⟨l1,ln,l3,ll⟩⟩∧w.heap.size≤W.heap.size∧HasMax W):=fun W h =>
  ⟨TenR.rd.below hr (hBW.out W h),by have:=hSZ.out W h;omega,hmx.below (hBW.out W h)⟩
 obtain ⟨C,hC⟩:∃ C,C=TenR.con ⟨nm,qu,nx,⟨s1,sn,s3,sl⟩,⟨gA,gN,gC,gL⟩,⟨t1,tn,t3,tl⟩,⟨l1,ln,l3,ll⟩⟩:=⟨_,rfl⟩
 have hHC:=Lib.hid hC
 rw [← hC] at hcz
 have hAL:Hid (∀ W,Below W1.heap.size W1 W→Calls Tryz.prog 8 #[] W fun e w'=>e=.returned (.bool true)∧Below W.heap.size W w'):=fun W h=>alive17_any W (hrw.out W h).2.2
 obtain ⟨⟨E1,C1⟩,hV1⟩:∃ V:Int×TenC,V=C.snapshot p n:=⟨_,rfl⟩
 have hSN1:Hid (∀ W,Below W1.heap.size W1 W→Calls Tryz.prog 9 #[.agg #[.string ⟨nm.toArray⟩,.int .i64 qu,.int .i64 nx,.slice s1 sn s3,.slice gA gN gC,.slice t1 tn t3,.slice l1 ln l3],.string ⟨p.toArray⟩,.string ⟨n.toArray⟩] W (TenPost3 W (C.guidAt p) (E1,C1))):=fun W h=>by
  rw [hV1,hC]
  exact snapshot_any ⟨nm,qu,nx,⟨s1,sn,s3,sl⟩,⟨gA,gN,gC,gL⟩,⟨t1,tn,t3,tl⟩,⟨l1,ln,l3,ll⟩⟩ p n W w.heap.size (hrw.out W h).2.1 (hrw.out W h).1 hz (by omega) hn (hrw.out W h).2.2
 have hFT:Hid (∀ W,Below W1.heap.size W1 W→Calls Tryz.prog 10 #[.agg #[.string ⟨nm.toArray⟩,.int .i64 qu,.int .i64 nx,.slice s1 sn s3,.slice gA gN gC,.slice t1 tn t3,.slice l1 ln l3],.string ⟨p.toArray⟩] W fun e w'=>e=.returned (.int .i64 (C.find p))∧Below W.heap.size W w'):=fun W h=>by
  rw [hC,← findS_con]
  exact refFind_any _ _ _ _ _ _ sl sn hr.sets.1 s1 s3 p W w.heap.size (hrw.out W h).1.sets.2.2 (hrw.out W h).2.1 (by have:=hz.sets;simp only at this;omega)
 have hSN:=Lib.hid (show sn=sl.length from hr.sets.1)
 have HV1:=Lib.hid hV1
 have HZ:=Lib.hid hz
 have HCZ:=Lib.hid hcz
 have HST:Hid (C.stages.length≤500000000000):=by
  show _≤_
  rw [hC]
  have h1:tn=tl.length:=hr.stages.1
  have h2:tn≤500000000000:=hst
  have h3:(TenR.con ⟨nm,qu,nx,⟨s1,sn,s3,sl⟩,⟨gA,gN,gC,gL⟩,⟨t1,tn,t3,tl⟩,⟨l1,ln,l3,ll⟩⟩).stages.length=tl.length:=List.length_map ..
  omega
 have HLN:=Lib.hid (show p.length≤500000000∧n.length≤500000000 from ⟨hp,hn⟩)
 clear hb hsz kt hr hz hmx hC hcz hV1 hp hn hst
 go_enter Tryz.func3,Tryz.ntmps3
 have hc:=hAL.out W1 hW0.out
 go_wp2_with fail
 rw [← hW1]
 clear hW1
 refine hc.mono ?_
 clear hc 
 rintro e w2 ⟨rfl,hb⟩
 have H1_2:=Lib.hid (hW0.out.trans (hb.mono hW0.out.size))
 clear hb
 have hc:=hSN1.out w2 H1_2.out
 have kk:=hKt.out _ H1_2.out
 obtain ⟨c0,c1,c2,c3,c4,c5,c6⟩:=(⟨kk.cell 0,kk.cell 1,kk.cell 2,kk.cell 3,kk.cell 4,kk.cell 5,kk.cell 6⟩:_∧_∧_∧_∧_∧_∧_)
 simp only [zF,zD,zE] at c0 c1 c2 c3 c4 c5 c6
 clear kk
 go_wp2_with fail
 refine hc.mono ?_
 clear hc c0 c1 c2 c3 c4 c5 c6
 rintro e w3 ⟨v,gi,rfl,hb,hcs⟩
 have H1_3:=Lib.hid (H1_2.out.trans (hb.mono H1_2.out.size))
 clear hb
 rcases hcs with ⟨h1,rfl,-⟩ | ⟨h1,-,y,rfl,ho,hy⟩
 ·have hE1b:(E1 == 0)=false:=by have h1:E1≠0:=h1;simpa using h1
  have hbn:=(H1_3.out).alloc H1_3.out.size (.cells #[.string ⟨#[]⟩,.int .i64 0,.int .i64 0,.slice none 0 0,.slice none 0 0,.slice none 0 0,.slice none 0 0] 27)
  have kbn:=Blk.new w3 27 #[.string ⟨#[]⟩,.int .i64 0,.int .i64 0,.slice none 0 0,.slice none 0 0,.slice none 0 0,.slice none 0 0]
  have hsn:(w3.alloc (.cells #[.string ⟨#[]⟩,.int .i64 0,.int .i64 0,.slice none 0 0,.slice none 0 0,.slice none 0 0,.slice none 0 0] 27)).heap.size=w3.heap.size+1:=by simp
  obtain ⟨Bz9,hBz9⟩:∃ g,g=w3.heap.size:=⟨_,rfl⟩
  obtain ⟨w40,hWn⟩:∃ W,W=(w3.alloc (.cells #[.string ⟨#[]⟩,.int .i64 0,.int .i64 0,.slice none 0 0,.slice none 0 0,.slice none 0 0,.slice none 0 0] 27)):=⟨_,rfl⟩
  rw [← hWn] at hbn kbn hsn 
  have HW40:=Lib.hid hbn
  rw [← hBz9] at kbn
  have hKz9:Hid (∀ W,Below w40.heap.size w40 W→Blk W Bz9 27 #[.string ⟨#[]⟩,.int .i64 0,.int .i64 0,.slice none 0 0,.slice none 0 0,.slice none 0 0,.slice none 0 0]):=fun W h=>kbn.below h (by omega)
  have HZz9:=Lib.hid (show Bz9=w3.heap.size∧w40.heap.size=w3.heap.size+1 from ⟨hBz9,hsn⟩)
  clear hbn kbn hsn 
  unfold ZEROT
  go_wp2_with (refine wpList_store_new w3 rfl 27 (.tmp 11) (.tmp 26) rfl 27 [.string ⟨#[]⟩,.int .i64 0,.int .i64 0,.slice none 0 0,.slice none 0 0,.slice none 0 0,.slice none 0 0] [.string ⟨#[]⟩,.int .i64 0,.int .i64 0,.slice none 0 0,.slice none 0 0,.slice none 0 0,.slice none 0 0] rfl rfl rfl (by kernel_rfl) (by simp [Value.oneCell']) ?_;rw [show ([.string ⟨#[]⟩,.int .i64 0,.int .i64 0,.slice none 0 0,.slice none 0 0,.slice none 0 0,.slice none 0 0]:List Value).toArray=#[.string ⟨#[]⟩,.int .i64 0,.int .i64 0,.slice none 0 0,.slice none 0 0,.slice none 0 0,.slice none 0 0] from rfl,← hWn,← hBz9];clear hWn hBz9)
  go_ret
  exact ⟨rfl,hBW.out _ HW40.out⟩
 ·replace h1:E1=0:=h1
  subst h1
  have HO:=Lib.hid ho
  have HY:=Lib.hid hy
  clear ho hy
  obtain ⟨k,sC,sA,m,yA,hfk,hCk,hAk,hbd,hop,hmy,hml,hyb,hAE,hroll⟩:=rollback_law C C1 p n ix d HV1.out
  have hszC:Hid (C1.sz):=snapshot_sz HCZ.out p n (by have:=HLN.out;omega) C1 HV1.out
  have hstC:Hid (C1.stages.length≤500000000000):=by
   obtain ⟨_,_,e1,_⟩:=snapshot_form C p n C1 HV1.out
   show _≤_
   rw [e1]
   exact HST.out
  have HROLL:=Lib.hid hroll
  have HFK:=Lib.hid hfk
  have HF1:=Lib.hid (show C.sets[k]?=some sC∧C1.sets[k]?=some sA∧sA.body=sC.body∧sA.own=sC.own∧sA.snaps[m]?=some yA∧m+1=sA.snaps.length∧yA.body=sA.body from ⟨hCk,hAk,hbd,hop,hmy,hml,hyb⟩)
  rw [hfk] at hFT
  clear hfk hCk hAk hbd hop hmy hml hyb hAE hroll HV1
  obtain ⟨av0,av1,av2,⟨av3,av4,av5,al0⟩,⟨av6,av7,av8,al1⟩,⟨av9,av10,av11,al2⟩,⟨av12,av13,av14,al3⟩⟩:=y
  simp only [TenR.val,TenR.cells,FS.val,strV]
  have hn1:=(H1_3.out).alloc H1_3.out.size (.cells #[.string ⟨av0.toArray⟩,.int .i64 av1,.int .i64 av2,.slice av3 av4 av5,.slice av6 av7 av8,.slice av9 av10 av11,.slice av12 av13 av14] 27)
  have kbn:=Blk.new w3 27 #[.string ⟨av0.toArray⟩,.int .i64 av1,.int .i64 av2,.slice av3 av4 av5,.slice av6 av7 av8,.slice av9 av10 av11,.slice av12 av13 av14]
  have hsn:(w3.alloc (.cells #[.string ⟨av0.toArray⟩,.int .i64 av1,.int .i64 av2,.slice av3 av4 av5,.slice av6 av7 av8,.slice av9 av10 av11,.slice av12 av13 av14] 27)).heap.size=w3.heap.size+1:=by simp
  have hbo:=((Below.refl w3.heap.size w3).alloc (Nat.le_refl _) (.cells #[.string ⟨av0.toArray⟩,.int .i64 av1,.int .i64 av2,.slice av3 av4 av5,.slice av6 av7 av8,.slice av9 av10 av11,.slice av12 av13 av14] 27))
  obtain ⟨Ba,hBa⟩:∃ g,g=w3.heap.size:=⟨_,rfl⟩
  obtain ⟨w4,hWn⟩:∃ W,W=(w3.alloc (.cells #[.string ⟨av0.toArray⟩,.int .i64 av1,.int .i64 av2,.slice av3 av4 av5,.slice av6 av7 av8,.slice av9 av10 av11,.slice av12 av13 av14] 27)):=⟨_,rfl⟩
  rw [← hWn] at kbn hsn hbo hn1
  rw [← hBa] at kbn
  have hSa:Hid (∀ W,Below w4.heap.size w4 W→W.cell? ⟨Ba,0,none⟩=some (.string ⟨av0.toArray⟩)∧W.cell? ⟨Ba,1,none⟩=some (.int .i64 av1)∧W.cell? ⟨Ba,2,none⟩=some (.int .i64 av2)∧W.cell? ⟨Ba,3,none⟩=some (.slice av3 av4 av5)∧W.cell? ⟨Ba,4,none⟩=some (.slice av6 av7 av8)∧W.cell? ⟨Ba,5,none⟩=some (.slice av9 av10 av11)∧W.cell? ⟨Ba,6,none⟩=some (.slice av12 av13 av14)):=fun W h=>blk7 (kbn.below h (by omega))
  have H1_4:=Lib.hid hn1
  have H4_4:Hid (Below w4.heap.size w4 w4):=Below.refl _ _
  have hOa:Hid (∀ W,Below w4.heap.size w4 W→TenO W w2.heap.size ⟨av0,av1,av2,⟨av3,av4,av5,al0⟩,⟨av6,av7,av8,al1⟩,⟨av9,av10,av11,al2⟩,⟨av12,av13,av14,al3⟩⟩):=fun W h=>(HO.out.below hbo).below (h.mono (by omega))
  have hCa:Hid (TenR.con ⟨av0,av1,av2,⟨av3,av4,av5,al0⟩,⟨av6,av7,av8,al1⟩,⟨av9,av10,av11,al2⟩,⟨av12,av13,av14,al3⟩⟩=C1):=HY.out
  clear HO HY
  clear kbn hsn hbo hn1
  have hrA:Hid (∀ W,Below w4.heap.size w4 W→TenR.rd W W.heap.size ⟨av0,av1,av2,⟨av3,av4,av5,al0⟩,⟨av6,av7,av8,al1⟩,⟨av9,av10,av11,al2⟩,⟨av12,av13,av14,al3⟩⟩∧TenR.sz ⟨av0,av1,av2,⟨av3,av4,av5,al0⟩,⟨av6,av7,av8,al1⟩,⟨av9,av10,av11,al2⟩,⟨av12,av13,av14,al3⟩⟩∧HasMax W):=fun W h=>by
   have h1:=(hOa.out W h).rd
   exact ⟨h1,TenR.sz_of h1 (by rw [hCa.out];exact hszC.out),(hrw.out W (H1_4.out.trans (h.mono H1_4.out.size))).2.2⟩
  obtain ⟨⟨E2,C2⟩,hV2⟩:∃ V:Int×TenC,V=changeQ (C1.changed p (writeF ix d)):=⟨_,rfl⟩
  have HV2:=Lib.hid hV2
  have hTU:Hid (∀ W,Below w4.heap.size w4 W→Calls Tryz.prog 11 #[.agg #[.string ⟨av0.toArray⟩,.int .i64 av1,.int .i64 av2,.slice av3 av4 av5,.slice av6 av7 av8,.slice av9 av10 av11,.slice av12 av13 av14],.string ⟨p.toArray⟩,.int .i64 1,.int .i64 ix,.int .i64 0,.string ⟨#[]⟩,.string ⟨d.toArray⟩] W (TenPost W (E2,C2))):=fun W h=>by
   obtain ⟨h1,h2,h3⟩:=hrA.out W h
   rw [hV2,← hCa.out]
   exact rturn1_any ⟨av0,av1,av2,⟨av3,av4,av5,al0⟩,⟨av6,av7,av8,al1⟩,⟨av9,av10,av11,al2⟩,⟨av12,av13,av14,al3⟩⟩ p ix d W W.heap.size (Nat.le_refl _) h1 h2 (by
    have h4:=h1.stages.1
    have h5:(TenR.con ⟨av0,av1,av2,⟨av3,av4,av5,al0⟩,⟨av6,av7,av8,al1⟩,⟨av9,av10,av11,al2⟩,⟨av12,av13,av14,al3⟩⟩).stages.length=(TenR.stages ⟨av0,av1,av2,⟨av3,av4,av5,al0⟩,⟨av6,av7,av8,al1⟩,⟨av9,av10,av11,al2⟩,⟨av12,av13,av14,al3⟩⟩).l.length:=List.length_map ..
    have h6:=hstC.out
    rw [← hCa.out,h5] at h6
    omega) (by have:=HLN.out;omega)
  clear hV2
  have hc:=hFT.out w4 H1_4.out
  have kk:=hKt.out _ H1_4.out
  obtain ⟨c0,c1,c2,c3,c4,c5,c6⟩:=(⟨kk.cell 0,kk.cell 1,kk.cell 2,kk.cell 3,kk.cell 4,kk.cell 5,kk.cell 6⟩:_∧_∧_∧_∧_∧_∧_)
  simp only [zF,zD,zE] at c0 c1 c2 c3 c4 c5 c6
  clear kk
  go_wp2_with (refine wpList_store_new w3 rfl 27 (.tmp 11) (.tmp 26) rfl 27 [.string ⟨#[]⟩,.int .i64 0,.int .i64 0,.slice none 0 0,.slice none 0 0,.slice none 0 0,.slice none 0 0] [.string ⟨av0.toArray⟩,.int .i64 av1,.int .i64 av2,.slice av3 av4 av5,.slice av6 av7 av8,.slice av9 av10 av11,.slice av12 av13 av14] rfl rfl rfl (by kernel_rfl) (by simp [Value.oneCell']) ?_;rw [show ([.string ⟨av0.toArray⟩,.int .i64 av1,.int .i64 av2,.slice av3 av4 av5,.slice av6 av7 av8,.slice av9 av10 av11,.slice av12 av13 av14]:List Value).toArray=#[.string ⟨av0.toArray⟩,.int .i64 av1,.int .i64 av2,.slice av3 av4 av5,.slice av6 av7 av8,.slice av9 av10 av11,.slice av12 av13 av14] from rfl,← hWn,← hBa];clear hWn hBa)
  refine hc.mono ?_
  clear hc c0 c1 c2 c3 c4 c5 c6
  rintro e w5 ⟨rfl,hb⟩
  have H1_5:=Lib.hid (H1_4.out.trans (hb.mono H1_4.out.size))
  have H4_5:=Lib.hid (H4_4.out.trans (hb.mono H4_4.out.size))
  clear hb
  obtain ⟨c0,c1,c2,c3,c4,c5,c6⟩:=hSa.out w5 H4_5.out
  have hc:=hTU.out w5 H4_5.out
  go_wp2_with fail
  refine hc.mono ?_
  clear hc c0 c1 c2 c3 c4 c5 c6 
  rintro e w6 ⟨v,rfl,hb,hcs2⟩
  have H1_6:=Lib.hid (H1_5.out.trans (hb.mono H1_5.out.size))
  have H4_6:=Lib.hid (H4_5.out.trans (hb.mono H4_5.out.size))
  clear hb
  rcases hcs2 with ⟨h1,rfl⟩ | ⟨h1,y,rfl,ho,hy⟩
  ·unfold ZEROT
   have hE2:E2≠0:=h1
   have hE2b:(E2 == 0)=false:=by simpa using hE2
   have hnz:=Blk.new w6 27 #[.string ⟨#[]⟩,.int .i64 0,.int .i64 0,.slice none 0 0,.slice none 0 0,.slice none 0 0,.slice none 0 0]
   have hbz:=(Below.refl w6.heap.size w6).alloc (Nat.le_refl _) (.cells #[.string ⟨#[]⟩,.int .i64 0,.int .i64 0,.slice none 0 0,.slice none 0 0,.slice none 0 0,.slice none 0 0] 27)
   obtain ⟨wz,hWz⟩:∃ W,W=(w6.alloc (.cells #[.string ⟨#[]⟩,.int .i64 0,.int .i64 0,.slice none 0 0,.slice none 0 0,.slice none 0 0,.slice none 0 0] 27)):=⟨_,rfl⟩
   have hszz:wz.heap.size=w6.heap.size+1:=by rw [hWz];simp
   rw [← hWz] at hnz hbz
   obtain ⟨Bb,hBb⟩:∃ g,g=w6.heap.size:=⟨_,rfl⟩
   rw [← hBb] at hnz
   obtain ⟨w7,hWn,hth,hKb,hBlo,hgw⟩:=box7 (g:=Bb) [.string ⟨av0.toArray⟩,.int .i64 av1,.int .i64 av2,.slice av3 av4 av5,.slice av6 av7 av8,.slice av9 av10 av11,.slice av12 av13 av14] hnz hbz (by omega)
   have hoA:=(hOa.out w6 H4_6.out).below hbz
   have hoA:=hoA.keptT hgw hnz offT_ten
   have hsn:w6.heap.size≤w7.heap.size∧Bb<w7.heap.size:=by have h1:=hKb.out.lt;have h2:=hBlo.out.size;exact ⟨h2,h1⟩
   obtain ⟨c0,c1,c2,c3,c4,c5,c6⟩:_∧_∧_∧_∧_∧_∧_:=hSa.out wz (H4_6.out.trans (hbz.mono H4_6.out.size))
   have hSb:Hid (∀ W,Below w7.heap.size w7 W→W.cell? ⟨Bb,0,none⟩=some (.string ⟨av0.toArray⟩)∧W.cell? ⟨Bb,1,none⟩=some (.int .i64 av1)∧W.cell? ⟨Bb,2,none⟩=some (.int .i64 av2)∧W.cell? ⟨Bb,3,none⟩=some (.slice av3 av4 av5)∧W.cell? ⟨Bb,4,none⟩=some (.slice av6 av7 av8)∧W.cell? ⟨Bb,5,none⟩=some (.slice av9 av10 av11)∧W.cell? ⟨Bb,6,none⟩=some (.slice av12 av13 av14)):=fun W h=>blk7 (hKb.out.below h hKb.out.lt)
   have H1_7:=Lib.hid (H1_6.out.trans (hBlo.out.mono H1_6.out.size))
   have H4_7:=Lib.hid (H4_6.out.trans (hBlo.out.mono H4_6.out.size))
   have H7_7:Hid (Below w7.heap.size w7 w7):=Below.refl _ _
   have hOb:Hid (∀ W,Below w7.heap.size w7 W→TenO W w2.heap.size ⟨av0,av1,av2,⟨av3,av4,av5,al0⟩,⟨av6,av7,av8,al1⟩,⟨av9,av10,av11,al2⟩,⟨av12,av13,av14,al3⟩⟩):=fun W h=>hoA.below h
   have hszB:=hszC
   have hBB:Hid (C1.rollback p n=(0,C1)):=HROLL.out C1 (.inl rfl)
   have hCb:=hCa
   clear hnz hgw hszz hE2 h1 hoA hsn
   have hrB:Hid (∀ W,Below w7.heap.size w7 W→Calls Tryz.prog 12 #[.agg #[.string ⟨av0.toArray⟩,.int .i64 av1,.int .i64 av2,.slice av3 av4 av5,.slice av6 av7 av8,.slice av9 av10 av11,.slice av12 av13 av14],.string ⟨p.toArray⟩,.string ⟨n.toArray⟩] W (TenPost W (0,C1))):=fun W h=>by
    have h1:=(hOb.out W h).rd
    have h2:=TenR.sz_of h1 (by rw [hCb.out];exact hszB.out)
    rw [← hBB.out,← hCb.out]
    exact rollback_any ⟨av0,av1,av2,⟨av3,av4,av5,al0⟩,⟨av6,av7,av8,al1⟩,⟨av9,av10,av11,al2⟩,⟨av12,av13,av14,al3⟩⟩ p n W W.heap.size (Nat.le_refl _) h1 h2 (by have:=HLN.out;omega) (hrw.out W (H1_7.out.trans (h.mono H1_7.out.size))).2.2
   obtain ⟨c0,c1,c2,c3,c4,c5,c6⟩:=hSb.out w7 (Below.refl _ _)
   have hc:=hrB.out w7 (Below.refl _ _)
   go_wp2_with (first | (refine wpList_store_new w6 rfl 27 (.tmp 15) (.tmp 40) rfl 27 [.string ⟨#[]⟩,.int .i64 0,.int .i64 0,.slice none 0 0,.slice none 0 0,.slice none 0 0,.slice none 0 0] [.string ⟨#[]⟩,.int .i64 0,.int .i64 0,.slice none 0 0,.slice none 0 0,.slice none 0 0,.slice none 0 0] rfl rfl rfl (by kernel_rfl) (by simp [Value.oneCell']) ?_;rw [show ([.string ⟨#[]⟩,.int .i64 0,.int .i64 0,.slice none 0 0,.slice none 0 0,.slice none 0 0,.slice none 0 0]:List Value).toArray=#[.string ⟨#[]⟩,.int .i64 0,.int .i64 0,.slice none 0 0,.slice none 0 0,.slice none 0 0,.slice none 0 0] from rfl,← hWz,← hBb];clear hWz hBb) | (refine wpList_store_mid rfl 27 (.tmp 15) (.tmp 44) rfl Bb 0 #[.string ⟨av0.toArray⟩,.int .i64 av1,.int .i64 av2,.slice av3 av4 av5,.slice av6 av7 av8,.slice av9 av10 av11,.slice av12 av13 av14] rfl rfl hth.out (by kernel_rfl) (by simp [Value.oneCell']) ?_;rw [← hWn];clear hWn hth))
   refine hc.mono ?_
   clear hc c0 c1 c2 c3 c4 c5 c6 
   rintro e w8 ⟨v,rfl,hb,⟨h1,-⟩ | ⟨-,y,rfl,ho,hy⟩⟩
   ·exact absurd (show (0:Int)=0 from rfl) h1
   have HO:=Lib.hid ho
   have HY:=Lib.hid hy
   clear ho hy
   have H1_8:=Lib.hid (H1_7.out.trans (hb.mono H1_7.out.size))
   have H4_8:=Lib.hid (H4_7.out.trans (hb.mono H4_7.out.size))
   have H7_8:=Lib.hid (H7_7.out.trans (hb.mono H7_7.out.size))
   clear hb
   obtain ⟨cv0,cv1,cv2,⟨cv3,cv4,cv5,cl0⟩,⟨cv6,cv7,cv8,cl1⟩,⟨cv9,cv10,cv11,cl2⟩,⟨cv12,cv13,cv14,cl3⟩⟩:=y
   simp only [TenR.val,TenR.cells,FS.val,strV]
   have hn1:=(H1_8.out).alloc H1_8.out.size (.cells #[.string ⟨cv0.toArray⟩,.int .i64 cv1,.int .i64 cv2,.slice cv3 cv4 cv5,.slice cv6 cv7 cv8,.slice cv9 cv10 cv11,.slice cv12 cv13 cv14] 27)
   have hn4:=(H4_8.out).alloc H4_8.out.size (.cells #[.string ⟨cv0.toArray⟩,.int .i64 cv1,.int .i64 cv2,.slice cv3 cv4 cv5,.slice cv6 cv7 cv8,.slice cv9 cv10 cv11,.slice cv12 cv13 cv14] 27)
   have hn7:=(H7_8.out).alloc H7_8.out.size (.cells #[.string ⟨cv0.toArray⟩,.int .i64 cv1,.int .i64 cv2,.slice cv3 cv4 cv5,.slice cv6 cv7 cv8,.slice cv9 cv10 cv11,.slice cv12 cv13 cv14] 27)
   have kbn:=Blk.new w8 27 #[.string ⟨cv0.toArray⟩,.int .i64 cv1,.int .i64 cv2,.slice cv3 cv4 cv5,.slice cv6 cv7 cv8,.slice cv9 cv10 cv11,.slice cv12 cv13 cv14]
   have hsn:(w8.alloc (.cells #[.string ⟨cv0.toArray⟩,.int .i64 cv1,.int .i64 cv2,.slice cv3 cv4 cv5,.slice cv6 cv7 cv8,.slice cv9 cv10 cv11,.slice cv12 cv13 cv14] 27)).heap.size=w8.heap.size+1:=by simp
   have hbo:=((Below.refl w8.heap.size w8).alloc (Nat.le_refl _) (.cells #[.string ⟨cv0.toArray⟩,.int .i64 cv1,.int .i64 cv2,.slice cv3 cv4 cv5,.slice cv6 cv7 cv8,.slice cv9 cv10 cv11,.slice cv12 cv13 cv14] 27))
   obtain ⟨Bc,hBc⟩:∃ g,g=w8.heap.size:=⟨_,rfl⟩
   obtain ⟨w9,hWn⟩:∃ W,W=(w8.alloc (.cells #[.string ⟨cv0.toArray⟩,.int .i64 cv1,.int .i64 cv2,.slice cv3 cv4 cv5,.slice cv6 cv7 cv8,.slice cv9 cv10 cv11,.slice cv12 cv13 cv14] 27)):=⟨_,rfl⟩
   rw [← hWn] at kbn hsn hbo hn1 hn4 hn7
   rw [← hBc] at kbn
   have hSc:Hid (∀ W,Below w9.heap.size w9 W→W.cell? ⟨Bc,0,none⟩=some (.string ⟨cv0.toArray⟩)∧W.cell? ⟨Bc,1,none⟩=some (.int .i64 cv1)∧W.cell? ⟨Bc,2,none⟩=some (.int .i64 cv2)∧W.cell? ⟨Bc,3,none⟩=some (.slice cv3 cv4 cv5)∧W.cell? ⟨Bc,4,none⟩=some (.slice cv6 cv7 cv8)∧W.cell? ⟨Bc,5,none⟩=some (.slice cv9 cv10 cv11)∧W.cell? ⟨Bc,6,none⟩=some (.slice cv12 cv13 cv14)):=fun W h=>blk7 (kbn.below h (by omega))
   have H1_9:=Lib.hid hn1
   have H4_9:=Lib.hid hn4
   have H7_9:=Lib.hid hn7
   have H9_9:Hid (Below w9.heap.size w9 w9):=Below.refl _ _
   have hOc:Hid (∀ W,Below w9.heap.size w9 W→TenO W w7.heap.size ⟨cv0,cv1,cv2,⟨cv3,cv4,cv5,cl0⟩,⟨cv6,cv7,cv8,cl1⟩,⟨cv9,cv10,cv11,cl2⟩,⟨cv12,cv13,cv14,cl3⟩⟩):=fun W h=>(HO.out.below hbo).below (h.mono (by omega))
   have hCc:Hid (TenR.con ⟨cv0,cv1,cv2,⟨cv3,cv4,cv5,cl0⟩,⟨cv6,cv7,cv8,cl1⟩,⟨cv9,cv10,cv11,cl2⟩,⟨cv12,cv13,cv14,cl3⟩⟩=C1):=HY.out
   clear HO HY
   clear kbn hsn hbo hn1 hn4 hn7
   have hX1:Hid (∀ W,Below w9.heap.size w9 W→Below W1.heap.size W1 W):=fun W h=>H1_9.out.trans (h.mono H1_9.out.size)
   obtain ⟨hCk,hAk,hbd,hop,hmy,hml,hyb⟩:=HF1.out
   -- the sets of both
   obtain ⟨hk1,x,hx,hxc⟩:∃ (hk1:k<sl.length) (x:SetR),x=sl[k]'hk1∧x.con=sC:=by
    have h:=hCk
    rw [hHC.out] at h
    have h:(sl.map SetR.con)[k]?=some sC:=h
    rw [List.getElem?_map] at h
    cases h2:sl[k]? with
    | none=>rw [h2] at h;cases h
    | some x =>
     rw [h2] at h
     obtain ⟨h3,h4⟩:=List.getElem?_eq_some_iff.1 h2
     exact ⟨h3,x,h4.symm,Option.some.inj h⟩
   obtain ⟨hk2,z,hz,hzc⟩:∃ (hk2:k<cl0.length) (z:SetR),z=cl0[k]'hk2∧z.con=sA:=by
    have h:=hAk
    rw [← hCc.out] at h
    have h:(cl0.map SetR.con)[k]?=some sA:=h
    rw [List.getElem?_map] at h
    cases h2:cl0[k]? with
    | none=>rw [h2] at h;cases h
    | some x =>
     rw [h2] at h
     obtain ⟨h3,h4⟩:=List.getElem?_eq_some_iff.1 h2
     exact ⟨h3,x,h4.symm,Option.some.inj h⟩
   have hzx:z.body.l=x.body.l:=by
    have h1:z.con.body=x.con.body:=by rw [hzc,hxc];exact hbd
    exact h1
   have hzo:z.own.l=x.own.l:=by
    have h1:z.con.own=x.con.own:=by rw [hzc,hxc];exact hop
    exact h1
   obtain ⟨snR,hyR,hyRb⟩:∃ y:SnapR,z.snaps.l[m]?=some y∧y.body.l=z.body.l:=by
    have h:(z.snaps.l.map SnapR.con)[m]?=some yA:=by rw [← hzc] at hmy;exact hmy
    rw [List.getElem?_map] at h
    cases h2:z.snaps.l[m]? with
    | none=>rw [h2] at h;cases h
    | some y =>
     rw [h2] at h
     have h3:=Option.some.inj h
     refine ⟨y,rfl,?_⟩
     have h4:y.con.body=z.con.body:=by rw [h3,hzc];exact hyb
     exact h4
   have hzm:m+1=z.snaps.l.length:=by
    have h:m+1=(z.snaps.l.map SnapR.con).length:=by rw [← hzc] at hml;exact hml
    rwa [List.length_map] at h
   have hTR:Hid (∀ W,Below w9.heap.size w9 W→x.rd W w.heap.size∧w.heap.size≤W.heap.size∧x.sz∧z.rd W W.heap.size∧z.sz):=fun W h=>by
    obtain ⟨g1,g2,-⟩:=hrw.out W (hX1.out W h)
    have g3:=g1.eachS _ (List.getElem_mem hk1)
    simp only [← hx] at g3
    have g4:=HZ.out.eachS _ (List.getElem_mem hk1)
    simp only [← hx] at g4
    have g5:=(hOc.out W h).rd
    have g6:=TenR.sz_of g5 (by rw [hCc.out];exact hszC.out)
    have g7:=g5.eachS _ (List.getElem_mem hk2)
    simp only [← hz] at g7
    have g8:=g6.eachS _ (List.getElem_mem hk2)
    simp only [← hz] at g8
    exact ⟨g3,g2,g4,g7,g8⟩
   have hks:k<sn:=by have:=hSN.out;omega
   have hkc:k<cv4:=by have h:=(hOc.out _ (Below.refl _ _)).sets.1;simp only at h;omega
   obtain ⟨ad,hsa,-⟩:=set_at (hrw.out _ (hX1.out _ (Below.refl _ _))).1.sets.2.2 hSN.out hks
   simp only at hsa
   obtain ⟨ac,hsc,-⟩:=set_at (hOc.out _ (Below.refl _ _)).rd.sets.2.2 (hOc.out _ (Below.refl _ _)).sets.1 hkc
   simp only at hsc
   have hS:Hid (∀ W,Below w9.heap.size w9 W→W.cell? ⟨w.heap.size,3,none⟩=some (.slice (some ad) sn s3)∧W.cell? ⟨Bc,3,none⟩=some (.slice (some ac) cv4 cv5) ∧
     W.cell? ⟨(ad.add (k*5)).block,(ad.add (k*5)).off+2,none⟩=some (.slice x.body.A x.body.n x.body.c)∧W.cell? ⟨(ad.add (k*5)).block,(ad.add (k*5)).off+4,none⟩=some (.slice x.own.A x.own.n x.own.c) ∧
     W.cell? (ac.add (k*5))=some (.string ⟨z.path.toArray⟩)∧W.cell? ⟨(ac.add (k*5)).block,(ac.add (k*5)).off+1,none⟩=some (.string ⟨z.org.toArray⟩)∧W.cell? ⟨(ac.add (k*5)).block,(ac.add (k*5)).off+2,none⟩=some (.slice z.body.A z.body.n z.body.c)∧W.cell? ⟨(ac.add (k*5)).block,(ac.add (k*5)).off+3,none⟩=some (.slice z.snaps.A z.snaps.n z.snaps.c)∧W.cell? ⟨(ac.add (k*5)).block,(ac.add (k*5)).off+4,none⟩=some (.slice z.own.A z.own.n z.own.c)):=fun W h=>by
    obtain ⟨ad2,e2,-,-,-,q2,-,q4⟩:=set_at (hrw.out W (hX1.out W h)).1.sets.2.2 hSN.out hks
    simp only [hsa] at e2
    injection e2 with e2
    subst e2
    simp only [← hx] at q2 q4
    obtain ⟨ac2,e3,-,r0,r1,r2,r3,r4⟩:=set_at (hOc.out W h).rd.sets.2.2 (hOc.out W h).sets.1 hkc
    simp only [hsc] at e3
    injection e3 with e3
    subst e3
    simp only [← hz] at r0 r1 r2 r3 r4
    have t3:=(blk7 (hKt.out W (hX1.out W h))).2.2.2.1
    have c3:=(hSc.out W h).2.2.2.1
    rw [hsa] at t3
    rw [hsc] at c3
    exact ⟨t3,c3,q2,q4,r0,r1,r2,r3,r4⟩
   have hSM:Hid (∀ W,Below w9.heap.size w9 W→Calls Tryz.prog 13 #[.slice z.body.A z.body.n z.body.c,.slice x.body.A x.body.n x.body.c] W fun e w'=>e=.returned (.bool true)∧Below W.heap.size W w'):=fun W h=>by
    obtain ⟨g1,g2,g3,g4,g5⟩:=hTR.out W h
    have h1:=g4.body.1
    have h2:z.body.n=x.body.n:=by rw [h1,g1.body.1,hzx]
    have h3:Reads W W.heap.size 2 z.body.A z.body.n (bcells x.body.l):=by rw [← hzx];exact g4.body.2.2
    rw [h2] at h3 ⊢
    exact rsameT_any x.body.l x.body.n g1.body.1 _ _ _ _ W W.heap.size h3 (g1.body.2.2.more g2) g3.body
   have hSP:Hid (∀ W,Below w9.heap.size w9 W→Calls Tryz.prog 14 #[.slice z.own.A z.own.n z.own.c,.slice x.own.A x.own.n x.own.c] W fun e w'=>e=.returned (.bool true)∧Below W.heap.size W w'):=fun W h=>by
    obtain ⟨g1,g2,g3,g4,g5⟩:=hTR.out W h
    have h1:=g4.own.1
    have h2:z.own.n=x.own.n:=by rw [h1,g1.own.1,hzo]
    have h3:Reads W W.heap.size 2 z.own.A z.own.n (pcells x.own.l):=by rw [← hzo];exact g4.own.2.2
    rw [h2] at h3 ⊢
    exact samePropsT_any x.own.l x.own.n g1.own.1 _ _ _ _ W W.heap.size h3 (g1.own.2.2.more g2) g3.own
   have hCH:Hid (∀ W,Below w9.heap.size w9 W→Calls Tryz.prog 15 #[.agg #[.string ⟨z.path.toArray⟩,.string ⟨z.org.toArray⟩,.slice z.body.A z.body.n z.body.c,.slice z.snaps.A z.snaps.n z.snaps.c,.slice z.own.A z.own.n z.own.c]] W fun e w'=>e=.returned (.int .i64 0)∧Below W.heap.size W w'):=fun W h=>by
    obtain ⟨g1,g2,g3,g4,g5⟩:=hTR.out W h
    exact changed0_any z W W.heap.size g4 (Nat.le_refl _) g5 m (by rw [g4.snaps.1];exact hzm) snR hyR hyRb
   have hki:(k:Int)<(sn:Int):=by omega
   have hkj:(k:Int)<(cv4:Int):=by omega
   have hk0:(0:Int)≤(k:Int):=by omega
   clear hCk hAk hbd hop hmy hml hyb hx hxc hz hzc hzx hzo hyR hyRb hzm hsa hsc
   go_upto_region 11 with (refine wpList_store_new w8 rfl 27 (.tmp 17) (.tmp 50) rfl 27 [.string ⟨#[]⟩,.int .i64 0,.int .i64 0,.slice none 0 0,.slice none 0 0,.slice none 0 0,.slice none 0 0] [.string ⟨cv0.toArray⟩,.int .i64 cv1,.int .i64 cv2,.slice cv3 cv4 cv5,.slice cv6 cv7 cv8,.slice cv9 cv10 cv11,.slice cv12 cv13 cv14] rfl rfl rfl (by kernel_rfl) (by simp [Value.oneCell']) ?_;rw [show ([.string ⟨cv0.toArray⟩,.int .i64 cv1,.int .i64 cv2,.slice cv3 cv4 cv5,.slice cv6 cv7 cv8,.slice cv9 cv10 cv11,.slice cv12 cv13 cv14]:List Value).toArray=#[.string ⟨cv0.toArray⟩,.int .i64 cv1,.int .i64 cv2,.slice cv3 cv4 cv5,.slice cv6 cv7 cv8,.slice cv9 cv10 cv11,.slice cv12 cv13 cv14] from rfl,← hWn,← hBc];clear hWn hBc)
   refine wpC_regionH (fun W'=>Below w9.heap.size w9 W') ((Below.refl w9.heap.size w9).drew) (fun OPS D QQ HO HD HD2 HQQ=>?_)
   have hgo2:=hgoL HO 2 54 rfl
   have hgo17:=hgoL HO 17 69 rfl
   have hgo32:=hgoL HO 32 84 rfl
   clear HO
   iterate 4 refine zX ?_
   refine zY ?_
   iterate 3 refine zX ?_
   refine zY ?_
   refine zX ?_
   refine zY ?_
   iterate 3 refine zX ?_
   refine zY ?_
   refine zN hSM.out ?_
   iterate 3 refine zX ?_
   refine zY ?_
   iterate 3 refine zX ?_
   refine zY ?_
   refine zX ?_
   refine zY ?_
   iterate 3 refine zX ?_
   refine zY ?_
   refine zN hSP.out ?_
   iterate 3 refine zX ?_
   refine zY ?_
   iterate 2 refine zX ?_
   refine zY ?_
   refine zN hCH.out ?_
   iterate 3 refine zX ?_
   refine wpQuiet_nil (HQQ.out _ (fun W hW=>?_))
   have hbf:=hBW.out _ (hX1.out _ hW)
   go_wp2_with fail
   go_ret
   exact ⟨rfl,hbf⟩
  ·replace h1:E2=0:=h1
   subst h1
   have HO:=Lib.hid ho
   have HY:=Lib.hid hy
   clear ho hy
   have hBB:Hid (C2.rollback p n=(0,C1)):=HROLL.out C2 (.inr HV2.out)
   obtain ⟨bv0,bv1,bv2,⟨bv3,bv4,bv5,bl0⟩,⟨bv6,bv7,bv8,bl1⟩,⟨bv9,bv10,bv11,bl2⟩,⟨bv12,bv13,bv14,bl3⟩⟩:=y
   simp only [TenR.val,TenR.cells,FS.val,strV]
   have hn1:=(H1_6.out).alloc H1_6.out.size (.cells #[.string ⟨bv0.toArray⟩,.int .i64 bv1,.int .i64 bv2,.slice bv3 bv4 bv5,.slice bv6 bv7 bv8,.slice bv9 bv10 bv11,.slice bv12 bv13 bv14] 27)
   have hn4:=(H4_6.out).alloc H4_6.out.size (.cells #[.string ⟨bv0.toArray⟩,.int .i64 bv1,.int .i64 bv2,.slice bv3 bv4 bv5,.slice bv6 bv7 bv8,.slice bv9 bv10 bv11,.slice bv12 bv13 bv14] 27)
   have kbn:=Blk.new w6 27 #[.string ⟨bv0.toArray⟩,.int .i64 bv1,.int .i64 bv2,.slice bv3 bv4 bv5,.slice bv6 bv7 bv8,.slice bv9 bv10 bv11,.slice bv12 bv13 bv14]
   have hsn:(w6.alloc (.cells #[.string ⟨bv0.toArray⟩,.int .i64 bv1,.int .i64 bv2,.slice bv3 bv4 bv5,.slice bv6 bv7 bv8,.slice bv9 bv10 bv11,.slice bv12 bv13 bv14] 27)).heap.size=w6.heap.size+1:=by simp
   have hbo:=((Below.refl w6.heap.size w6).alloc (Nat.le_refl _) (.cells #[.string ⟨bv0.toArray⟩,.int .i64 bv1,.int .i64 bv2,.slice bv3 bv4 bv5,.slice bv6 bv7 bv8,.slice bv9 bv10 bv11,.slice bv12 bv13 bv14] 27))
   obtain ⟨Bb,hBb⟩:∃ g,g=w6.heap.size:=⟨_,rfl⟩
   obtain ⟨w7,hWn⟩:∃ W,W=(w6.alloc (.cells #[.string ⟨bv0.toArray⟩,.int .i64 bv1,.int .i64 bv2,.slice bv3 bv4 bv5,.slice bv6 bv7 bv8,.slice bv9 bv10 bv11,.slice bv12 bv13 bv14] 27)):=⟨_,rfl⟩
   rw [← hWn] at kbn hsn hbo hn1 hn4
   rw [← hBb] at kbn
   have hSb:Hid (∀ W,Below w7.heap.size w7 W→W.cell? ⟨Bb,0,none⟩=some (.string ⟨bv0.toArray⟩)∧W.cell? ⟨Bb,1,none⟩=some (.int .i64 bv1)∧W.cell? ⟨Bb,2,none⟩=some (.int .i64 bv2)∧W.cell? ⟨Bb,3,none⟩=some (.slice bv3 bv4 bv5)∧W.cell? ⟨Bb,4,none⟩=some (.slice bv6 bv7 bv8)∧W.cell? ⟨Bb,5,none⟩=some (.slice bv9 bv10 bv11)∧W.cell? ⟨Bb,6,none⟩=some (.slice bv12 bv13 bv14)):=fun W h=>blk7 (kbn.below h (by omega))
   have H1_7:=Lib.hid hn1
   have H4_7:=Lib.hid hn4
   have H7_7:Hid (Below w7.heap.size w7 w7):=Below.refl _ _
   have hOb:Hid (∀ W,Below w7.heap.size w7 W→TenO W w5.heap.size ⟨bv0,bv1,bv2,⟨bv3,bv4,bv5,bl0⟩,⟨bv6,bv7,bv8,bl1⟩,⟨bv9,bv10,bv11,bl2⟩,⟨bv12,bv13,bv14,bl3⟩⟩):=fun W h=>(HO.out.below hbo).below (h.mono (by omega))
   have hCb:Hid (TenR.con ⟨bv0,bv1,bv2,⟨bv3,bv4,bv5,bl0⟩,⟨bv6,bv7,bv8,bl1⟩,⟨bv9,bv10,bv11,bl2⟩,⟨bv12,bv13,bv14,bl3⟩⟩=C2):=HY.out
   have hszB:Hid (C2.sz):=changeQ_sz hszC.out HV2.out
   clear HO HY
   clear kbn hsn hbo hn1 hn4
   have hrB:Hid (∀ W,Below w7.heap.size w7 W→Calls Tryz.prog 12 #[.agg #[.string ⟨bv0.toArray⟩,.int .i64 bv1,.int .i64 bv2,.slice bv3 bv4 bv5,.slice bv6 bv7 bv8,.slice bv9 bv10 bv11,.slice bv12 bv13 bv14],.string ⟨p.toArray⟩,.string ⟨n.toArray⟩] W (TenPost W (0,C1))):=fun W h=>by
    have h1:=(hOb.out W h).rd
    have h2:=TenR.sz_of h1 (by rw [hCb.out];exact hszB.out)
    rw [← hBB.out,← hCb.out]
    exact rollback_any ⟨bv0,bv1,bv2,⟨bv3,bv4,bv5,bl0⟩,⟨bv6,bv7,bv8,bl1⟩,⟨bv9,bv10,bv11,bl2⟩,⟨bv12,bv13,bv14,bl3⟩⟩ p n W W.heap.size (Nat.le_refl _) h1 h2 (by have:=HLN.out;omega) (hrw.out W (H1_7.out.trans (h.mono H1_7.out.size))).2.2
   obtain ⟨c0,c1,c2,c3,c4,c5,c6⟩:=hSb.out w7 (Below.refl _ _)
   have hc:=hrB.out w7 (Below.refl _ _)
   go_wp2_with (refine wpList_store_new w6 rfl 27 (.tmp 15) (.tmp 40) rfl 27 [.string ⟨#[]⟩,.int .i64 0,.int .i64 0,.slice none 0 0,.slice none 0 0,.slice none 0 0,.slice none 0 0] [.string ⟨bv0.toArray⟩,.int .i64 bv1,.int .i64 bv2,.slice bv3 bv4 bv5,.slice bv6 bv7 bv8,.slice bv9 bv10 bv11,.slice bv12 bv13 bv14] rfl rfl rfl (by kernel_rfl) (by simp [Value.oneCell']) ?_;rw [show ([.string ⟨bv0.toArray⟩,.int .i64 bv1,.int .i64 bv2,.slice bv3 bv4 bv5,.slice bv6 bv7 bv8,.slice bv9 bv10 bv11,.slice bv12 bv13 bv14]:List Value).toArray=#[.string ⟨bv0.toArray⟩,.int .i64 bv1,.int .i64 bv2,.slice bv3 bv4 bv5,.slice bv6 bv7 bv8,.slice bv9 bv10 bv11,.slice bv12 bv13 bv14] from rfl,← hWn,← hBb];clear hWn hBb)
   refine hc.mono ?_
   clear hc c0 c1 c2 c3 c4 c5 c6 
   rintro e w8 ⟨v,rfl,hb,⟨h1,-⟩ | ⟨-,y,rfl,ho,hy⟩⟩
   ·exact absurd (show (0:Int)=0 from rfl) h1
   have HO:=Lib.hid ho
   have HY:=Lib.hid hy
   clear ho hy
   have H1_8:=Lib.hid (H1_7.out.trans (hb.mono H1_7.out.size))
   have H4_8:=Lib.hid (H4_7.out.trans (hb.mono H4_7.out.size))
   have H7_8:=Lib.hid (H7_7.out.trans (hb.mono H7_7.out.size))
   clear hb
   obtain ⟨cv0,cv1,cv2,⟨cv3,cv4,cv5,cl0⟩,⟨cv6,cv7,cv8,cl1⟩,⟨cv9,cv10,cv11,cl2⟩,⟨cv12,cv13,cv14,cl3⟩⟩:=y
   simp only [TenR.val,TenR.cells,FS.val,strV]
   have hn1:=(H1_8.out).alloc H1_8.out.size (.cells #[.string ⟨cv0.toArray⟩,.int .i64 cv1,.int .i64 cv2,.slice cv3 cv4 cv5,.slice cv6 cv7 cv8,.slice cv9 cv10 cv11,.slice cv12 cv13 cv14] 27)
   have hn4:=(H4_8.out).alloc H4_8.out.size (.cells #[.string ⟨cv0.toArray⟩,.int .i64 cv1,.int .i64 cv2,.slice cv3 cv4 cv5,.slice cv6 cv7 cv8,.slice cv9 cv10 cv11,.slice cv12 cv13 cv14] 27)
   have hn7:=(H7_8.out).alloc H7_8.out.size (.cells #[.string ⟨cv0.toArray⟩,.int .i64 cv1,.int .i64 cv2,.slice cv3 cv4 cv5,.slice cv6 cv7 cv8,.slice cv9 cv10 cv11,.slice cv12 cv13 cv14] 27)
   have kbn:=Blk.new w8 27 #[.string ⟨cv0.toArray⟩,.int .i64 cv1,.int .i64 cv2,.slice cv3 cv4 cv5,.slice cv6 cv7 cv8,.slice cv9 cv10 cv11,.slice cv12 cv13 cv14]
   have hsn:(w8.alloc (.cells #[.string ⟨cv0.toArray⟩,.int .i64 cv1,.int .i64 cv2,.slice cv3 cv4 cv5,.slice cv6 cv7 cv8,.slice cv9 cv10 cv11,.slice cv12 cv13 cv14] 27)).heap.size=w8.heap.size+1:=by simp
   have hbo:=((Below.refl w8.heap.size w8).alloc (Nat.le_refl _) (.cells #[.string ⟨cv0.toArray⟩,.int .i64 cv1,.int .i64 cv2,.slice cv3 cv4 cv5,.slice cv6 cv7 cv8,.slice cv9 cv10 cv11,.slice cv12 cv13 cv14] 27))
   obtain ⟨Bc,hBc⟩:∃ g,g=w8.heap.size:=⟨_,rfl⟩
   obtain ⟨w9,hWn⟩:∃ W,W=(w8.alloc (.cells #[.string ⟨cv0.toArray⟩,.int .i64 cv1,.int .i64 cv2,.slice cv3 cv4 cv5,.slice cv6 cv7 cv8,.slice cv9 cv10 cv11,.slice cv12 cv13 cv14] 27)):=⟨_,rfl⟩
   rw [← hWn] at kbn hsn hbo hn1 hn4 hn7
   rw [← hBc] at kbn
   have hSc:Hid (∀ W,Below w9.heap.size w9 W→W.cell? ⟨Bc,0,none⟩=some (.string ⟨cv0.toArray⟩)∧W.cell? ⟨Bc,1,none⟩=some (.int .i64 cv1)∧W.cell? ⟨Bc,2,none⟩=some (.int .i64 cv2)∧W.cell? ⟨Bc,3,none⟩=some (.slice cv3 cv4 cv5)∧W.cell? ⟨Bc,4,none⟩=some (.slice cv6 cv7 cv8)∧W.cell? ⟨Bc,5,none⟩=some (.slice cv9 cv10 cv11)∧W.cell? ⟨Bc,6,none⟩=some (.slice cv12 cv13 cv14)):=fun W h=>blk7 (kbn.below h (by omega))
   have H1_9:=Lib.hid hn1
   have H4_9:=Lib.hid hn4
   have H7_9:=Lib.hid hn7
   have H9_9:Hid (Below w9.heap.size w9 w9):=Below.refl _ _
   have hOc:Hid (∀ W,Below w9.heap.size w9 W→TenO W w7.heap.size ⟨cv0,cv1,cv2,⟨cv3,cv4,cv5,cl0⟩,⟨cv6,cv7,cv8,cl1⟩,⟨cv9,cv10,cv11,cl2⟩,⟨cv12,cv13,cv14,cl3⟩⟩):=fun W h=>(HO.out.below hbo).below (h.mono (by omega))
   have hCc:Hid (TenR.con ⟨cv0,cv1,cv2,⟨cv3,cv4,cv5,cl0⟩,⟨cv6,cv7,cv8,cl1⟩,⟨cv9,cv10,cv11,cl2⟩,⟨cv12,cv13,cv14,cl3⟩⟩=C1):=HY.out
   clear HO HY
   clear kbn hsn hbo hn1 hn4 hn7
   have hX1:Hid (∀ W,Below w9.heap.size w9 W→Below W1.heap.size W1 W):=fun W h=>H1_9.out.trans (h.mono H1_9.out.size)
   obtain ⟨hCk,hAk,hbd,hop,hmy,hml,hyb⟩:=HF1.out
   -- the sets of both
   obtain ⟨hk1,x,hx,hxc⟩:∃ (hk1:k<sl.length) (x:SetR),x=sl[k]'hk1∧x.con=sC:=by
    have h:=hCk
    rw [hHC.out] at h
    have h:(sl.map SetR.con)[k]?=some sC:=h
    rw [List.getElem?_map] at h
    cases h2:sl[k]? with
    | none=>rw [h2] at h;cases h
    | some x =>
     rw [h2] at h
     obtain ⟨h3,h4⟩:=List.getElem?_eq_some_iff.1 h2
     exact ⟨h3,x,h4.symm,Option.some.inj h⟩
   obtain ⟨hk2,z,hz,hzc⟩:∃ (hk2:k<cl0.length) (z:SetR),z=cl0[k]'hk2∧z.con=sA:=by
    have h:=hAk
    rw [← hCc.out] at h
    have h:(cl0.map SetR.con)[k]?=some sA:=h
    rw [List.getElem?_map] at h
    cases h2:cl0[k]? with
    | none=>rw [h2] at h;cases h
    | some x =>
     rw [h2] at h
     obtain ⟨h3,h4⟩:=List.getElem?_eq_some_iff.1 h2
     exact ⟨h3,x,h4.symm,Option.some.inj h⟩
   have hzx:z.body.l=x.body.l:=by
    have h1:z.con.body=x.con.body:=by rw [hzc,hxc];exact hbd
    exact h1
   have hzo:z.own.l=x.own.l:=by
    have h1:z.con.own=x.con.own:=by rw [hzc,hxc];exact hop
    exact h1
   obtain ⟨snR,hyR,hyRb⟩:∃ y:SnapR,z.snaps.l[m]?=some y∧y.body.l=z.body.l:=by
    have h:(z.snaps.l.map SnapR.con)[m]?=some yA:=by rw [← hzc] at hmy;exact hmy
    rw [List.getElem?_map] at h
    cases h2:z.snaps.l[m]? with
    | none=>rw [h2] at h;cases h
    | some y =>
     rw [h2] at h
     have h3:=Option.some.inj h
     refine ⟨y,rfl,?_⟩
     have h4:y.con.body=z.con.body:=by rw [h3,hzc];exact hyb
     exact h4
   have hzm:m+1=z.snaps.l.length:=by
    have h:m+1=(z.snaps.l.map SnapR.con).length:=by rw [← hzc] at hml;exact hml
    rwa [List.length_map] at h
   have hTR:Hid (∀ W,Below w9.heap.size w9 W→x.rd W w.heap.size∧w.heap.size≤W.heap.size∧x.sz∧z.rd W W.heap.size∧z.sz):=fun W h=>by
    obtain ⟨g1,g2,-⟩:=hrw.out W (hX1.out W h)
    have g3:=g1.eachS _ (List.getElem_mem hk1)
    simp only [← hx] at g3
    have g4:=HZ.out.eachS _ (List.getElem_mem hk1)
    simp only [← hx] at g4
    have g5:=(hOc.out W h).rd
    have g6:=TenR.sz_of g5 (by rw [hCc.out];exact hszC.out)
    have g7:=g5.eachS _ (List.getElem_mem hk2)
    simp only [← hz] at g7
    have g8:=g6.eachS _ (List.getElem_mem hk2)
    simp only [← hz] at g8
    exact ⟨g3,g2,g4,g7,g8⟩
   have hks:k<sn:=by have:=hSN.out;omega
   have hkc:k<cv4:=by have h:=(hOc.out _ (Below.refl _ _)).sets.1;simp only at h;omega
   obtain ⟨ad,hsa,-⟩:=set_at (hrw.out _ (hX1.out _ (Below.refl _ _))).1.sets.2.2 hSN.out hks
   simp only at hsa
   obtain ⟨ac,hsc,-⟩:=set_at (hOc.out _ (Below.refl _ _)).rd.sets.2.2 (hOc.out _ (Below.refl _ _)).sets.1 hkc
   simp only at hsc
   have hS:Hid (∀ W,Below w9.heap.size w9 W→W.cell? ⟨w.heap.size,3,none⟩=some (.slice (some ad) sn s3)∧W.cell? ⟨Bc,3,none⟩=some (.slice (some ac) cv4 cv5) ∧
     W.cell? ⟨(ad.add (k*5)).block,(ad.add (k*5)).off+2,none⟩=some (.slice x.body.A x.body.n x.body.c)∧W.cell? ⟨(ad.add (k*5)).block,(ad.add (k*5)).off+4,none⟩=some (.slice x.own.A x.own.n x.own.c) ∧
     W.cell? (ac.add (k*5))=some (.string ⟨z.path.toArray⟩)∧W.cell? ⟨(ac.add (k*5)).block,(ac.add (k*5)).off+1,none⟩=some (.string ⟨z.org.toArray⟩)∧W.cell? ⟨(ac.add (k*5)).block,(ac.add (k*5)).off+2,none⟩=some (.slice z.body.A z.body.n z.body.c)∧W.cell? ⟨(ac.add (k*5)).block,(ac.add (k*5)).off+3,none⟩=some (.slice z.snaps.A z.snaps.n z.snaps.c)∧W.cell? ⟨(ac.add (k*5)).block,(ac.add (k*5)).off+4,none⟩=some (.slice z.own.A z.own.n z.own.c)):=fun W h=>by
    obtain ⟨ad2,e2,-,-,-,q2,-,q4⟩:=set_at (hrw.out W (hX1.out W h)).1.sets.2.2 hSN.out hks
    simp only [hsa] at e2
    injection e2 with e2
    subst e2
    simp only [← hx] at q2 q4
    obtain ⟨ac2,e3,-,r0,r1,r2,r3,r4⟩:=set_at (hOc.out W h).rd.sets.2.2 (hOc.out W h).sets.1 hkc
    simp only [hsc] at e3
    injection e3 with e3
    subst e3
    simp only [← hz] at r0 r1 r2 r3 r4
    have t3:=(blk7 (hKt.out W (hX1.out W h))).2.2.2.1
    have c3:=(hSc.out W h).2.2.2.1
    rw [hsa] at t3
    rw [hsc] at c3
    exact ⟨t3,c3,q2,q4,r0,r1,r2,r3,r4⟩
   have hSM:Hid (∀ W,Below w9.heap.size w9 W→Calls Tryz.prog 13 #[.slice z.body.A z.body.n z.body.c,.slice x.body.A x.body.n x.body.c] W fun e w'=>e=.returned (.bool true)∧Below W.heap.size W w'):=fun W h=>by
    obtain ⟨g1,g2,g3,g4,g5⟩:=hTR.out W h
    have h1:=g4.body.1
    have h2:z.body.n=x.body.n:=by rw [h1,g1.body.1,hzx]
    have h3:Reads W W.heap.size 2 z.body.A z.body.n (bcells x.body.l):=by rw [← hzx];exact g4.body.2.2
    rw [h2] at h3 ⊢
    exact rsameT_any x.body.l x.body.n g1.body.1 _ _ _ _ W W.heap.size h3 (g1.body.2.2.more g2) g3.body
   have hSP:Hid (∀ W,Below w9.heap.size w9 W→Calls Tryz.prog 14 #[.slice z.own.A z.own.n z.own.c,.slice x.own.A x.own.n x.own.c] W fun e w'=>e=.returned (.bool true)∧Below W.heap.size W w'):=fun W h=>by
    obtain ⟨g1,g2,g3,g4,g5⟩:=hTR.out W h
    have h1:=g4.own.1
    have h2:z.own.n=x.own.n:=by rw [h1,g1.own.1,hzo]
    have h3:Reads W W.heap.size 2 z.own.A z.own.n (pcells x.own.l):=by rw [← hzo];exact g4.own.2.2
    rw [h2] at h3 ⊢
    exact samePropsT_any x.own.l x.own.n g1.own.1 _ _ _ _ W W.heap.size h3 (g1.own.2.2.more g2) g3.own
   have hCH:Hid (∀ W,Below w9.heap.size w9 W→Calls Tryz.prog 15 #[.agg #[.string ⟨z.path.toArray⟩,.string ⟨z.org.toArray⟩,.slice z.body.A z.body.n z.body.c,.slice z.snaps.A z.snaps.n z.snaps.c,.slice z.own.A z.own.n z.own.c]] W fun e w'=>e=.returned (.int .i64 0)∧Below W.heap.size W w'):=fun W h=>by
    obtain ⟨g1,g2,g3,g4,g5⟩:=hTR.out W h
    exact changed0_any z W W.heap.size g4 (Nat.le_refl _) g5 m (by rw [g4.snaps.1];exact hzm) snR hyR hyRb
   have hki:(k:Int)<(sn:Int):=by omega
   have hkj:(k:Int)<(cv4:Int):=by omega
   have hk0:(0:Int)≤(k:Int):=by omega
   clear hCk hAk hbd hop hmy hml hyb hx hxc hz hzc hzx hzo hyR hyRb hzm hsa hsc
   go_upto_region 11 with (refine wpList_store_new w8 rfl 27 (.tmp 17) (.tmp 50) rfl 27 [.string ⟨#[]⟩,.int .i64 0,.int .i64 0,.slice none 0 0,.slice none 0 0,.slice none 0 0,.slice none 0 0] [.string ⟨cv0.toArray⟩,.int .i64 cv1,.int .i64 cv2,.slice cv3 cv4 cv5,.slice cv6 cv7 cv8,.slice cv9 cv10 cv11,.slice cv12 cv13 cv14] rfl rfl rfl (by kernel_rfl) (by simp [Value.oneCell']) ?_;rw [show ([.string ⟨cv0.toArray⟩,.int .i64 cv1,.int .i64 cv2,.slice cv3 cv4 cv5,.slice cv6 cv7 cv8,.slice cv9 cv10 cv11,.slice cv12 cv13 cv14]:List Value).toArray=#[.string ⟨cv0.toArray⟩,.int .i64 cv1,.int .i64 cv2,.slice cv3 cv4 cv5,.slice cv6 cv7 cv8,.slice cv9 cv10 cv11,.slice cv12 cv13 cv14] from rfl,← hWn,← hBc];clear hWn hBc)
   refine wpC_regionH (fun W'=>Below w9.heap.size w9 W') ((Below.refl w9.heap.size w9).drew) (fun OPS D QQ HO HD HD2 HQQ=>?_)
   have hgo2:=hgoL HO 2 54 rfl
   have hgo17:=hgoL HO 17 69 rfl
   have hgo32:=hgoL HO 32 84 rfl
   clear HO
   iterate 4 refine zX ?_
   refine zY ?_
   iterate 3 refine zX ?_
   refine zY ?_
   refine zX ?_
   refine zY ?_
   iterate 3 refine zX ?_
   refine zY ?_
   refine zN hSM.out ?_
   iterate 3 refine zX ?_
   refine zY ?_
   iterate 3 refine zX ?_
   refine zY ?_
   refine zX ?_
   refine zY ?_
   iterate 3 refine zX ?_
   refine zY ?_
   refine zN hSP.out ?_
   iterate 3 refine zX ?_
   refine zY ?_
   iterate 2 refine zX ?_
   refine zY ?_
   refine zN hCH.out ?_
   iterate 3 refine zX ?_
   refine wpQuiet_nil (HQQ.out _ (fun W hW=>?_))
   have hbf:=hBW.out _ (hX1.out _ hW)
   go_wp2_with fail
   go_ret
   exact ⟨rfl,hbf⟩
end Go.Proofs.YtcgclpcocdappaaGreatDoor
