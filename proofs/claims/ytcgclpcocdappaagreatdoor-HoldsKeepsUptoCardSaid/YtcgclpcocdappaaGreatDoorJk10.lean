/-
  The example of chapter 18: a snapshot that is held is not destroyed. HoldsKeeps, the plain law: a held snapshot may not go, and releasing gives the tenant back.
-/
import Derived.WalkKit
import Derived.WalkSpells
import Derived.Below
import Derived.Laws.OwnMore
import Derived.Deep.AppendLies
import Derived.Deep.Draws
import Derived.Laws.Rows
import Derived.Maps.AppendAt
import Derived.RegionTactic
import Derived.OwnWalk
import Derived.Deep.QuietTactic
import Derived.BigQuiet
import Derived.Lib.Hide
import Derived.Laws.CopyOwn
import Derived.IntWalk
import Derived.Test.YtcgclpcocdappaaGreatDoorRows
import Derived.Handy
import Derived.Lib.AppendZeros
import Derived.ProofKit
import Derived.Deep.Quiet
import Derived.OpenShut
import Derived.ShutString
import Derived.ChangeOld
import Derived.Carry
import Derived.SizedLaws
import Derived.JoinedCond
import Derived.Deep.CondSized
import Derived.Deep.Slices
import Derived.Deep.Fields
import Derived.Lib.SmallJoins
import Derived.Orders
import Derived.Lib.SplitLaws
import Derived.Lib.LastIndexByte
import Derived.Lib.Strings
import Derived.Deep.RegionLaw
import Derived.Sort.Walk0
import Derived.Sort.KeysCollected
import Derived.Shelf.SlIter.Nil
import Derived.Shelf.SortM.Plain
import Derived.Shelf.SortM.SortNone
import Derived.Maps.OwnSet
import Derived.Maps.StringElems
import Derived.Deep.MidRow
import Derived.Shelf.Strings.Search1
import Derived.Shelf.Strings.Search2
import Derived.Shelf.Strings.Search3
import Derived.Shelf.Strings.Cut
import Derived.Shelf.Strings.Count
import Derived.Shelf.LaysM
import Derived.Shelf.Strings.Shaped
import Derived.Shelf.Strings.LastIndex
import Derived.Shelf.Strings.Split
import Derived.Shelf.Strings.SplitShaped
import Derived.Shelf.Unicode.Decode
import Derived.Shelf.Strings.RuneCount
import Derived.Shelf.Strings.Explode
import Derived.Shelf.Unicode.DecodeSlow
import Derived.Test.YtcgclpcocdappaaGreatDoorProg
import Derived.Lib.Overlaps
import Derived.Lib.AppendZerosOnto
import Derived.Laws.BytesString
import Derived.Laws.IdiomStrings
import Derived.Lib.ConvBytes
import Derived.Deep.DeepCutAuto
import Derived.Great.BuildSlice
import Derived.Test.YtcgclpcocdappaaGreatDoorJ0
import Derived.Test.YtcgclpcocdappaaGreatDoorJbkv1
import Derived.Test.YtcgclpcocdappaaGreatDoorJbkv2
import Derived.Test.YtcgclpcocdappaaGreatDoorJbkv3
import Derived.Test.YtcgclpcocdappaaGreatDoorJbkv4
import Derived.Test.YtcgclpcocdappaaGreatDoorJbkv5
import Derived.Test.YtcgclpcocdappaaGreatDoorJbkv7
import Derived.Test.YtcgclpcocdappaaGreatDoorJbkv8
import Derived.Test.YtcgclpcocdappaaGreatDoorJbkv10
import Derived.Test.YtcgclpcocdappaaGreatDoorJbkv14
import Derived.Test.YtcgclpcocdappaaGreatDoorJbkv15
import Derived.Test.YtcgclpcocdappaaGreatDoorJbkv16
import Derived.Test.YtcgclpcocdappaaGreatDoorJbkv17
import Derived.Test.YtcgclpcocdappaaGreatDoorJbkv19
import Derived.Test.YtcgclpcocdappaaGreatDoorJbkv20
import Derived.Test.YtcgclpcocdappaaGreatDoorJbkv21
import Derived.Test.YtcgclpcocdappaaGreatDoorJbkv22
import Derived.Test.YtcgclpcocdappaaGreatDoorJbkv23
import Derived.Test.YtcgclpcocdappaaGreatDoorJbkv27
import Derived.Test.YtcgclpcocdappaaGreatDoorJbkv30
import Derived.Test.YtcgclpcocdappaaGreatDoorJbk1
import Derived.Test.YtcgclpcocdappaaGreatDoorJbk2
import Derived.Test.YtcgclpcocdappaaGreatDoorJbk3
import Derived.Test.YtcgclpcocdappaaGreatDoorJkv2
import Derived.Test.YtcgclpcocdappaaGreatDoorJkv3
import Derived.Test.YtcgclpcocdappaaGreatDoorJk1
import Derived.Test.YtcgclpcocdappaaGreatDoorJk3
import Derived.Test.YtcgclpcocdappaaGreatDoorJk4
import Derived.Test.YtcgclpcocdappaaGreatDoorJk5
import Derived.Test.YtcgclpcocdappaaGreatDoorJk9
namespace Go.Proofs.YtcgclpcocdappaaGreatDoor
open Go.RowKit
theorem num18_any (n:Int) (w:World):Calls Tryz.prog 95 #[.int .i64 n] w fun e w'=>e=.returned (.int .i64 n)∧w'=w:=by
 go_enter Tryz.func95,Tryz.ntmps95
 go_wp2_with fail
 go_ret
 exact ⟨rfl,rfl⟩
theorem new1_snapshot:(new0C 9).snapshot [] [97]=(0,⟨[116],9,2,[⟨[],[],[],[⟨[97],1,[],[],[]⟩],[]⟩],[],[],[]⟩):=by kernel_rfl
theorem new1_guid:(new0C 9).guidAt []=1:=by kernel_rfl
theorem new1_hold:TenC.hold ⟨[116],9,2,[⟨[],[],[],[⟨[97],1,[],[],[]⟩],[]⟩],[],[],[]⟩ [] [97] [104]=(0,⟨[116],9,2,[⟨[],[],[],[⟨[97],1,[],[[104]],[]⟩],[]⟩],[],[],[]⟩):=by kernel_rfl
theorem new1_unsnap:TenC.unsnap ⟨[116],9,2,[⟨[],[],[],[⟨[97],1,[],[[104]],[]⟩],[]⟩],[],[],[]⟩ [] [97]=(43,⟨[116],9,2,[⟨[],[],[],[⟨[97],1,[],[[104]],[]⟩],[]⟩],[],[],[]⟩):=by kernel_rfl
theorem new1_held:TenC.heldC ⟨[116],9,2,[⟨[],[],[],[⟨[97],1,[],[[104]],[]⟩],[]⟩],[],[],[]⟩ [] [97]=true:=by kernel_rfl
theorem newT_sz (tg:List BS) (h1:tg.length≤4) (h2:∀ t∈tg,t.length≤4):TenC.sz ⟨[116],9,2,[⟨[],[],[],[⟨[97],1,[],tg,[]⟩],[]⟩],[],[],[]⟩ :=
 ⟨by simp,by simp,fun y hy=>by
  rw [List.mem_singleton] at hy
  subst hy
  exact ⟨by simp,by simp,by simp,by simp,fun z hz=>by
   rw [List.mem_singleton] at hz
   subst hz
   exact ⟨by simp,by simp,by show tg.length≤_;omega,fun t ht=>by have:=h2 t ht;show t.length≤_;omega,by simp,fun _ hp=>by cases hp⟩,by simp,fun _ hp=>by cases hp⟩,
  by simp,fun _ h=>(by cases h),by simp,fun _ h=>(by cases h),by simp,fun _ h=>(by cases h)⟩
set_option maxRecDepth 100000 in
set_option maxHeartbeats 4000000 in
theorem alive18_any (w:World) (hmx:HasMax w):Calls Tryz.prog 35 #[] w fun e w'=>e=.returned (.bool true)∧Below w.heap.size w w':=by
 go_enter Tryz.func35,Tryz.ntmps35
 go_wp2_with fail
 refine (rnew_any 9 (by decide) (by decide) _).mono ?_
 rintro e w1 ⟨y,rfl,ho,hy,hb⟩
 have HW1:=Lib.hid hb
 have HO:=Lib.hid ho
 have HY:=Lib.hid hy
 clear hb ho hy
 obtain ⟨mm,mq,mx,⟨m1,m2,m3,ml⟩,⟨n1,n2,n3,nl⟩,⟨p1,p2,p3,pl⟩,⟨q1,q2,q3,ql⟩⟩:=y
 simp only [TenR.val,TenR.cells,FS.val,strV]
 have hbn:=(HW1.out).alloc HW1.out.size (.cells #[.string ⟨mm.toArray⟩,.int .i64 mq,.int .i64 mx,.slice m1 m2 m3,.slice n1 n2 n3,.slice p1 p2 p3,.slice q1 q2 q3] 27)
 have kbn:=Blk.new w1 27 #[.string ⟨mm.toArray⟩,.int .i64 mq,.int .i64 mx,.slice m1 m2 m3,.slice n1 n2 n3,.slice p1 p2 p3,.slice q1 q2 q3]
 have hsn:(w1.alloc (.cells #[.string ⟨mm.toArray⟩,.int .i64 mq,.int .i64 mx,.slice m1 m2 m3,.slice n1 n2 n3,.slice p1 p2 p3,.slice q1 q2 q3] 27)).heap.size=w1.heap.size+1:=by simp
 have HOn:=HO.out.below ((Below.refl w1.heap.size w1).alloc (Nat.le_refl _) (.cells #[.string ⟨mm.toArray⟩,.int .i64 mq,.int .i64 mx,.slice m1 m2 m3,.slice n1 n2 n3,.slice p1 p2 p3,.slice q1 q2 q3] 27))
 obtain ⟨By,hBy⟩:∃ g,g=w1.heap.size:=⟨_,rfl⟩
 obtain ⟨w2,hWn⟩:∃ W,W=(w1.alloc (.cells #[.string ⟨mm.toArray⟩,.int .i64 mq,.int .i64 mx,.slice m1 m2 m3,.slice n1 n2 n3,.slice p1 p2 p3,.slice q1 q2 q3] 27)):=⟨_,rfl⟩
 rw [← hWn] at hbn kbn hsn HOn
 have HW2:=Lib.hid hbn
 rw [← hBy] at kbn
 have hKy:Hid (∀ W,Below w2.heap.size w2 W→Blk W By 27 #[.string ⟨mm.toArray⟩,.int .i64 mq,.int .i64 mx,.slice m1 m2 m3,.slice n1 n2 n3,.slice p1 p2 p3,.slice q1 q2 q3]):=fun W h=>kbn.below h (by omega)
 have HZy:=Lib.hid (show By=w1.heap.size∧w2.heap.size=w1.heap.size+1 from ⟨hBy,hsn⟩)
 have HO:=Lib.hid HOn
 clear hbn kbn hsn HOn
 have hCR:=snapshot_any ⟨mm,mq,mx,⟨m1,m2,m3,ml⟩,⟨n1,n2,n3,nl⟩,⟨p1,p2,p3,pl⟩,⟨q1,q2,q3,ql⟩⟩ [] [97] w2 w2.heap.size (Nat.le_refl _) HO.out.rd (TenR.sz_of HO.out.rd (by rw [HY.out];exact new0C_sz 9)) (by decide) (by decide) (hmx.below HW2.out)
 rw [HY.out,new1_snapshot,new1_guid] at hCR
 have HCR:Hid (Calls Tryz.prog 9 #[.agg #[.string ⟨mm.toArray⟩,.int .i64 mq,.int .i64 mx,.slice m1 m2 m3,.slice n1 n2 n3,.slice p1 p2 p3,.slice q1 q2 q3],.string ⟨#[]⟩,.string ⟨#[97]⟩] w2 (TenPost3 w2 1 (0,⟨[116],9,2,[⟨[],[],[],[⟨[97],1,[],[],[]⟩],[]⟩],[],[],[]⟩))):=hCR
 clear hCR
 obtain ⟨c0,c1,c2,c3,c4,c5,c6⟩:=blk7 (hKy.out w2 (Below.refl _ _))
 go_wp2_with (refine wpList_store_new w1 rfl 27 (.tmp 1) (.tmp 8) rfl 27 [.string ⟨#[]⟩,.int .i64 0,.int .i64 0,.slice none 0 0,.slice none 0 0,.slice none 0 0,.slice none 0 0] [.string ⟨mm.toArray⟩,.int .i64 mq,.int .i64 mx,.slice m1 m2 m3,.slice n1 n2 n3,.slice p1 p2 p3,.slice q1 q2 q3] rfl rfl rfl (by kernel_rfl) (by simp [Value.oneCell']) ?_;rw [show ([.string ⟨mm.toArray⟩,.int .i64 mq,.int .i64 mx,.slice m1 m2 m3,.slice n1 n2 n3,.slice p1 p2 p3,.slice q1 q2 q3]:List Value).toArray=#[.string ⟨mm.toArray⟩,.int .i64 mq,.int .i64 mx,.slice m1 m2 m3,.slice n1 n2 n3,.slice p1 p2 p3,.slice q1 q2 q3] from rfl,← hWn,← hBy];clear hWn hBy)
 refine HCR.out.mono ?_
 clear HCR c0 c1 c2 c3 c4 c5 c6
 rintro e w3 ⟨v,gi,rfl,hb,⟨h1,-⟩ | ⟨-,rfl,u,rfl,hou,hu⟩⟩
 ·exact absurd (show (0:Int)=0 from rfl) h1
 have HW3:=Lib.hid (HW2.out.trans (hb.mono HW2.out.size))
 have KB:=Lib.hid (hKy.out w3 hb)
 have HU:=Lib.hid hu
 have HGY:Hid (w.heap.size≤By):=by have h1:=HZy.out.1;have h2:=HW1.out.size;show _≤_;omega
 clear hb hu HO HY hKy
 obtain ⟨am,aq,ax,⟨a1,a2,a3,al⟩,⟨f1,f2,f3,fl⟩,⟨i1,i2,i3,il⟩,⟨j1,j2,j3,jl⟩⟩:=u
 simp only [TenR.val,TenR.cells,FS.val,strV]
 obtain ⟨w4,hW4,hth,KB4,HW4,hgw⟩:=box7 (g:=By) [.string ⟨am.toArray⟩,.int .i64 aq,.int .i64 ax,.slice a1 a2 a3,.slice f1 f2 f3,.slice i1 i2 i3,.slice j1 j2 j3] KB.out HW3.out HGY.out
 have HOU:=Lib.hid (TenO.keptT hou hgw KB.out offT_ten)
 clear hgw KB
 clear hou
 have hCR:=hold_any ⟨am,aq,ax,⟨a1,a2,a3,al⟩,⟨f1,f2,f3,fl⟩,⟨i1,i2,i3,il⟩,⟨j1,j2,j3,jl⟩⟩ [] [97] [104] w4 w4.heap.size (Nat.le_refl _) HOU.out.rd (TenR.sz_of HOU.out.rd (by rw [HU.out];exact newT_sz [] (by decide) (fun _ h=>by cases h))) (by decide) (hmx.below HW4.out)
 rw [HU.out,new1_hold] at hCR
 have HCR:Hid (Calls Tryz.prog 36 #[.agg #[.string ⟨am.toArray⟩,.int .i64 aq,.int .i64 ax,.slice a1 a2 a3,.slice f1 f2 f3,.slice i1 i2 i3,.slice j1 j2 j3],.string ⟨#[]⟩,.string ⟨#[97]⟩,.string ⟨#[104]⟩] w4 (TenPost w4 (0,⟨[116],9,2,[⟨[],[],[],[⟨[97],1,[],[[104]],[]⟩],[]⟩],[],[],[]⟩))):=hCR
 clear hCR
 obtain ⟨c0,c1,c2,c3,c4,c5,c6⟩:=blk7 (KB4.out)
 go_wp2_with (refine wpList_store_mid rfl 27 (.tmp 1) (.tmp 13) rfl By 0 #[.string ⟨am.toArray⟩,.int .i64 aq,.int .i64 ax,.slice a1 a2 a3,.slice f1 f2 f3,.slice i1 i2 i3,.slice j1 j2 j3] rfl rfl hth.out (by kernel_rfl) (by simp [Value.oneCell']) ?_;rw [← hW4];clear hW4 hth)
 refine HCR.out.mono ?_
 clear HCR c0 c1 c2 c3 c4 c5 c6
 rintro e w5 ⟨v,rfl,hb,⟨h1,-⟩ | ⟨-,u,rfl,hou,hu⟩⟩
 ·exact absurd (show (0:Int)=0 from rfl) h1
 have HW5:=Lib.hid (HW4.out.trans (hb.mono HW4.out.size))
 have KB5:=Lib.hid (KB4.out.below hb KB4.out.lt)
 clear HU HOU
 have HU:=Lib.hid hu
 clear hb hu KB4
 obtain ⟨vm,vq,vx,⟨v1,v2,v3,vl⟩,⟨r1,r2,r3,rl⟩,⟨o1,o2,o3,ol⟩,⟨d1,d2,d3,dl⟩⟩:=u
 simp only [TenR.val,TenR.cells,FS.val,strV]
 obtain ⟨w6,hW6,hth,KB6,HW6,hgw⟩:=box7 (g:=By) [.string ⟨vm.toArray⟩,.int .i64 vq,.int .i64 vx,.slice v1 v2 v3,.slice r1 r2 r3,.slice o1 o2 o3,.slice d1 d2 d3] KB5.out HW5.out HGY.out
 have HOU:=Lib.hid (TenO.keptT hou hgw KB5.out offT_ten)
 clear hgw KB5
 clear hou
 have hCR:=unsnap_any ⟨vm,vq,vx,⟨v1,v2,v3,vl⟩,⟨r1,r2,r3,rl⟩,⟨o1,o2,o3,ol⟩,⟨d1,d2,d3,dl⟩⟩ [] [97] w6 w6.heap.size (Nat.le_refl _) HOU.out.rd (TenR.sz_of HOU.out.rd (by rw [HU.out];exact newT_sz [[104]] (by decide) (fun t h=>by rw [List.mem_singleton] at h;subst h;decide))) (by decide) (hmx.below HW6.out)
 rw [HU.out,new1_unsnap] at hCR
 have HCR:Hid (Calls Tryz.prog 20 #[.agg #[.string ⟨vm.toArray⟩,.int .i64 vq,.int .i64 vx,.slice v1 v2 v3,.slice r1 r2 r3,.slice o1 o2 o3,.slice d1 d2 d3],.string ⟨#[]⟩,.string ⟨#[97]⟩] w6 (TenPost w6 (43,⟨[116],9,2,[⟨[],[],[],[⟨[97],1,[],[[104]],[]⟩],[]⟩],[],[],[]⟩))):=hCR
 clear hCR
 obtain ⟨c0,c1,c2,c3,c4,c5,c6⟩:=blk7 (KB6.out)
 go_wp2_with (refine wpList_store_mid rfl 27 (.tmp 1) (.tmp 19) rfl By 0 #[.string ⟨vm.toArray⟩,.int .i64 vq,.int .i64 vx,.slice v1 v2 v3,.slice r1 r2 r3,.slice o1 o2 o3,.slice d1 d2 d3] rfl rfl hth.out (by kernel_rfl) (by simp [Value.oneCell']) ?_;rw [← hW6];clear hW6 hth)
 refine HCR.out.mono ?_
 clear HCR c0 c1 c2 c3 c4 c5 c6
 rintro e w7 ⟨v,rfl,hb,⟨-,rfl⟩ | ⟨h1,-⟩⟩
 rotate_left
 ·exact absurd h1 (by decide)
 unfold ZEROT
 have HW7:=Lib.hid (HW6.out.trans (hb.mono HW6.out.size))
 have KB7:=Lib.hid (KB6.out.below hb KB6.out.lt)
 have HO7:=Lib.hid (HOU.out.below hb)
 clear hb KB6 HOU
 have hbn:=(HW7.out).alloc HW7.out.size (.cells #[.string ⟨#[]⟩,.int .i64 0,.int .i64 0,.slice none 0 0,.slice none 0 0,.slice none 0 0,.slice none 0 0] 27)
 have kbn:=Blk.new w7 27 #[.string ⟨#[]⟩,.int .i64 0,.int .i64 0,.slice none 0 0,.slice none 0 0,.slice none 0 0,.slice none 0 0]
 have hsn:(w7.alloc (.cells #[.string ⟨#[]⟩,.int .i64 0,.int .i64 0,.slice none 0 0,.slice none 0 0,.slice none 0 0,.slice none 0 0] 27)).heap.size=w7.heap.size+1:=by simp
 have HO7n:=HO7.out.below ((Below.refl w7.heap.size w7).alloc (Nat.le_refl _) (.cells #[.string ⟨#[]⟩,.int .i64 0,.int .i64 0,.slice none 0 0,.slice none 0 0,.slice none 0 0,.slice none 0 0] 27))
 have hb78:=(Below.refl w7.heap.size w7).alloc (Nat.le_refl _) (.cells #[.string ⟨#[]⟩,.int .i64 0,.int .i64 0,.slice none 0 0,.slice none 0 0,.slice none 0 0,.slice none 0 0] 27)
 obtain ⟨Bz,hBz⟩:∃ g,g=w7.heap.size:=⟨_,rfl⟩
 obtain ⟨w8,hWn⟩:∃ W,W=(w7.alloc (.cells #[.string ⟨#[]⟩,.int .i64 0,.int .i64 0,.slice none 0 0,.slice none 0 0,.slice none 0 0,.slice none 0 0] 27)):=⟨_,rfl⟩
 rw [← hWn] at hbn kbn hsn HO7n hb78
 have KB8:=Lib.hid (KB7.out.below hb78 KB7.out.lt)
 have HW8:=Lib.hid hbn
 rw [← hBz] at kbn
 have hKz:Hid (∀ W,Below w8.heap.size w8 W→Blk W Bz 27 #[.string ⟨#[]⟩,.int .i64 0,.int .i64 0,.slice none 0 0,.slice none 0 0,.slice none 0 0,.slice none 0 0]):=fun W h=>kbn.below h (by omega)
 have HZz:=Lib.hid (show Bz=w7.heap.size∧w8.heap.size=w7.heap.size+1 from ⟨hBz,hsn⟩)
 have HO7:=Lib.hid HO7n
 clear hbn kbn hsn HO7n
 clear hb78 KB7
 have hHE:=held_any ⟨vm,vq,vx,⟨v1,v2,v3,vl⟩,⟨r1,r2,r3,rl⟩,⟨o1,o2,o3,ol⟩,⟨d1,d2,d3,dl⟩⟩ [] [97] w8 w8.heap.size (Nat.le_refl _) HO7.out.rd (TenR.sz_of HO7.out.rd (by rw [HU.out];exact newT_sz [[104]] (by decide) (fun t h=>by rw [List.mem_singleton] at h;subst h;decide)))
 rw [held_con ⟨vm,vq,vx,⟨v1,v2,v3,vl⟩,⟨r1,r2,r3,rl⟩,⟨o1,o2,o3,ol⟩,⟨d1,d2,d3,dl⟩⟩ w8 w8.heap.size HO7.out.rd,HU.out,new1_held] at hHE
 have HHE:Hid (Calls Tryz.prog 39 #[.agg #[.string ⟨vm.toArray⟩,.int .i64 vq,.int .i64 vx,.slice v1 v2 v3,.slice r1 r2 r3,.slice o1 o2 o3,.slice d1 d2 d3],.string ⟨#[]⟩,.string ⟨#[97]⟩] w8 fun e w'=>e=.returned (.bool true)∧Below w8.heap.size w8 w'):=hHE
 clear hHE HO7 HU hKz
 obtain ⟨c0,c1,c2,c3,c4,c5,c6⟩:=blk7 (KB8.out)
 go_wp2_with (refine wpList_store_new w7 rfl 27 (.tmp 4) (.tmp 24) rfl 27 [.string ⟨#[]⟩,.int .i64 0,.int .i64 0,.slice none 0 0,.slice none 0 0,.slice none 0 0,.slice none 0 0] [.string ⟨#[]⟩,.int .i64 0,.int .i64 0,.slice none 0 0,.slice none 0 0,.slice none 0 0,.slice none 0 0] rfl rfl rfl (by kernel_rfl) (by simp [Value.oneCell']) ?_;rw [show ([.string ⟨#[]⟩,.int .i64 0,.int .i64 0,.slice none 0 0,.slice none 0 0,.slice none 0 0,.slice none 0 0]:List Value).toArray=#[.string ⟨#[]⟩,.int .i64 0,.int .i64 0,.slice none 0 0,.slice none 0 0,.slice none 0 0,.slice none 0 0] from rfl,← hWn,← hBz];clear hWn hBz)
 refine (num18_any _ _).mono ?_
 rintro e w9 ⟨rfl,hw9⟩
 rw [hw9]
 clear hw9 w9
 go_wp2_with fail
 refine (num18_any _ _).mono ?_
 rintro e w9 ⟨rfl,hw9⟩
 rw [hw9]
 clear hw9 w9
 go_wp2_with fail
 refine HHE.out.mono ?_
 rintro e w9 ⟨rfl,hb⟩
 have HW9:=HW8.out.trans (hb.mono HW8.out.size)
 clear hb HHE
 go_wp2_with fail
 exact bodyPost_ret (v:=.bool true) (by simp [results,Tryz.results35,go_sem]) rfl ⟨rfl,HW9⟩
end Go.Proofs.YtcgclpcocdappaaGreatDoor
namespace Go.Proofs.YtcgclpcocdappaaGreatDoor
open Go.RowKit
theorem hold_form (c:TenC) (p n g:BS) (c2:TenC) (h:(0,c2)=c.hold p n g):∃ k,∃ ha:AtS c p n (!nameB g) k,∃ i,∃ hi:i<(c.sets[k]'ha.lt).snaps.length,c.foundS p n (!nameB g)=((k:Int),(i:Int),0)∧((c.sets[k]'ha.lt).snaps[i]'hi).nm=n∧isT g ((c.sets[k]'ha.lt).snaps[i]'hi).tags=false∧((c.sets[k]'ha.lt).snaps[i]'hi).tags.length≠4 ∧
  c2=c.putS k ((c.sets[k]'ha.lt).retag i ((c.sets[k]'ha.lt).snaps[i]'hi) (insT g ((c.sets[k]'ha.lt).snaps[i]'hi).tags)):=by
 rcases c.foundS_cases p n (!nameB g) with ⟨a,k,E,hE,e⟩ | ⟨k,ha,i,hi,e,e1,e2⟩
 ·have hne:E≠0:=by rcases hE with rfl | rfl | rfl <;> decide
  rw [hold_bad e hne] at h
  injection h with h _
  exact absurd h.symm hne
 ·rw [hold_at e (List.getElem?_eq_getElem ha.lt) (List.getElem?_eq_getElem hi)] at h
  cases hT:isT g ((c.sets[k]'ha.lt).snaps[i]'hi).tags with
  | true =>
   rw [if_pos hT] at h
   injection h with h _
   cases h
  | false =>
   rw [if_neg (by rw [hT];decide)] at h
   by_cases h4:((c.sets[k]'ha.lt).snaps[i]'hi).tags.length=4
   ·rw [if_pos h4] at h
    injection h with h _
    cases h
   ·rw [if_neg h4] at h
    injection h with _ h
    exact ⟨k,ha,i,hi,e,e2,hT,h4,h⟩
theorem SnapsOk.tagged {l:List SnapC} (h:SnapsOk l) (i:Nat) (hi:i<l.length) (tl:List BS) (ht:snapOk ((l[i]'hi).tagged tl).r=true):SnapsOk (l.set i ((l[i]'hi).tagged tl)):=by
 have hg:(l.set i ((l[i]'hi).tagged tl)).map SnapC.gd=l.map SnapC.gd:=by
  rw [List.map_set,show ((l[i]'hi).tagged tl).gd=(l[i]'hi).gd from rfl,← List.getElem_map SnapC.gd (h:=by rw [List.length_map];exact hi),List.set_getElem_self]
 have hn:(l.set i ((l[i]'hi).tagged tl)).map SnapC.nm=l.map SnapC.nm:=by
  rw [List.map_set,show ((l[i]'hi).tagged tl).nm=(l[i]'hi).nm from rfl,← List.getElem_map SnapC.nm (h:=by rw [List.length_map];exact hi),List.set_getElem_self]
 refine ⟨by rw [List.length_set];exact h.len,fun x hx=>?_,?_,by rw [hn];exact h.nodup⟩
 ·rcases List.mem_or_eq_of_mem_set hx with hx | rfl
  ·exact h.each x hx
  ·exact ⟨ht,(h.each _ (List.getElem_mem hi)).2⟩
 ·have:=List.pairwise_map (f:=SnapC.gd) (l:=l) (R:=fun a b=>a<b)
  have h4:=this.2 h.asc
  rw [← hg] at h4
  exact List.pairwise_map.1 h4
theorem retag_ok (c:TenC) (hE:c.E=0) (k:Nat) (hk:k<c.sets.length) (i:Nat) (hi:i<(c.sets[k]'hk).snaps.length) (tl:List BS) (ht:snapOk (((c.sets[k]'hk).snaps[i]'hi).tagged tl).r=true):(c.putS k ((c.sets[k]'hk).retag i ((c.sets[k]'hk).snaps[i]'hi) tl)).E=0:=by
 obtain ⟨h1,h2,h3,h4,h5,h6,h7⟩:=(TenC.E_ok c).1 hE
 refine (TenC.E_ok _).2 ⟨h1,h2,h3,?_,h5,h6,h7⟩
 obtain ⟨s',hs'⟩:∃ s',s'=(c.sets[k]'hk).retag i ((c.sets[k]'hk).snaps[i]'hi) tl:=⟨_,rfl⟩
 rw [← hs']
 have hps:s'.path=(c.sets[k]'hk).path:=by rw [hs'];rfl
 have hin:∀ x∈c.sets,∃ x'∈c.sets.set k s',x'.path=x.path∧∀ y∈x.snaps,∃ y'∈x'.snaps,y'.nm=y.nm:=by
  intro x hx
  rcases mem_set hk (s:=s') hx with h | ⟨rfl,h⟩
  ·exact ⟨x,h,rfl,fun y hy=>⟨y,hy,rfl⟩⟩
  ·refine ⟨s',h,hps,fun y hy=>?_⟩
   have:y.nm∈s'.snaps.map SnapC.nm:=by
    rw [hs']
    show _∈((c.sets[k]'hk).snaps.set i _).map SnapC.nm
    rw [List.map_set,show (((c.sets[k]'hk).snaps[i]'hi).tagged tl).nm=((c.sets[k]'hk).snaps[i]'hi).nm from rfl,← List.getElem_map SnapC.nm (h:=by rw [List.length_map];exact hi),List.set_getElem_self]
    exact List.mem_map_of_mem hy
   obtain ⟨y',hy',e⟩:=List.mem_map.1 this
   exact ⟨y',hy',e⟩
 have horg:∀ z∈c.sets,z.org=[]∨∃ a b,splitL z.org=some (a,b)∧a≠z.path∧∃ x∈c.sets.set k s',x.path=a∧∃ y∈x.snaps,y.nm=b:=by
  intro z hz
  rcases (h4.each z hz).all.2.2.2 with h | ⟨a,b,g1,g2,x,hx,g3,y,hy,g4⟩
  ·exact .inl h
  ·obtain ⟨x',hx',e1,e2⟩:=hin x hx
   obtain ⟨y',hy',e3⟩:=e2 y hy
   exact .inr ⟨a,b,g1,g2,x',hx',e1.trans g3,y',hy',e3.trans g4⟩
 refine h4.re (set_paths hk hps) fun z hz=>?_
 rcases List.mem_or_eq_of_mem_set hz with hz | rfl
 ·obtain ⟨o1,o2,o3,-⟩:=(h4.each z hz).all
  exact ⟨o1,o2,o3,horg z hz⟩
 ·obtain ⟨o1,o2,o3,-⟩:=(h4.each _ (List.getElem_mem hk)).all
  refine ⟨?_,?_,?_,?_⟩
  ·rw [hs'];exact o1
  ·rw [hs'];exact o2
  ·rw [hs'];exact o3.tagged i hi tl ht
  ·have h:=horg _ (List.getElem_mem hk)
   rw [hs']
   rw [hs'] at h
   exact h
theorem findN_set (s:SetC) (i:Nat) (y:SnapC) (hy:s.snaps[i]?=some y) (tl:List BS) (n:BS):(s.retag i y tl).findN n=s.findN n:=by
 have e:∀ l:List SnapC,firstI (fun x:SnapC=>x.nm == n) l=firstI (fun q:BS=>q == n) (l.map SnapC.nm):=fun l=>by rw [firstI_map]
 unfold SetC.findN
 rw [e,e]
 congr 1
 show (s.snaps.set i (y.tagged tl)).map SnapC.nm=_
 rw [List.map_set,show (y.tagged tl).nm=y.nm from rfl]
 have h:(s.snaps.map SnapC.nm)[i]?=some y.nm:=by rw [List.getElem?_map,hy];rfl
 obtain ⟨hk,e⟩:=List.getElem?_eq_some_iff.1 h
 rw [← e,List.set_getElem_self]
theorem hold_law (C A:TenC) (p n g:BS) (h:(0,A)=C.hold p n g):A.E=0∧A.release p n g=(0,C)∧A.heldC p n=true∧(A.unsnap p n).1≠0∧(A.destroy p).1≠0:=by
 obtain ⟨k,ha,i,hi,e,e2,hT,h4,hA⟩:=hold_form C p n g A h
 have hgn:nameB g=true:=by simpa using ha.good
 have hb:(!nameB g)=false:=ha.good
 obtain ⟨s,hs⟩:∃ s,s=C.sets[k]'ha.lt:=⟨_,rfl⟩
 have hsk:C.sets[k]?=some s:=by rw [hs];exact List.getElem?_eq_getElem ha.lt
 have hsp:s.path=p:=by rw [hs];exact ha.at_
 have hSn:SnapsOk s.snaps:=by rw [hs];exact ha.snaps
 have hmS:s∈C.sets:=by rw [hs];exact List.getElem_mem _
 have hret:=retag_ok C ha.E k ha.lt i hi
 simp only [← hs] at hi e2 hT h4 hA hret
 obtain ⟨y,hy⟩:∃ y,y=s.snaps[i]'hi:=⟨_,rfl⟩
 have hyi:s.snaps[i]?=some y:=by rw [hy];exact List.getElem?_eq_getElem hi
 have hmY:y∈s.snaps:=by rw [hy];exact List.getElem_mem _
 simp only [← hy] at e2 hT h4 hA hret
 have hok:=(hSn.each y hmY).1
 have htg:TagsOk y.tags:=by
  unfold snapOk at hok
  simp only [Bool.and_eq_true] at hok
  exact (tagsB_iff _).1 hok.2
 have hok2:snapOk (y.tagged (insT g y.tags)).r=true:=by
  unfold snapOk at hok ⊢
  simp only [Bool.and_eq_true] at hok ⊢
  exact ⟨hok.1,(tagsB_iff _).2 (insT_ok htg hgn h4 hT)⟩
 have hE:A.E=0:=by rw [hA];exact hret _ hok2
 obtain ⟨s',hs'⟩:∃ s',s'=s.retag i y (insT g y.tags):=⟨_,rfl⟩
 obtain ⟨y',hy'⟩:∃ y',y'=y.tagged (insT g y.tags):=⟨_,rfl⟩
 rw [← hs'] at hA
 have hAk:A.sets[k]?=some s':=by rw [hA];exact List.getElem?_set_self ha.lt
 have hyk:s'.snaps[i]?=some y':=by rw [hs',hy'];exact List.getElem?_set_self hi
 have hmA:=List.mem_of_getElem? hAk
 have hmY':=List.mem_of_getElem? hyk
 have hp':s'.path=p:=by rw [hs'];exact hsp
 have hn':y'.nm=n:=by rw [hy'];exact e2
 have hf1:A.find p=(k:Int):=by rw [hA,find_putP C p k s s' hsk (by rw [hs'];rfl)];exact ha.find
 have hf2:s'.findN n=(i:Int):=by
  have h1:=C.foundS_of p n ha.E ha.path ha.name s hmS hsp y hmY e2
  rw [hb,h1] at e
  injection e with _ e
  injection e with e _
  rw [hs',findN_set s i y hyi]
  exact e
 have hF:A.foundS p n false=((k:Int),(i:Int),0):=by rw [A.foundS_of p n hE ha.path ha.name s' hmA hp' y' hmY' hn',hf1,hf2]
 have htag:y'.tags=insT g y.tags:=by rw [hy'];rfl
 have hlen:0<y'.tags.length:=by rw [htag,insT_len];omega
 refine ⟨hE,?_,?_,?_,?_⟩
 ·rw [release_at (by rw [hb];exact hF) hAk hyk,if_neg (by rw [htag,insT_isT];decide)]
  congr 1
  rw [htag,delT_insT,hA,hs',hy']
  have e3:(s.retag i y (insT g y.tags)).retag i (y.tagged (insT g y.tags)) y.tags=s:=by
   obtain ⟨pa,og,bo,sn,ow⟩:=s
   show SetC.mk pa og bo ((sn.set i _).set i (SnapC.mk y.nm y.gd y.body y.tags y.own)) ow=_
   rw [List.set_set]
   congr 1
   obtain ⟨hk,e4⟩:=List.getElem?_eq_some_iff.1 hyi
   rw [← e4]
   exact List.set_getElem_self _
  rw [e3]
  have e5:(C.putS k (s.retag i y (insT g y.tags))).putS k s=C.putS k s:=by
   unfold TenC.putS
   simp only [List.set_set]
  rw [e5]
  exact putS_same C k s hsk
 ·unfold TenC.heldC
  have h1:=find_of_mem ((TenC.E_ok A).1 hE).sets.asc hmA
  rw [hp'] at h1
  have hS':SnapsOk s'.snaps:=(snapsB_iff _).1 (((TenC.E_ok A).1 hE).sets.each _ hmA).snaps
  have h2:=find_nodup hS'.nodup hmY'
  rw [hn'] at h2
  rw [h1]
  simp only [h2]
  simpa using hlen
 ·rw [unsnap_at hF hAk hyk]
  by_cases hc:0<A.clones p n
  ·rw [if_pos hc]
   exact (by decide:(44:Int)≠0)
  ·rw [if_neg hc,if_pos hlen]
   exact (by decide:(43:Int)≠0)
 ·unfold TenC.destroy
  by_cases h1:A.ask p≠0
  ·rw [if_pos h1]
   exact h1
  ·rw [if_neg h1]
   by_cases h2:A.find p<0
   ·rw [if_pos h2]
    exact (by decide:(71:Int)≠0)
   ·rw [if_neg h2]
    split
    ·exact (by decide:(44:Int)≠0)
    ·rw [if_pos]
     ·exact (by decide:(43:Int)≠0)
     ·rw [hf1]
      unfold TenC.heldAt
      simp only [Int.toNat_natCast,hAk]
      exact List.any_eq_true.2 ⟨y',hmY',by simpa using hlen⟩
end Go.Proofs.YtcgclpcocdappaaGreatDoor
