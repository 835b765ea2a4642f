/-
  The example of chapter 18: a snapshot that is held is not destroyed.
-/
import Derived.Test.YtiojfffgiejibaaGreatDoorTtM1
import Derived.WalkKit
import Derived.WalkSpells
import Derived.Below
import Derived.Laws.OwnMore
import Derived.Deep.AppendLies
import Derived.Deep.Draws
import Derived.Laws.Rows
import Derived.Maps.AppendAt
import Derived.RegionTactic
import Derived.OwnWalk
import Derived.Deep.QuietTactic
import Derived.BigQuiet
import Derived.Lib.Hide
import Derived.Laws.CopyOwn
import Derived.IntWalk
import Derived.Test.YtiojfffgiejibaaGreatDoorRows
import Derived.Handy
import Derived.Lib.AppendZeros
import Derived.ProofKit
import Derived.Deep.Quiet
import Derived.OpenShut
import Derived.ShutString
import Derived.ChangeOld
import Derived.Carry
import Derived.SizedLaws
import Derived.JoinedCond
import Derived.Deep.CondSized
import Derived.Deep.Slices
import Derived.Deep.Fields
import Derived.Lib.SmallJoins
import Derived.Orders
import Derived.Lib.SplitLaws
import Derived.Lib.LastIndexByte
import Derived.Lib.Strings
import Derived.Deep.RegionLaw
import Derived.Sort.Walk0
import Derived.Sort.KeysCollected
import Derived.Shelf.SlIter.Nil
import Derived.Shelf.SortM.Plain
import Derived.Shelf.SortM.SortNone
import Derived.Maps.OwnSet
import Derived.Maps.StringElems
import Derived.Deep.MidRow
import Derived.Shelf.Strings.Search1
import Derived.Shelf.Strings.Search2
import Derived.Shelf.Strings.Search3
import Derived.Shelf.Strings.Cut
import Derived.Shelf.Strings.Count
import Derived.Shelf.LaysM
import Derived.Shelf.Strings.Shaped
import Derived.Shelf.Strings.LastIndex
import Derived.Shelf.Strings.Split
import Derived.Shelf.Strings.SplitShaped
import Derived.Shelf.Unicode.Decode
import Derived.Shelf.Strings.RuneCount
import Derived.Shelf.Strings.Explode
import Derived.Shelf.Unicode.DecodeSlow
import Derived.Shelf.Slices.Turned
import Derived.Test.YtiojfffgiejibaaGreatDoorProg
import Derived.Lib.Overlaps
import Derived.Lib.AppendZerosOnto
import Derived.Laws.BytesString
import Derived.Laws.IdiomStrings
import Derived.Lib.ConvBytes
import Derived.Deep.DeepCutAuto
import Derived.Great.BuildSlice
import Derived.Test.YtiojfffgiejibaaGreatDoorT0
import Derived.Test.YtiojfffgiejibaaGreatDoorTt1
import Derived.Test.YtiojfffgiejibaaGreatDoorTt5
import Derived.Test.YtiojfffgiejibaaGreatDoorTt7
import Derived.Test.YtiojfffgiejibaaGreatDoorTt10
import Derived.Test.YtiojfffgiejibaaGreatDoorTt11
import Derived.Test.YtiojfffgiejibaaGreatDoorTt16
import Derived.Test.YtiojfffgiejibaaGreatDoorTt19
import Derived.Test.YtiojfffgiejibaaGreatDoorTt20
import Derived.Test.YtiojfffgiejibaaGreatDoorTt21
import Derived.Test.YtiojfffgiejibaaGreatDoorTt23
import Derived.Test.YtiojfffgiejibaaGreatDoorTt24
import Derived.Test.YtiojfffgiejibaaGreatDoorTt25
import Derived.Test.YtiojfffgiejibaaGreatDoorTt30
import Derived.Test.YtiojfffgiejibaaGreatDoorTt31
import Derived.Test.YtiojfffgiejibaaGreatDoorTt34
import Derived.Test.YtiojfffgiejibaaGreatDoorTt37
import Derived.Test.YtiojfffgiejibaaGreatDoorTt39
import Derived.Test.YtiojfffgiejibaaGreatDoorTt40
import Derived.Test.YtiojfffgiejibaaGreatDoorTt43
namespace Go.Proofs.YtiojfffgiejibaaGreatDoor
open Go.RowKit
theorem num18_any (n:Int) (w:World):Calls Tryz.prog 35 #[.int .i64 n] w fun e w'=>e=.returned (.int .i64 n)∧w'=w:=by
 go_enter Tryz.func35,Tryz.ntmps35
 go_wp2_with fail
 go_ret
 exact ⟨rfl,rfl⟩
theorem new1_snapshot:(new0C 9).snapshot [] [97]=(0,⟨[116],9,2,[⟨[],[],[],[⟨[97],1,[],[],[]⟩],[]⟩],[],[],[]⟩):=tZ2
theorem new1_guid:(new0C 9).guidAt []=1:=tZ2
theorem new1_hold:TenC.hold ⟨[116],9,2,[⟨[],[],[],[⟨[97],1,[],[],[]⟩],[]⟩],[],[],[]⟩ [] [97] [104]=(0,⟨[116],9,2,[⟨[],[],[],[⟨[97],1,[],[[104]],[]⟩],[]⟩],[],[],[]⟩):=tZ2
theorem new1_unsnap:TenC.unsnap ⟨[116],9,2,[⟨[],[],[],[⟨[97],1,[],[[104]],[]⟩],[]⟩],[],[],[]⟩ [] [97]=(43,⟨[116],9,2,[⟨[],[],[],[⟨[97],1,[],[[104]],[]⟩],[]⟩],[],[],[]⟩):=tZ2
theorem new1_held:TenC.heldC ⟨[116],9,2,[⟨[],[],[],[⟨[97],1,[],[[104]],[]⟩],[]⟩],[],[],[]⟩ [] [97]=true:=tZ2
theorem newT_sz (tg:List BS) (h1:tg.length≤4) (h2:∀ t∈tg,t.length≤4):TenC.sz ⟨[116],9,2,[⟨[],[],[],[⟨[97],1,[],tg,[]⟩],[]⟩],[],[],[]⟩ :=
 ⟨by simp,by simp,fun y hy=>by
  rw [List.mem_singleton] at hy
  subst hy
  exact ⟨by simp,by simp,by simp,by simp,fun z hz=>by
   rw [List.mem_singleton] at hz
   subst hz
   exact ⟨by simp,by simp,by show tg.length≤_;omega,fun t ht=>by have:=h2 t ht;show t.length≤_;omega,by simp,fun _ hp=>by cases hp⟩,by simp,fun _ hp=>by cases hp⟩,
  by simp,fun _ h=>(by cases h),by simp,fun _ h=>(by cases h),by simp,fun _ h=>(by cases h)⟩
/-- a box of which all cells are written -/
theorem box7 {zs:List Value} (cs:List Value) {W w:World} {g:Nat} (hk:Blk W g 27 zs.toArray) (hb:Below w.heap.size w W) (hg:w.heap.size≤g) (hz:zs.length=7:=by rfl) (hc:cs.length=7:=by rfl) :
  ∃ WR,WR=W.setCells g 0 cs.toArray.toList∧Hid (W.there g 0 7)∧Hid (Blk WR g 27 cs.toArray)∧Hid (Below w.heap.size w WR)∧W.grownBy WR (some g):=by
 have k4:=Blk.setCells (g:=g) cs W [] zs (by rw [hz,hc]) hk
 simp only [List.length_nil,List.nil_append] at k4
 exact ⟨_,rfl,hk.there 7 (by simp [hz]),k4,below_setCells hg cs W 0 hb,grown_cellsS g cs W 0⟩
set_option maxRecDepth 100000 in
set_option maxHeartbeats 4000000 in
theorem alive18_any (w:World) (hmx:HasMax w):Calls Tryz.prog 39 #[] w fun e w'=>e=.returned (.bool true)∧Below w.heap.size w w':=by
 go_enter Tryz.func39,Tryz.ntmps39
 go_wp2_with fail
 refine (rnew_any 9 tZ3 tZ3 _).mono ?_
 rintro e w1 ⟨y,rfl,ho,hy,hb⟩
 have HW1:=Lib.hid hb
 have HO:=Lib.hid ho
 have HY:=Lib.hid hy
 clear hb ho hy
 obtain ⟨mm,mq,mx,⟨m1,m2,m3,ml⟩,⟨n1,n2,n3,nl⟩,⟨p1,p2,p3,pl⟩,⟨q1,q2,q3,ql⟩⟩:=y
 simp only [TenR.val,TenR.cells,FS.val,strV]
 have hbn:=(HW1.out).alloc HW1.out.size (.cells #[.string ⟨mm.toArray⟩,.int .i64 mq,.int .i64 mx,.slice m1 m2 m3,.slice n1 n2 n3,.slice p1 p2 p3,.slice q1 q2 q3] 27)
 have kbn:=Blk.new w1 27 #[.string ⟨mm.toArray⟩,.int .i64 mq,.int .i64 mx,.slice m1 m2 m3,.slice n1 n2 n3,.slice p1 p2 p3,.slice q1 q2 q3]
 have hsn:(w1.alloc (.cells #[.string ⟨mm.toArray⟩,.int .i64 mq,.int .i64 mx,.slice m1 m2 m3,.slice n1 n2 n3,.slice p1 p2 p3,.slice q1 q2 q3] 27)).heap.size=w1.heap.size+1:=tZ4
 have HOn:=HO.out.below ((Below.refl w1.heap.size w1).alloc (Nat.le_refl _) (.cells #[.string ⟨mm.toArray⟩,.int .i64 mq,.int .i64 mx,.slice m1 m2 m3,.slice n1 n2 n3,.slice p1 p2 p3,.slice q1 q2 q3] 27))
 obtain ⟨By,hBy⟩:∃ g,g=w1.heap.size:=⟨_,rfl⟩
 obtain ⟨w2,hWn⟩:∃ W,W=(w1.alloc (.cells #[.string ⟨mm.toArray⟩,.int .i64 mq,.int .i64 mx,.slice m1 m2 m3,.slice n1 n2 n3,.slice p1 p2 p3,.slice q1 q2 q3] 27)):=⟨_,rfl⟩
 rw [← hWn] at hbn kbn hsn HOn
 have HW2:=Lib.hid hbn
 rw [← hBy] at kbn
 have hKy:Hid (∀ W,Below w2.heap.size w2 W→Blk W By 27 #[.string ⟨mm.toArray⟩,.int .i64 mq,.int .i64 mx,.slice m1 m2 m3,.slice n1 n2 n3,.slice p1 p2 p3,.slice q1 q2 q3]):=fun W h=>kbn.below h tZ1
 have HZy:=Lib.hid (show By=w1.heap.size∧w2.heap.size=w1.heap.size+1 from ⟨hBy,hsn⟩)
 have HO:=Lib.hid HOn
 clear hbn kbn hsn HOn
 have hCR:=snapshot_any ⟨mm,mq,mx,⟨m1,m2,m3,ml⟩,⟨n1,n2,n3,nl⟩,⟨p1,p2,p3,pl⟩,⟨q1,q2,q3,ql⟩⟩ [] [97] w2 w2.heap.size (Nat.le_refl _) HO.out.rd (TenR.sz_of HO.out.rd (by rw [HY.out];exact new0C_sz 9)) tZ3 tZ3 (hmx.below HW2.out)
 rw [HY.out,new1_snapshot,new1_guid] at hCR
 have HCR:Hid (Calls Tryz.prog 18 #[.agg #[.string ⟨mm.toArray⟩,.int .i64 mq,.int .i64 mx,.slice m1 m2 m3,.slice n1 n2 n3,.slice p1 p2 p3,.slice q1 q2 q3],.string ⟨#[]⟩,.string ⟨#[97]⟩] w2 (TenPost3 w2 1 (0,⟨[116],9,2,[⟨[],[],[],[⟨[97],1,[],[],[]⟩],[]⟩],[],[],[]⟩))):=hCR
 clear hCR
 obtain ⟨c0,c1,c2,c3,c4,c5,c6⟩:=blk7 (hKy.out w2 (Below.refl _ _))
 go_wp2_with (refine wpList_store_new w1 rfl 27 (.tmp 1) (.tmp 8) rfl 27 [.string ⟨#[]⟩,.int .i64 0,.int .i64 0,.slice none 0 0,.slice none 0 0,.slice none 0 0,.slice none 0 0] [.string ⟨mm.toArray⟩,.int .i64 mq,.int .i64 mx,.slice m1 m2 m3,.slice n1 n2 n3,.slice p1 p2 p3,.slice q1 q2 q3] rfl rfl rfl tZ2 tZ5 ?_;rw [show ([.string ⟨mm.toArray⟩,.int .i64 mq,.int .i64 mx,.slice m1 m2 m3,.slice n1 n2 n3,.slice p1 p2 p3,.slice q1 q2 q3]:List Value).toArray=#[.string ⟨mm.toArray⟩,.int .i64 mq,.int .i64 mx,.slice m1 m2 m3,.slice n1 n2 n3,.slice p1 p2 p3,.slice q1 q2 q3] from rfl,← hWn,← hBy];clear hWn hBy)
 refine HCR.out.mono ?_
 clear HCR c0 c1 c2 c3 c4 c5 c6
 rintro e w3 ⟨v,gi,rfl,hb,⟨h1,-⟩ | ⟨-,rfl,u,rfl,hou,hu⟩⟩
 ·exact absurd (show (0:Int)=0 from rfl) h1
 have HW3:=Lib.hid (HW2.out.trans (hb.mono HW2.out.size))
 have KB:=Lib.hid (hKy.out w3 hb)
 have HU:=Lib.hid hu
 have HGY:Hid (w.heap.size≤By):=by have h1:=HZy.out.1;have h2:=HW1.out.size;show _≤_;omega
 clear hb hu HO HY hKy
 obtain ⟨am,aq,ax,⟨a1,a2,a3,al⟩,⟨f1,f2,f3,fl⟩,⟨i1,i2,i3,il⟩,⟨j1,j2,j3,jl⟩⟩:=u
 simp only [TenR.val,TenR.cells,FS.val,strV]
 obtain ⟨w4,hW4,hth,KB4,HW4,hgw⟩:=box7 (g:=By) [.string ⟨am.toArray⟩,.int .i64 aq,.int .i64 ax,.slice a1 a2 a3,.slice f1 f2 f3,.slice i1 i2 i3,.slice j1 j2 j3] KB.out HW3.out HGY.out
 have HOU:=Lib.hid (TenO.keptT hou hgw KB.out offT_ten)
 clear hgw KB
 clear hou
 have hCR:=hold_any ⟨am,aq,ax,⟨a1,a2,a3,al⟩,⟨f1,f2,f3,fl⟩,⟨i1,i2,i3,il⟩,⟨j1,j2,j3,jl⟩⟩ [] [97] [104] w4 w4.heap.size (Nat.le_refl _) HOU.out.rd (TenR.sz_of HOU.out.rd (by rw [HU.out];exact newT_sz [] tZ3 (fun _ h=>by cases h))) tZ3 (hmx.below HW4.out)
 rw [HU.out,new1_hold] at hCR
 have HCR:Hid (Calls Tryz.prog 30 #[.agg #[.string ⟨am.toArray⟩,.int .i64 aq,.int .i64 ax,.slice a1 a2 a3,.slice f1 f2 f3,.slice i1 i2 i3,.slice j1 j2 j3],.string ⟨#[]⟩,.string ⟨#[97]⟩,.string ⟨#[104]⟩] w4 (TenPost w4 (0,⟨[116],9,2,[⟨[],[],[],[⟨[97],1,[],[[104]],[]⟩],[]⟩],[],[],[]⟩))):=hCR
 clear hCR
 obtain ⟨c0,c1,c2,c3,c4,c5,c6⟩:=blk7 (KB4.out)
 go_wp2_with (refine wpList_store_mid rfl 27 (.tmp 1) (.tmp 13) rfl By 0 #[.string ⟨am.toArray⟩,.int .i64 aq,.int .i64 ax,.slice a1 a2 a3,.slice f1 f2 f3,.slice i1 i2 i3,.slice j1 j2 j3] rfl rfl hth.out tZ2 tZ5 ?_;rw [← hW4];clear hW4 hth)
 refine HCR.out.mono ?_
 clear HCR c0 c1 c2 c3 c4 c5 c6
 rintro e w5 ⟨v,rfl,hb,⟨h1,-⟩ | ⟨-,u,rfl,hou,hu⟩⟩
 ·exact absurd (show (0:Int)=0 from rfl) h1
 have HW5:=Lib.hid (HW4.out.trans (hb.mono HW4.out.size))
 have KB5:=Lib.hid (KB4.out.below hb KB4.out.lt)
 clear HU HOU
 have HU:=Lib.hid hu
 clear hb hu KB4
 obtain ⟨vm,vq,vx,⟨v1,v2,v3,vl⟩,⟨r1,r2,r3,rl⟩,⟨o1,o2,o3,ol⟩,⟨d1,d2,d3,dl⟩⟩:=u
 simp only [TenR.val,TenR.cells,FS.val,strV]
 obtain ⟨w6,hW6,hth,KB6,HW6,hgw⟩:=box7 (g:=By) [.string ⟨vm.toArray⟩,.int .i64 vq,.int .i64 vx,.slice v1 v2 v3,.slice r1 r2 r3,.slice o1 o2 o3,.slice d1 d2 d3] KB5.out HW5.out HGY.out
 have HOU:=Lib.hid (TenO.keptT hou hgw KB5.out offT_ten)
 clear hgw KB5
 clear hou
 have hCR:=unsnap_any ⟨vm,vq,vx,⟨v1,v2,v3,vl⟩,⟨r1,r2,r3,rl⟩,⟨o1,o2,o3,ol⟩,⟨d1,d2,d3,dl⟩⟩ [] [97] w6 w6.heap.size (Nat.le_refl _) HOU.out.rd (TenR.sz_of HOU.out.rd (by rw [HU.out];exact newT_sz [[104]] tZ3 (fun t h=>by rw [List.mem_singleton] at h;subst h;decide))) tZ3 (hmx.below HW6.out)
 rw [HU.out,new1_unsnap] at hCR
 have HCR:Hid (Calls Tryz.prog 26 #[.agg #[.string ⟨vm.toArray⟩,.int .i64 vq,.int .i64 vx,.slice v1 v2 v3,.slice r1 r2 r3,.slice o1 o2 o3,.slice d1 d2 d3],.string ⟨#[]⟩,.string ⟨#[97]⟩] w6 (TenPost w6 (43,⟨[116],9,2,[⟨[],[],[],[⟨[97],1,[],[[104]],[]⟩],[]⟩],[],[],[]⟩))):=hCR
 clear hCR
 obtain ⟨c0,c1,c2,c3,c4,c5,c6⟩:=blk7 (KB6.out)
 go_wp2_with (refine wpList_store_mid rfl 27 (.tmp 1) (.tmp 19) rfl By 0 #[.string ⟨vm.toArray⟩,.int .i64 vq,.int .i64 vx,.slice v1 v2 v3,.slice r1 r2 r3,.slice o1 o2 o3,.slice d1 d2 d3] rfl rfl hth.out tZ2 tZ5 ?_;rw [← hW6];clear hW6 hth)
 refine HCR.out.mono ?_
 clear HCR c0 c1 c2 c3 c4 c5 c6
 rintro e w7 ⟨v,rfl,hb,⟨-,rfl⟩ | ⟨h1,-⟩⟩
 rotate_left
 ·exact absurd h1 tZ3
 unfold ZEROT
 have HW7:=Lib.hid (HW6.out.trans (hb.mono HW6.out.size))
 have KB7:=Lib.hid (KB6.out.below hb KB6.out.lt)
 have HO7:=Lib.hid (HOU.out.below hb)
 clear hb KB6 HOU
 have hbn:=(HW7.out).alloc HW7.out.size (.cells #[.string ⟨#[]⟩,.int .i64 0,.int .i64 0,.slice none 0 0,.slice none 0 0,.slice none 0 0,.slice none 0 0] 27)
 have kbn:=Blk.new w7 27 #[.string ⟨#[]⟩,.int .i64 0,.int .i64 0,.slice none 0 0,.slice none 0 0,.slice none 0 0,.slice none 0 0]
 have hsn:(w7.alloc (.cells #[.string ⟨#[]⟩,.int .i64 0,.int .i64 0,.slice none 0 0,.slice none 0 0,.slice none 0 0,.slice none 0 0] 27)).heap.size=w7.heap.size+1:=tZ4
 have HO7n:=HO7.out.below ((Below.refl w7.heap.size w7).alloc (Nat.le_refl _) (.cells #[.string ⟨#[]⟩,.int .i64 0,.int .i64 0,.slice none 0 0,.slice none 0 0,.slice none 0 0,.slice none 0 0] 27))
 have hb78:=(Below.refl w7.heap.size w7).alloc (Nat.le_refl _) (.cells #[.string ⟨#[]⟩,.int .i64 0,.int .i64 0,.slice none 0 0,.slice none 0 0,.slice none 0 0,.slice none 0 0] 27)
 obtain ⟨Bz,hBz⟩:∃ g,g=w7.heap.size:=⟨_,rfl⟩
 obtain ⟨w8,hWn⟩:∃ W,W=(w7.alloc (.cells #[.string ⟨#[]⟩,.int .i64 0,.int .i64 0,.slice none 0 0,.slice none 0 0,.slice none 0 0,.slice none 0 0] 27)):=⟨_,rfl⟩
 rw [← hWn] at hbn kbn hsn HO7n hb78
 have KB8:=Lib.hid (KB7.out.below hb78 KB7.out.lt)
 have HW8:=Lib.hid hbn
 rw [← hBz] at kbn
 have hKz:Hid (∀ W,Below w8.heap.size w8 W→Blk W Bz 27 #[.string ⟨#[]⟩,.int .i64 0,.int .i64 0,.slice none 0 0,.slice none 0 0,.slice none 0 0,.slice none 0 0]):=fun W h=>kbn.below h tZ1
 have HZz:=Lib.hid (show Bz=w7.heap.size∧w8.heap.size=w7.heap.size+1 from ⟨hBz,hsn⟩)
 have HO7:=Lib.hid HO7n
 clear hbn kbn hsn HO7n
 clear hb78 KB7
 have hHE:=held_any ⟨vm,vq,vx,⟨v1,v2,v3,vl⟩,⟨r1,r2,r3,rl⟩,⟨o1,o2,o3,ol⟩,⟨d1,d2,d3,dl⟩⟩ [] [97] w8 w8.heap.size (Nat.le_refl _) HO7.out.rd (TenR.sz_of HO7.out.rd (by rw [HU.out];exact newT_sz [[104]] tZ3 (fun t h=>by rw [List.mem_singleton] at h;subst h;decide)))
 rw [held_con ⟨vm,vq,vx,⟨v1,v2,v3,vl⟩,⟨r1,r2,r3,rl⟩,⟨o1,o2,o3,ol⟩,⟨d1,d2,d3,dl⟩⟩ w8 w8.heap.size HO7.out.rd,HU.out,new1_held] at hHE
 have HHE:Hid (Calls Tryz.prog 38 #[.agg #[.string ⟨vm.toArray⟩,.int .i64 vq,.int .i64 vx,.slice v1 v2 v3,.slice r1 r2 r3,.slice o1 o2 o3,.slice d1 d2 d3],.string ⟨#[]⟩,.string ⟨#[97]⟩] w8 fun e w'=>e=.returned (.bool true)∧Below w8.heap.size w8 w'):=hHE
 clear hHE HO7 HU hKz
 obtain ⟨c0,c1,c2,c3,c4,c5,c6⟩:=blk7 (KB8.out)
 go_wp2_with (refine wpList_store_new w7 rfl 27 (.tmp 4) (.tmp 24) rfl 27 [.string ⟨#[]⟩,.int .i64 0,.int .i64 0,.slice none 0 0,.slice none 0 0,.slice none 0 0,.slice none 0 0] [.string ⟨#[]⟩,.int .i64 0,.int .i64 0,.slice none 0 0,.slice none 0 0,.slice none 0 0,.slice none 0 0] rfl rfl rfl tZ2 tZ5 ?_;rw [show ([.string ⟨#[]⟩,.int .i64 0,.int .i64 0,.slice none 0 0,.slice none 0 0,.slice none 0 0,.slice none 0 0]:List Value).toArray=#[.string ⟨#[]⟩,.int .i64 0,.int .i64 0,.slice none 0 0,.slice none 0 0,.slice none 0 0,.slice none 0 0] from rfl,← hWn,← hBz];clear hWn hBz)
 refine (num18_any _ _).mono ?_
 rintro e w9 ⟨rfl,hw9⟩
 rw [hw9]
 clear hw9 w9
 go_wp2_with fail
 refine (num18_any _ _).mono ?_
 rintro e w9 ⟨rfl,hw9⟩
 rw [hw9]
 clear hw9 w9
 go_wp2_with fail
 refine HHE.out.mono ?_
 rintro e w9 ⟨rfl,hb⟩
 have HW9:=HW8.out.trans (hb.mono HW8.out.size)
 clear hb HHE
 go_wp2_with fail
 exact bodyPost_ret (v:=.bool true) (by simp [results,Tryz.results39,go_sem]) rfl ⟨rfl,HW9⟩
end Go.Proofs.YtiojfffgiejibaaGreatDoor
