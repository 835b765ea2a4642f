/-
  The page's New: the root alone. The example of chapter 16: the page's New, and a set made. What is told of tenants, laid side by side: two of one content are the same.
-/
import Derived.Test.YtiojfffgiejibaaGreatDoorQsM1
import Derived.WalkKit
import Derived.WalkSpells
import Derived.Below
import Derived.Laws.OwnMore
import Derived.Deep.AppendLies
import Derived.Deep.Draws
import Derived.Laws.Rows
import Derived.Maps.AppendAt
import Derived.RegionTactic
import Derived.OwnWalk
import Derived.Deep.QuietTactic
import Derived.BigQuiet
import Derived.Lib.Hide
import Derived.Laws.CopyOwn
import Derived.IntWalk
import Derived.Test.YtiojfffgiejibaaGreatDoorRows
import Derived.Handy
import Derived.Deep.Quiet
import Derived.ProofKit
import Derived.OpenShut
import Derived.ShutString
import Derived.ChangeOld
import Derived.Carry
import Derived.SizedLaws
import Derived.JoinedCond
import Derived.Deep.CondSized
import Derived.Deep.Slices
import Derived.Deep.Fields
import Derived.Lib.SmallJoins
import Derived.Orders
import Derived.Lib.SplitLaws
import Derived.Lib.LastIndexByte
import Derived.Lib.Strings
import Derived.Sort.Walk0
import Derived.Sort.KeysCollected
import Derived.Deep.MidRow
import Derived.Shelf.Strings.Search1
import Derived.Shelf.Strings.Search2
import Derived.Shelf.Strings.Search3
import Derived.Shelf.Strings.Cut
import Derived.Shelf.Strings.Count
import Derived.Shelf.LaysM
import Derived.Shelf.Strings.Shaped
import Derived.Shelf.Strings.LastIndex
import Derived.Shelf.Strings.Split
import Derived.Shelf.Strings.SplitShaped
import Derived.Shelf.Unicode.Decode
import Derived.Shelf.Strings.RuneCount
import Derived.Shelf.Strings.Explode
import Derived.Shelf.Unicode.DecodeSlow
import Derived.Shelf.Slices.Turned
import Derived.Test.YtiojfffgiejibaaGreatDoorProg
import Derived.Lib.Overlaps
import Derived.Lib.AppendZerosOnto
import Derived.Deep.RegionLaw
import Derived.Laws.BytesString
import Derived.Laws.IdiomStrings
import Derived.Lib.ConvBytes
import Derived.Deep.DeepCutAuto
import Derived.Great.BuildSlice
import Derived.Lib.AppendZeros
import Derived.Test.YtiojfffgiejibaaGreatDoorQ0
import Derived.Test.YtiojfffgiejibaaGreatDoorQs1
import Derived.Test.YtiojfffgiejibaaGreatDoorQs2
import Derived.Test.YtiojfffgiejibaaGreatDoorQs5
import Derived.Test.YtiojfffgiejibaaGreatDoorQs7
import Derived.Test.YtiojfffgiejibaaGreatDoorQs10
import Derived.Test.YtiojfffgiejibaaGreatDoorQs11
import Derived.Test.YtiojfffgiejibaaGreatDoorQs12
import Derived.Test.YtiojfffgiejibaaGreatDoorQs16
import Derived.Test.YtiojfffgiejibaaGreatDoorQs19
import Derived.Test.YtiojfffgiejibaaGreatDoorQs20
import Derived.Test.YtiojfffgiejibaaGreatDoorQs21
import Derived.Test.YtiojfffgiejibaaGreatDoorQs22
import Derived.Test.YtiojfffgiejibaaGreatDoorQs25
import Derived.Test.YtiojfffgiejibaaGreatDoorQs26
import Derived.Test.YtiojfffgiejibaaGreatDoorQs27
import Derived.Test.YtiojfffgiejibaaGreatDoorQs29
import Derived.Test.YtiojfffgiejibaaGreatDoorQs30
import Derived.Test.YtiojfffgiejibaaGreatDoorQs41
namespace Go.Proofs.YtiojfffgiejibaaGreatDoor
open Go.RowKit
def new0C (q:Int):TenC:=⟨[116],q,1,[set0C []],[],[],[]⟩
set_option maxRecDepth 100000 in
set_option maxHeartbeats 2000000 in
theorem rnew_any (q:Int) (h0:0<q) (h1:q≤1099511627776) (w:World) :
  Calls Tryz.prog 65 #[.string ⟨#[116]⟩,.int .i64 q] w fun e w'=>∃ y:TenR,e=.returned (.tuple #[y.val,.int .i64 0])∧TenO w' w.heap.size y∧y.con=new0C q∧Below w.heap.size w w':=by
 have hb:=((Below.refl w.heap.size w).alloc (Nat.le_refl _) (.cells #[.string ⟨#[]⟩,.int .i64 0,.int .i64 0,.slice none 0 0,.slice none 0 0,.slice none 0 0,.slice none 0 0] 27))
 have kz:=Blk.new w 27 #[.string ⟨#[]⟩,.int .i64 0,.int .i64 0,.slice none 0 0,.slice none 0 0,.slice none 0 0,.slice none 0 0]
 have hsz:(w.alloc (.cells #[.string ⟨#[]⟩,.int .i64 0,.int .i64 0,.slice none 0 0,.slice none 0 0,.slice none 0 0,.slice none 0 0] 27)).heap.size=w.heap.size+1:=tZ3
 obtain ⟨W1,hW1⟩:∃ W,W=(w.alloc (.cells #[.string ⟨#[]⟩,.int .i64 0,.int .i64 0,.slice none 0 0,.slice none 0 0,.slice none 0 0,.slice none 0 0] 27)):=⟨_,rfl⟩
 rw [← hW1] at hb hsz kz
 have hKz:Hid (∀ W,Below W1.heap.size W1 W→Blk W w.heap.size 27 #[.string ⟨#[]⟩,.int .i64 0,.int .i64 0,.slice none 0 0,.slice none 0 0,.slice none 0 0,.slice none 0 0]):=fun W h=>kz.below h tZ1
 have hBW:Hid (∀ W,Below W1.heap.size W1 W→Below w.heap.size w W):=fun W h=>hb.trans (h.mono tZ1)
 have hSZ:Hid (∀ W,Below W1.heap.size W1 W→w.heap.size+1≤W.heap.size):=fun W h=>by have:=h.size;omega
 have hW0:Hid (Below W1.heap.size W1 W1):=Below.refl _ _
 have hNM:Hid (∀ W,Below W1.heap.size W1 W→Calls Tryz.prog 79 #[.string ⟨#[116]⟩] W fun e w'=>e=.returned (.bool true)∧Below W.heap.size W w'):=fun W _=>by
  have h:=refNameB_any [116] W tZ4
  rw [show nameB [116]=true by decide +kernel] at h
  exact h
 have hAM:Hid (∀ W,Below W1.heap.size W1 W→Calls Tryz.prog 113 #[.int .i64 q,.int .i64 0] W fun e w'=>e=.returned (.bool true)∧Below W.heap.size W w'):=fun W _=>by
  have h:=refAmountB_any q 0 W
  rw [show amt q 0=true by unfold amt;simp;omega] at h
  exact h
 have hq0:¬ q=0:=tZ1
 clear hb hsz kz
 go_enter Tryz.func65,Tryz.ntmps65
 have hc:=hNM.out  W1 hW0.out
 go_wp2_with fail
 rw [← hW1]
 clear hW1
 refine hc.mono ?_
 clear hc
 rintro e w2 ⟨rfl,hb⟩
 have HW2:=Lib.hid (hW0.out.trans (hb.mono hW0.out.size))
 clear hb
 have hc:=hAM.out  w2 HW2.out
 go_wp2_with fail
 refine hc.mono ?_
 clear hc
 rintro e w3 ⟨rfl,hb⟩
 have HW3:=Lib.hid (HW2.out.trans (hb.mono HW2.out.size))
 clear hb
 have kz:=(hKz.out w3 HW3.out).alloc (.cells #[.string ⟨#[]⟩,.string ⟨#[]⟩,.slice none 0 0,.slice none 0 0,.slice none 0 0] 56)
 have kr:=Blk.new w3 56 #[.string ⟨#[]⟩,.string ⟨#[]⟩,.slice none 0 0,.slice none 0 0,.slice none 0 0]
 have hb:=(hBW.out w3 HW3.out).alloc tZ136 (.cells #[.string ⟨#[]⟩,.string ⟨#[]⟩,.slice none 0 0,.slice none 0 0,.slice none 0 0] 56)
 have hszr:(w3.alloc (.cells #[.string ⟨#[]⟩,.string ⟨#[]⟩,.slice none 0 0,.slice none 0 0,.slice none 0 0] 56)).heap.size=w3.heap.size+1:=tZ3
 obtain ⟨W4,hW4'⟩:∃ W,W=w3.alloc (.cells #[.string ⟨#[]⟩,.string ⟨#[]⟩,.slice none 0 0,.slice none 0 0,.slice none 0 0] 56):=⟨_,rfl⟩
 rw [← hW4'] at kz kr hb hszr
 have KZ:=Lib.hid kz
 have HB:=Lib.hid hb
 have HSZ3:=Lib.hid (show w.heap.size+1≤w3.heap.size∧W4.heap.size=w3.heap.size+1 by have:=hSZ.out w3 HW3.out;omega)
 have HO:Hid (TenO W4 w.heap.size ⟨[116],q,1,⟨some ⟨w3.heap.size,0,none⟩,1,1,[⟨[],[],⟨none,0,0,[]⟩,⟨none,0,0,[]⟩,⟨none,0,0,[]⟩⟩]⟩,⟨none,0,0,[]⟩,⟨none,0,0,[]⟩,⟨none,0,0,[]⟩⟩):=by
  show TenO _ _ _
  refine ⟨⟨rfl,own_of_row (cap:=1) (cur:=[.string ⟨#[]⟩,.string ⟨#[]⟩,.slice none 0 0,.slice none 0 0,.slice none 0 0]) kr (by have:=HSZ3.out;omega) (Nat.le_refl _) tZ4 rfl rfl⟩,fun y hy=>?_,⟨rfl,rfl,.inl ⟨rfl,rfl⟩⟩,⟨rfl,rfl,.inl ⟨rfl,rfl⟩⟩,fun y hy=>absurd hy tZ3,⟨rfl,rfl,.inl ⟨rfl,rfl⟩⟩⟩
  rw [List.mem_singleton] at hy
  subst hy
  exact ⟨⟨rfl,rfl,.inl ⟨rfl,rfl⟩⟩,⟨rfl,rfl,.inl ⟨rfl,rfl⟩⟩,fun y hy=>absurd hy tZ3,⟨rfl,rfl,.inl ⟨rfl,rfl⟩⟩⟩
 clear kz kr hb hszr
 go_upto_region 7 with (fail)
 obtain ⟨WR,hW4,hth,HL,HBW,hgw⟩:=res7 (g:=w.heap.size) [.string ⟨#[116]⟩,.int .i64 q,.int .i64 1,.slice (some ⟨w3.heap.size,0,none⟩) 1 1,.slice none 0 0,.slice none 0 0,.slice none 0 0] KZ.out HB.out tZ1
 have HOO:=Lib.hid (TenO.keptT HO.out hgw KZ.out offT_ten)
 clear hgw
 go_wp2_with ((try rw [← hW4']);refine wpList_store_mid rfl 27 (.tmp 4) (.tmp 24) rfl (w.heap.size) 0 #[.string ⟨#[116]⟩,.int .i64 q,.int .i64 1,.slice (some ⟨w3.heap.size,0,none⟩) 1 1,.slice none 0 0,.slice none 0 0,.slice none 0 0] rfl rfl hth.out tZ2 tZ5 ?_;rw [← hW4];clear hW4)
 exact bodyPost_ret (v:=.tuple #[.agg #[.string ⟨#[116]⟩,.int .i64 q,.int .i64 1,.slice (some ⟨w3.heap.size,0,none⟩) 1 1,.slice none 0 0,.slice none 0 0,.slice none 0 0],.int .i64 0]) (results_cell_tmp rfl rfl HL.out) rfl ⟨⟨[116],q,1,⟨some ⟨w3.heap.size,0,none⟩,1,1,[⟨[],[],⟨none,0,0,[]⟩,⟨none,0,0,[]⟩,⟨none,0,0,[]⟩⟩]⟩,⟨none,0,0,[]⟩,⟨none,0,0,[]⟩,⟨none,0,0,[]⟩⟩,rfl,HOO.out,rfl,HBW.out⟩
end Go.Proofs.YtiojfffgiejibaaGreatDoor
namespace Go.Proofs.YtiojfffgiejibaaGreatDoor
open Go.RowKit
theorem num16_any (n:Int) (w:World):Calls Tryz.prog 14 #[.int .i64 n] w fun e w'=>e=.returned (.int .i64 n)∧w'=w:=by
 go_enter Tryz.func14,Tryz.ntmps14
 go_wp2_with fail
 go_ret
 exact ⟨rfl,rfl⟩
theorem new0C_sz (q:Int):(new0C q).sz where
 nm:=by show (1:Nat)≤4000000000;decide
 sets:=by show (1:Nat)≤1000000000000;decide
 eachS:=by
  intro y hy
  rw [show (new0C q).sets=[set0C []] from rfl,List.mem_singleton] at hy
  subst hy
  exact set0C_sz [] tZ4
 grants:=tZ72
 eachG:=fun y hy=>by cases hy
 stages:=tZ72
 eachT:=fun y hy=>by cases hy
 log:=tZ72
 eachL:=fun y hy=>by cases hy
theorem new0_create:(new0C 9).create [97]=(0,⟨[116],9,1,[set0C [],set0C [97]],[],[],[]⟩):=by
 unfold TenC.create
 rw [show (new0C 9).ask [97]=0 by decide +kernel,if_neg tZ4,show (new0C 9).find [97]=-1 by decide +kernel,if_neg tZ4,show (new0C 9).find (upL [97])=0 by decide +kernel,if_neg tZ4,if_neg tZ4]
 rw [show (new0C 9).withS (set0C [97])=⟨[116],9,1,[set0C [],set0C [97]],[],[],[]⟩ by kernel_rfl]
 unfold TenC.settle
 rw [if_neg (by decide +kernel),if_neg tZ4]
set_option maxRecDepth 100000 in
set_option maxHeartbeats 4000000 in
theorem alive16_any (w:World) (hmx:HasMax w):Calls Tryz.prog 15 #[] w fun e w'=>e=.returned (.bool true)∧Below w.heap.size w w':=by
 go_enter Tryz.func15,Tryz.ntmps15
 go_wp2_with fail
 refine (rnew_any 9 tZ4 tZ4 _).mono ?_
 rintro e w1 ⟨y,rfl,ho,hy,hb⟩
 have HW1:=Lib.hid hb
 have HO:=Lib.hid ho
 have HY:=Lib.hid hy
 clear hb ho hy
 obtain ⟨mm,mq,mx,⟨m1,m2,m3,ml⟩,⟨n1,n2,n3,nl⟩,⟨p1,p2,p3,pl⟩,⟨q1,q2,q3,ql⟩⟩:=y
 simp only [TenR.val,TenR.cells,FS.val,strV]
 have hbn:=(HW1.out).alloc HW1.out.size (.cells #[.string ⟨mm.toArray⟩,.int .i64 mq,.int .i64 mx,.slice m1 m2 m3,.slice n1 n2 n3,.slice p1 p2 p3,.slice q1 q2 q3] 27)
 have kbn:=Blk.new w1 27 #[.string ⟨mm.toArray⟩,.int .i64 mq,.int .i64 mx,.slice m1 m2 m3,.slice n1 n2 n3,.slice p1 p2 p3,.slice q1 q2 q3]
 have hsn:(w1.alloc (.cells #[.string ⟨mm.toArray⟩,.int .i64 mq,.int .i64 mx,.slice m1 m2 m3,.slice n1 n2 n3,.slice p1 p2 p3,.slice q1 q2 q3] 27)).heap.size=w1.heap.size+1:=tZ3
 have HOn:=HO.out.below ((Below.refl w1.heap.size w1).alloc (Nat.le_refl _) (.cells #[.string ⟨mm.toArray⟩,.int .i64 mq,.int .i64 mx,.slice m1 m2 m3,.slice n1 n2 n3,.slice p1 p2 p3,.slice q1 q2 q3] 27))
 obtain ⟨By,hBy⟩:∃ g,g=w1.heap.size:=⟨_,rfl⟩
 obtain ⟨w2,hWn⟩:∃ W,W=(w1.alloc (.cells #[.string ⟨mm.toArray⟩,.int .i64 mq,.int .i64 mx,.slice m1 m2 m3,.slice n1 n2 n3,.slice p1 p2 p3,.slice q1 q2 q3] 27)):=⟨_,rfl⟩
 rw [← hWn] at hbn kbn hsn HOn
 have HW2:=Lib.hid hbn
 rw [← hBy] at kbn
 have hKy:Hid (∀ W,Below w2.heap.size w2 W→Blk W By 27 #[.string ⟨mm.toArray⟩,.int .i64 mq,.int .i64 mx,.slice m1 m2 m3,.slice n1 n2 n3,.slice p1 p2 p3,.slice q1 q2 q3]):=fun W h=>kbn.below h tZ1
 have HZy:=Lib.hid (show By=w1.heap.size∧w2.heap.size=w1.heap.size+1 from ⟨hBy,hsn⟩)
 have HO:=Lib.hid HOn
 clear hbn kbn hsn HOn
 have hCR:=create_any ⟨mm,mq,mx,⟨m1,m2,m3,ml⟩,⟨n1,n2,n3,nl⟩,⟨p1,p2,p3,pl⟩,⟨q1,q2,q3,ql⟩⟩ [97] w2 w2.heap.size (Nat.le_refl _) HO.out.rd (TenR.sz_of HO.out.rd (by rw [HY.out];exact new0C_sz 9)) tZ4 (hmx.below HW2.out)
 rw [HY.out,new0_create] at hCR
 have HCR:=Lib.hid hCR
 clear hCR
 have kk:=hKy.out w2 (Below.refl _ _)
 obtain ⟨c0,c1,c2,c3,c4,c5,c6⟩:=(⟨kk.cell 0,kk.cell 1,kk.cell 2,kk.cell 3,kk.cell 4,kk.cell 5,kk.cell 6⟩:_∧_∧_∧_∧_∧_∧_)
 simp only [zF,zD,zE] at c0 c1 c2 c3 c4 c5 c6
 clear kk
 go_wp2_with (refine wpList_store_new w1 rfl 27 (.tmp 1) (.tmp 7) rfl 27 [.string ⟨#[]⟩,.int .i64 0,.int .i64 0,.slice none 0 0,.slice none 0 0,.slice none 0 0,.slice none 0 0] [.string ⟨mm.toArray⟩,.int .i64 mq,.int .i64 mx,.slice m1 m2 m3,.slice n1 n2 n3,.slice p1 p2 p3,.slice q1 q2 q3] rfl rfl rfl tZ2 tZ5 ?_;rw [show ([.string ⟨mm.toArray⟩,.int .i64 mq,.int .i64 mx,.slice m1 m2 m3,.slice n1 n2 n3,.slice p1 p2 p3,.slice q1 q2 q3]:List Value).toArray=#[.string ⟨mm.toArray⟩,.int .i64 mq,.int .i64 mx,.slice m1 m2 m3,.slice n1 n2 n3,.slice p1 p2 p3,.slice q1 q2 q3] from rfl,← hWn,← hBy];clear hWn hBy)
 refine HCR.out.mono ?_
 clear HCR c0 c1 c2 c3 c4 c5 c6
 rintro e w3 ⟨v,rfl,hb,⟨h1,-⟩ | ⟨-,u,rfl,hou,hu⟩⟩
 ·exact absurd (show (0:Int)=0 from rfl) h1
 have HW3:=Lib.hid (HW2.out.trans (hb.mono HW2.out.size))
 have HOU:=Lib.hid hou
 have HU:=Lib.hid hu
 clear hb hou hu
 obtain ⟨am,aq,ax,⟨a1,a2,a3,al⟩,⟨f1,f2,f3,fl⟩,⟨i1,i2,i3,il⟩,⟨j1,j2,j3,jl⟩⟩:=u
 simp only [TenR.val,TenR.cells,FS.val,strV]
 have hbn:=(HW3.out).alloc HW3.out.size (.cells #[.string ⟨am.toArray⟩,.int .i64 aq,.int .i64 ax,.slice a1 a2 a3,.slice f1 f2 f3,.slice i1 i2 i3,.slice j1 j2 j3] 27)
 have kbn:=Blk.new w3 27 #[.string ⟨am.toArray⟩,.int .i64 aq,.int .i64 ax,.slice a1 a2 a3,.slice f1 f2 f3,.slice i1 i2 i3,.slice j1 j2 j3]
 have hsn:(w3.alloc (.cells #[.string ⟨am.toArray⟩,.int .i64 aq,.int .i64 ax,.slice a1 a2 a3,.slice f1 f2 f3,.slice i1 i2 i3,.slice j1 j2 j3] 27)).heap.size=w3.heap.size+1:=tZ3
 have HOUn:=HOU.out.below ((Below.refl w3.heap.size w3).alloc (Nat.le_refl _) (.cells #[.string ⟨am.toArray⟩,.int .i64 aq,.int .i64 ax,.slice a1 a2 a3,.slice f1 f2 f3,.slice i1 i2 i3,.slice j1 j2 j3] 27))
 obtain ⟨Ba,hBa⟩:∃ g,g=w3.heap.size:=⟨_,rfl⟩
 obtain ⟨w4,hWn⟩:∃ W,W=(w3.alloc (.cells #[.string ⟨am.toArray⟩,.int .i64 aq,.int .i64 ax,.slice a1 a2 a3,.slice f1 f2 f3,.slice i1 i2 i3,.slice j1 j2 j3] 27)):=⟨_,rfl⟩
 rw [← hWn] at hbn kbn hsn HOUn
 have HW4:=Lib.hid hbn
 rw [← hBa] at kbn
 have hKa:Hid (∀ W,Below w4.heap.size w4 W→Blk W Ba 27 #[.string ⟨am.toArray⟩,.int .i64 aq,.int .i64 ax,.slice a1 a2 a3,.slice f1 f2 f3,.slice i1 i2 i3,.slice j1 j2 j3]):=fun W h=>kbn.below h tZ1
 have HZa:=Lib.hid (show Ba=w3.heap.size∧w4.heap.size=w3.heap.size+1 from ⟨hBa,hsn⟩)
 have HOU:=Lib.hid HOUn
 clear hbn kbn hsn HOUn
 have hlen:al.length=2:=by
  have h:=congrArg (fun c:TenC=>c.sets.length) HU.out
  simpa [TenR.con] using h
 have hpath:(al[1]'tZ1).path=[97]:=by
  have h:=congrArg (fun c:TenC=>(c.sets[1]?).map SetC.path) HU.out
  simp only [TenR.con,List.getElem?_map] at h
  rw [List.getElem?_eq_getElem tZ1] at h
  simpa [SetR.con,set0C] using h
 have ha2:a2=2:=by have h:=HOU.out.sets.1;simp only at h;omega
 obtain ⟨ad,rfl,-,q0,-,-,-,-⟩:=set_at HOU.out.rd.sets.2.2 HOU.out.sets.1 (i:=1) (show 1<a2 by omega)
 simp only [hpath] at q0
 replace q0:w4.cell? ⟨ad.block,ad.off+5,none⟩=some (.string ⟨#[97]⟩):=by simpa [Addr.add] using q0
 have kk:=hKa.out w4 (Below.refl _ _)
 have d3:=kk.cell 3
 simp only [zF,zD,zE] at d3
 have hn1:((a2:Int) == 2)=true:=by rw [ha2];rfl
 have hn2:(1:Int)<(a2:Int):=tZ1
 clear kk hlen hpath ha2 HOU HU HO HY hKy
 go_wp2_with (refine wpList_store_new w3 rfl 27 (.tmp 3) (.tmp 12) rfl 27 [.string ⟨#[]⟩,.int .i64 0,.int .i64 0,.slice none 0 0,.slice none 0 0,.slice none 0 0,.slice none 0 0] [.string ⟨am.toArray⟩,.int .i64 aq,.int .i64 ax,.slice (some ad) a2 a3,.slice f1 f2 f3,.slice i1 i2 i3,.slice j1 j2 j3] rfl rfl rfl tZ2 tZ5 ?_;rw [show ([.string ⟨am.toArray⟩,.int .i64 aq,.int .i64 ax,.slice (some ad) a2 a3,.slice f1 f2 f3,.slice i1 i2 i3,.slice j1 j2 j3]:List Value).toArray=#[.string ⟨am.toArray⟩,.int .i64 aq,.int .i64 ax,.slice (some ad) a2 a3,.slice f1 f2 f3,.slice i1 i2 i3,.slice j1 j2 j3] from rfl,← hWn,← hBa];clear hWn hBa)
 refine (num16_any _ _).mono ?_
 rintro e w5 ⟨rfl,hw5⟩
 rw [hw5]
 clear hw5 w5
 go_wp2_with fail
 exact bodyPost_ret (v:=.bool true) (by simp [results,Tryz.results15,go_sem]) rfl ⟨rfl,HW4.out⟩
end Go.Proofs.YtiojfffgiejibaaGreatDoor
namespace Go.Proofs.YtiojfffgiejibaaGreatDoor
open Go.RowKit
def ten0C:TenC:=⟨[],0,0,[],[],[],[]⟩
theorem ten0C_sz:ten0C.sz:=⟨by simp [ten0C],by simp [ten0C],by simp [ten0C],by simp [ten0C],by simp [ten0C],by simp [ten0C],by simp [ten0C],by simp [ten0C],by simp [ten0C]⟩
def ten0R:TenR:=⟨[],0,0,⟨none,0,0,[]⟩,⟨none,0,0,[]⟩,⟨none,0,0,[]⟩,⟨none,0,0,[]⟩⟩
theorem rd_nil {α:Type} {w:World} {B k:Nat} {enc:α→List Value}:FS.rd w B k enc ⟨none,0,0,[]⟩:=⟨rfl,Nat.le_refl _,Reads.none_⟩
/-- the content of what is told: an error's is the zero one -/
def tenOr (r:Int×TenC):TenC:=if r.1=0 then r.2 else ten0C
theorem tenOr_sz {r:Int×TenC} (h:r.1=0→r.2.sz):(tenOr r).sz:=by
 unfold tenOr
 split
 ·exact h (by assumption)
 ·exact ten0C_sz
theorem TenPost.all {w w':World} {c:Int×TenC} {e:Ending} (h:TenPost w c e w'):∃ y:TenR,e=.returned (.tuple #[y.val,.int .i64 c.1])∧Below w.heap.size w w'∧y.rd w' w'.heap.size∧y.con=tenOr c:=by
 obtain ⟨v,rfl,hb,h⟩:=h
 unfold tenOr
 rcases h with ⟨h1,rfl⟩ | ⟨h1,y,rfl,h2,h3⟩
 ·exact ⟨ten0R,rfl,hb,⟨rd_nil,fun y hy=>(by cases hy),rd_nil,rd_nil,fun y hy=>(by cases hy),rd_nil⟩,by rw [if_neg h1];rfl⟩
 ·exact ⟨y,rfl,hb,h2.rd,by rw [if_pos h1];exact h3⟩
/-- a value is a tenant of this content, in this world and in all that keep what it holds -/
def SaysT (a:Value) (W0:World) (c:TenC):Prop:=∃ y:TenR,a=y.val∧y.con=c∧∀ W,Below W0.heap.size W0 W→y.rd W W0.heap.size
theorem same_said {a b:Value} {W0 W1 W:World} {c:TenC} (ha:SaysT a W0 c) (hb:SaysT b W1 c) (hz:c.sz) (h0:Below W0.heap.size W0 W) (h1:Below W1.heap.size W1 W) :
  Calls Tryz.prog 13 #[a,b] W fun e w'=>e=.returned (.bool true)∧Below W.heap.size W w':=by
 obtain ⟨x,rfl,hx,hxr⟩:=ha
 obtain ⟨y,rfl,hy,hyr⟩:=hb
 have h2:=(hxr W h0).more h0.size
 have h3:=(hyr W h1).more h1.size
 exact same14_any x y ((TenR.eqv_iff _ _).2 (hx.trans hy.symm)) W W.heap.size (Nat.le_refl _) h2 h3 (TenR.sz_of h2 (by rw [hx];exact hz))
end Go.Proofs.YtiojfffgiejibaaGreatDoor
