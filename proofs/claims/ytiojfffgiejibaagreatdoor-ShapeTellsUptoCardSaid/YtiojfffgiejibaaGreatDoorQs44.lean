/-
  ShapeTells: any tenant with a set more, without one, and settled, is as the page says: the law's walk.
-/
import Derived.Test.YtiojfffgiejibaaGreatDoorQsM1
import Derived.WalkKit
import Derived.WalkSpells
import Derived.Below
import Derived.Laws.OwnMore
import Derived.Deep.AppendLies
import Derived.Deep.Draws
import Derived.Laws.Rows
import Derived.Maps.AppendAt
import Derived.RegionTactic
import Derived.OwnWalk
import Derived.Deep.QuietTactic
import Derived.BigQuiet
import Derived.Lib.Hide
import Derived.Laws.CopyOwn
import Derived.IntWalk
import Derived.Test.YtiojfffgiejibaaGreatDoorRows
import Derived.Handy
import Derived.Deep.Quiet
import Derived.ProofKit
import Derived.OpenShut
import Derived.ShutString
import Derived.ChangeOld
import Derived.Carry
import Derived.SizedLaws
import Derived.JoinedCond
import Derived.Deep.CondSized
import Derived.Deep.Slices
import Derived.Deep.Fields
import Derived.Lib.SmallJoins
import Derived.Orders
import Derived.Lib.SplitLaws
import Derived.Lib.LastIndexByte
import Derived.Lib.Strings
import Derived.Sort.Walk0
import Derived.Sort.KeysCollected
import Derived.Deep.MidRow
import Derived.Deep.RegionLaw
import Derived.Lib.AppendZeros
import Derived.Shelf.Strings.Search1
import Derived.Shelf.Strings.Search2
import Derived.Shelf.Strings.Search3
import Derived.Shelf.Strings.Cut
import Derived.Shelf.Strings.Count
import Derived.Shelf.LaysM
import Derived.Shelf.Strings.Shaped
import Derived.Shelf.Strings.LastIndex
import Derived.Shelf.Strings.Split
import Derived.Shelf.Strings.SplitShaped
import Derived.Shelf.Unicode.Decode
import Derived.Shelf.Strings.RuneCount
import Derived.Shelf.Strings.Explode
import Derived.Shelf.Unicode.DecodeSlow
import Derived.Shelf.Slices.Turned
import Derived.Test.YtiojfffgiejibaaGreatDoorProg
import Derived.Lib.Overlaps
import Derived.Lib.AppendZerosOnto
import Derived.Laws.BytesString
import Derived.Laws.IdiomStrings
import Derived.Lib.ConvBytes
import Derived.Deep.DeepCutAuto
import Derived.Great.BuildSlice
import Derived.Test.YtiojfffgiejibaaGreatDoorQ0
import Derived.Test.YtiojfffgiejibaaGreatDoorQs1
import Derived.Test.YtiojfffgiejibaaGreatDoorQs5
import Derived.Test.YtiojfffgiejibaaGreatDoorQs7
import Derived.Test.YtiojfffgiejibaaGreatDoorQs10
import Derived.Test.YtiojfffgiejibaaGreatDoorQs11
import Derived.Test.YtiojfffgiejibaaGreatDoorQs16
import Derived.Test.YtiojfffgiejibaaGreatDoorQs19
import Derived.Test.YtiojfffgiejibaaGreatDoorQs20
import Derived.Test.YtiojfffgiejibaaGreatDoorQs21
import Derived.Test.YtiojfffgiejibaaGreatDoorQs22
import Derived.Test.YtiojfffgiejibaaGreatDoorQs27
import Derived.Test.YtiojfffgiejibaaGreatDoorQs29
import Derived.Test.YtiojfffgiejibaaGreatDoorQs32
import Derived.Test.YtiojfffgiejibaaGreatDoorQs33
import Derived.Test.YtiojfffgiejibaaGreatDoorQs35
import Derived.Test.YtiojfffgiejibaaGreatDoorQs36
import Derived.Test.YtiojfffgiejibaaGreatDoorQs40
import Derived.Test.YtiojfffgiejibaaGreatDoorQs41
import Derived.Test.YtiojfffgiejibaaGreatDoorQs42
import Derived.Test.YtiojfffgiejibaaGreatDoorQs43
namespace Go.Proofs.YtiojfffgiejibaaGreatDoor
open Go.RowKit
theorem settle_szT {c:TenC} (h:c.sz):(c.settle).1=0→(c.settle).2.sz:=by
 unfold TenC.settle
 split
 ·exact fun _=>h
 ·split <;> exact fun _=>h
theorem create_szT {c:TenC} (h:c.sz) (p:BS) (hp:p.length≤4000000000):(c.create p).1=0→(c.create p).2.sz:=fun h0=>by
 obtain ⟨⟨E,c2⟩,hV⟩:∃ V:Int×TenC,V=c.create p:=⟨_,rfl⟩
 rw [← hV] at h0 ⊢
 have h0:E=0:=h0
 subst h0
 obtain ⟨h1,-,-,h4,-⟩:=create_ok c p c2 hV
 rw [h4]
 exact h.withS (set0C_sz p hp) (by have:=((TenC.E_ok c).1 h1).sets.len;omega)
theorem destroy_szT {c:TenC} (h:c.sz) (p:BS):(c.destroy p).1=0→(c.destroy p).2.sz:=fun h0=>by
 obtain ⟨⟨E,c2⟩,hV⟩:∃ V:Int×TenC,V=c.destroy p:=⟨_,rfl⟩
 rw [← hV] at h0 ⊢
 have h0:E=0:=h0
 subst h0
 obtain ⟨-,-,-,i,h4⟩:=destroy_ok c p c2 hV
 rw [h4]
 exact h.dropS
set_option maxRecDepth 100000 in
set_option maxHeartbeats 16000000 in
theorem shapeTells_any (t:TenR) (p:BS) (w:World) (hr:t.rd w w.heap.size) (hz:t.sz) (hst:t.stages.n≤500000000000) (hp:p.length≤4000000000) (hmx:HasMax w) :
  Calls Tryz.prog 3 #[t.val,.string ⟨p.toArray⟩] w fun e w'=>e=.returned (.bool true)∧Below w.heap.size w w':=by
 have hcz:=TenC.sz_of hr hz
 obtain ⟨nm,qu,nx,⟨s1,sn,s3,sl⟩,⟨gA,gN,gC,gL⟩,⟨t1,tn,t3,tl⟩,⟨l1,ln,l3,ll⟩⟩:=t
 show Calls Tryz.prog 3 #[.agg #[.string ⟨nm.toArray⟩,.int .i64 qu,.int .i64 nx,.slice s1 sn s3,.slice gA gN gC,.slice t1 tn t3,.slice l1 ln l3],.string ⟨p.toArray⟩] w _
 have hb:=((Below.refl w.heap.size w).alloc (Nat.le_refl _) (.cells #[.string ⟨nm.toArray⟩,.int .i64 qu,.int .i64 nx,.slice s1 sn s3,.slice gA gN gC,.slice t1 tn t3,.slice l1 ln l3] 27))
 have kt:=Blk.new w 27 #[.string ⟨nm.toArray⟩,.int .i64 qu,.int .i64 nx,.slice s1 sn s3,.slice gA gN gC,.slice t1 tn t3,.slice l1 ln l3]
 have hsz:(w.alloc (.cells #[.string ⟨nm.toArray⟩,.int .i64 qu,.int .i64 nx,.slice s1 sn s3,.slice gA gN gC,.slice t1 tn t3,.slice l1 ln l3] 27)).heap.size=w.heap.size+1:=tZ3
 obtain ⟨W1,hW1⟩:∃ W,W=(w.alloc (.cells #[.string ⟨nm.toArray⟩,.int .i64 qu,.int .i64 nx,.slice s1 sn s3,.slice gA gN gC,.slice t1 tn t3,.slice l1 ln l3] 27)):=⟨_,rfl⟩
 rw [← hW1] at hb hsz kt
 have hKt:Hid (∀ W,Below W1.heap.size W1 W→Blk W w.heap.size 27 #[.string ⟨nm.toArray⟩,.int .i64 qu,.int .i64 nx,.slice s1 sn s3,.slice gA gN gC,.slice t1 tn t3,.slice l1 ln l3]):=fun W h=>kt.below h tZ1
 have hBW:Hid (∀ W,Below W1.heap.size W1 W→Below w.heap.size w W):=fun W h=>hb.trans (h.mono tZ1)
 have hSZ:Hid (∀ W,Below W1.heap.size W1 W→w.heap.size+1≤W.heap.size):=fun W h=>by have:=h.size;omega
 have hW0:Hid (Below W1.heap.size W1 W1):=Below.refl _ _
 have hrw:Hid (∀ W,Below W1.heap.size W1 W→TenR.rd W w.heap.size ⟨nm,qu,nx,⟨s1,sn,s3,sl⟩,⟨gA,gN,gC,gL⟩,⟨t1,tn,t3,tl⟩,⟨l1,ln,l3,ll⟩⟩∧w.heap.size≤W.heap.size∧HasMax W):=fun W h =>
  ⟨TenR.rd.below hr (hBW.out W h),by have:=hSZ.out W h;omega,hmx.below (hBW.out W h)⟩
 obtain ⟨C,hC⟩:∃ C,C=TenR.con ⟨nm,qu,nx,⟨s1,sn,s3,sl⟩,⟨gA,gN,gC,gL⟩,⟨t1,tn,t3,tl⟩,⟨l1,ln,l3,ll⟩⟩:=⟨_,rfl⟩
 rw [← hC] at hcz
 have hAL:Hid (∀ W,Below W1.heap.size W1 W→Calls Tryz.prog 15 #[] W fun e w'=>e=.returned (.bool true)∧Below W.heap.size W w'):=fun W h=>alive16_any W (hrw.out W h).2.2
 have hNU:Hid (∀ n W,Calls Tryz.prog 14 #[.int .i64 n] W fun e w'=>e=.returned (.int .i64 n)∧Below W.heap.size W w'):=fun n W=>(num16_any n W).mono (by rintro e w' ⟨h1,rfl⟩;exact ⟨h1,Below.refl _ _⟩)
 obtain ⟨⟨Ea,Ca⟩,hV1⟩:∃ V:Int×TenC,V=C.create p:=⟨_,rfl⟩
 have hZa:Hid ((tenOr (Ea,Ca)).sz):=by rw [hV1];exact tenOr_sz (create_szT hcz p hp)
 obtain ⟨⟨Ec,Cc⟩,hV2⟩:∃ V:Int×TenC,V=C.destroy p:=⟨_,rfl⟩
 have hZc:Hid ((tenOr (Ec,Cc)).sz):=by rw [hV2];exact tenOr_sz (destroy_szT hcz p)
 obtain ⟨⟨Ee,Ce⟩,hV3⟩:∃ V:Int×TenC,V=C.settle:=⟨_,rfl⟩
 have hZe:Hid ((tenOr (Ee,Ce)).sz):=by rw [hV3];exact tenOr_sz (settle_szT hcz)
 have hCa:Hid (∀ W,Below W1.heap.size W1 W→Calls Tryz.prog 7 #[.agg #[.string ⟨nm.toArray⟩,.int .i64 qu,.int .i64 nx,.slice s1 sn s3,.slice gA gN gC,.slice t1 tn t3,.slice l1 ln l3],.string ⟨p.toArray⟩] W (TenPost W (Ea,Ca))):=fun W h=>by
  rw [hV1,hC]
  exact create_any ⟨nm,qu,nx,⟨s1,sn,s3,sl⟩,⟨gA,gN,gC,gL⟩,⟨t1,tn,t3,tl⟩,⟨l1,ln,l3,ll⟩⟩ p W w.heap.size (hrw.out W h).2.1 (hrw.out W h).1 hz hp (hrw.out W h).2.2
 have hCb:Hid (∀ W,Below W1.heap.size W1 W→Calls Tryz.prog 8 #[.agg #[.string ⟨nm.toArray⟩,.int .i64 qu,.int .i64 nx,.slice s1 sn s3,.slice gA gN gC,.slice t1 tn t3,.slice l1 ln l3],.string ⟨p.toArray⟩] W (TenPost W (Ea,Ca))):=fun W h=>by
  rw [hV1,hC]
  exact rcreate_any ⟨nm,qu,nx,⟨s1,sn,s3,sl⟩,⟨gA,gN,gC,gL⟩,⟨t1,tn,t3,tl⟩,⟨l1,ln,l3,ll⟩⟩ p W w.heap.size (hrw.out W h).2.1 (hrw.out W h).1 hz hst hp
 have hCc:Hid (∀ W,Below W1.heap.size W1 W→Calls Tryz.prog 9 #[.agg #[.string ⟨nm.toArray⟩,.int .i64 qu,.int .i64 nx,.slice s1 sn s3,.slice gA gN gC,.slice t1 tn t3,.slice l1 ln l3],.string ⟨p.toArray⟩] W (TenPost W (Ec,Cc))):=fun W h=>by
  rw [hV2,hC]
  exact destroy_any ⟨nm,qu,nx,⟨s1,sn,s3,sl⟩,⟨gA,gN,gC,gL⟩,⟨t1,tn,t3,tl⟩,⟨l1,ln,l3,ll⟩⟩ p W w.heap.size (hrw.out W h).2.1 (hrw.out W h).1 hz hp (hrw.out W h).2.2
 have hCd:Hid (∀ W,Below W1.heap.size W1 W→Calls Tryz.prog 10 #[.agg #[.string ⟨nm.toArray⟩,.int .i64 qu,.int .i64 nx,.slice s1 sn s3,.slice gA gN gC,.slice t1 tn t3,.slice l1 ln l3],.string ⟨p.toArray⟩] W (TenPost W (Ec,Cc))):=fun W h=>by
  rw [hV2,hC]
  exact rdestroy_any ⟨nm,qu,nx,⟨s1,sn,s3,sl⟩,⟨gA,gN,gC,gL⟩,⟨t1,tn,t3,tl⟩,⟨l1,ln,l3,ll⟩⟩ p W w.heap.size (hrw.out W h).2.1 (hrw.out W h).1 hz hst hp
 have hCe:Hid (∀ W,Below W1.heap.size W1 W→Calls Tryz.prog 11 #[.agg #[.string ⟨nm.toArray⟩,.int .i64 qu,.int .i64 nx,.slice s1 sn s3,.slice gA gN gC,.slice t1 tn t3,.slice l1 ln l3]] W (TenPost W (Ee,Ce))):=fun W h=>by
  rw [hV3,hC]
  exact settleT_any ⟨nm,qu,nx,⟨s1,sn,s3,sl⟩,⟨gA,gN,gC,gL⟩,⟨t1,tn,t3,tl⟩,⟨l1,ln,l3,ll⟩⟩ W w.heap.size (hrw.out W h).2.1 (hrw.out W h).1 hz (hrw.out W h).2.2
 have hCf:Hid (∀ W,Below W1.heap.size W1 W→Calls Tryz.prog 12 #[.agg #[.string ⟨nm.toArray⟩,.int .i64 qu,.int .i64 nx,.slice s1 sn s3,.slice gA gN gC,.slice t1 tn t3,.slice l1 ln l3]] W (TenPost W (Ee,Ce))):=fun W h=>by
  rw [hV3,hC]
  exact rsettle_any ⟨nm,qu,nx,⟨s1,sn,s3,sl⟩,⟨gA,gN,gC,gL⟩,⟨t1,tn,t3,tl⟩,⟨l1,ln,l3,ll⟩⟩ W w.heap.size (hrw.out W h).2.1 (hrw.out W h).1 hz hst
 clear hb hsz kt hr hz hp hmx hC hcz hst hV1 hV2 hV3
 go_enter Tryz.func3,Tryz.ntmps3
 have hc:=hCa.out W1 hW0.out
 have kk:=hKt.out _ hW0.out
 obtain ⟨c0,c1,c2,c3,c4,c5,c6⟩:=(⟨kk.cell 0,kk.cell 1,kk.cell 2,kk.cell 3,kk.cell 4,kk.cell 5,kk.cell 6⟩:_∧_∧_∧_∧_∧_∧_)
 simp only [zF,zD,zE] at c0 c1 c2 c3 c4 c5 c6
 clear kk
 go_wp2_with fail
 rw [← hW1]
 clear hW1
 refine hc.mono ?_
 clear hc c0 c1 c2 c3 c4 c5 c6
 rintro e w2 hone
 obtain ⟨y,rfl,hb,hrd,hcn⟩:=hone.all
 have H1_2:=Lib.hid (hW0.out.trans (hb.mono hW0.out.size))
 clear hb
 have HRD:=Lib.hid hrd
 have HCN:=Lib.hid hcn
 clear hrd hcn hone
 obtain ⟨av0,av1,av2,⟨av3,av4,av5,al0⟩,⟨av6,av7,av8,al1⟩,⟨av9,av10,av11,al2⟩,⟨av12,av13,av14,al3⟩⟩:=y
 simp only [TenR.val,TenR.cells,FS.val,strV]
 have hn1:=(H1_2.out).alloc H1_2.out.size (.cells #[.string ⟨av0.toArray⟩,.int .i64 av1,.int .i64 av2,.slice av3 av4 av5,.slice av6 av7 av8,.slice av9 av10 av11,.slice av12 av13 av14] 27)
 have kbn:=Blk.new w2 27 #[.string ⟨av0.toArray⟩,.int .i64 av1,.int .i64 av2,.slice av3 av4 av5,.slice av6 av7 av8,.slice av9 av10 av11,.slice av12 av13 av14]
 have hsn:(w2.alloc (.cells #[.string ⟨av0.toArray⟩,.int .i64 av1,.int .i64 av2,.slice av3 av4 av5,.slice av6 av7 av8,.slice av9 av10 av11,.slice av12 av13 av14] 27)).heap.size=w2.heap.size+1:=tZ3
 have hbo:=((Below.refl w2.heap.size w2).alloc (Nat.le_refl _) (.cells #[.string ⟨av0.toArray⟩,.int .i64 av1,.int .i64 av2,.slice av3 av4 av5,.slice av6 av7 av8,.slice av9 av10 av11,.slice av12 av13 av14] 27))
 obtain ⟨Ba,hBa⟩:∃ g,g=w2.heap.size:=⟨_,rfl⟩
 obtain ⟨w3,hWn⟩:∃ W,W=(w2.alloc (.cells #[.string ⟨av0.toArray⟩,.int .i64 av1,.int .i64 av2,.slice av3 av4 av5,.slice av6 av7 av8,.slice av9 av10 av11,.slice av12 av13 av14] 27)):=⟨_,rfl⟩
 rw [← hWn] at kbn hsn hbo hn1
 rw [← hBa] at kbn
 have hSa:Hid (∀ W,Below w3.heap.size w3 W→W.cell? ⟨Ba,0,none⟩=some (.string ⟨av0.toArray⟩)∧W.cell? ⟨Ba,1,none⟩=some (.int .i64 av1)∧W.cell? ⟨Ba,2,none⟩=some (.int .i64 av2)∧W.cell? ⟨Ba,3,none⟩=some (.slice av3 av4 av5)∧W.cell? ⟨Ba,4,none⟩=some (.slice av6 av7 av8)∧W.cell? ⟨Ba,5,none⟩=some (.slice av9 av10 av11)∧W.cell? ⟨Ba,6,none⟩=some (.slice av12 av13 av14)):=fun W h=>blk7 (kbn.below h tZ1)
 have H1_3:=Lib.hid hn1
 have H3_3:Hid (Below w3.heap.size w3 w3):=Below.refl _ _
 have hYa:Hid (SaysT (.agg #[.string ⟨av0.toArray⟩,.int .i64 av1,.int .i64 av2,.slice av3 av4 av5,.slice av6 av7 av8,.slice av9 av10 av11,.slice av12 av13 av14]) w3 (tenOr (Ea,Ca))):=⟨⟨av0,av1,av2,⟨av3,av4,av5,al0⟩,⟨av6,av7,av8,al1⟩,⟨av9,av10,av11,al2⟩,⟨av12,av13,av14,al3⟩⟩,rfl,HCN.out,fun W h=>(HRD.out.below (hbo.trans (h.mono tZ1))).more tZ1⟩
 clear HRD HCN
 clear kbn hsn hbo hn1
 have hc:=hCb.out w3 H1_3.out
 have kk:=hKt.out _ H1_3.out
 obtain ⟨c0,c1,c2,c3,c4,c5,c6⟩:=(⟨kk.cell 0,kk.cell 1,kk.cell 2,kk.cell 3,kk.cell 4,kk.cell 5,kk.cell 6⟩:_∧_∧_∧_∧_∧_∧_)
 simp only [zF,zD,zE] at c0 c1 c2 c3 c4 c5 c6
 clear kk
 go_wp2_with (refine wpList_store_new w2 rfl 27 (.tmp 5) (.tmp 21) rfl 27 [.string ⟨#[]⟩,.int .i64 0,.int .i64 0,.slice none 0 0,.slice none 0 0,.slice none 0 0,.slice none 0 0] [.string ⟨av0.toArray⟩,.int .i64 av1,.int .i64 av2,.slice av3 av4 av5,.slice av6 av7 av8,.slice av9 av10 av11,.slice av12 av13 av14] rfl rfl rfl tZ2 tZ5 ?_;rw [show ([.string ⟨av0.toArray⟩,.int .i64 av1,.int .i64 av2,.slice av3 av4 av5,.slice av6 av7 av8,.slice av9 av10 av11,.slice av12 av13 av14]:List Value).toArray=#[.string ⟨av0.toArray⟩,.int .i64 av1,.int .i64 av2,.slice av3 av4 av5,.slice av6 av7 av8,.slice av9 av10 av11,.slice av12 av13 av14] from rfl,← hWn,← hBa];clear hWn hBa)
 refine hc.mono ?_
 clear hc c0 c1 c2 c3 c4 c5 c6
 rintro e w4 hone
 obtain ⟨y,rfl,hb,hrd,hcn⟩:=hone.all
 have H1_4:=Lib.hid (H1_3.out.trans (hb.mono H1_3.out.size))
 have H3_4:=Lib.hid (H3_3.out.trans (hb.mono H3_3.out.size))
 clear hb
 have HRD:=Lib.hid hrd
 have HCN:=Lib.hid hcn
 clear hrd hcn hone
 obtain ⟨bv0,bv1,bv2,⟨bv3,bv4,bv5,bl0⟩,⟨bv6,bv7,bv8,bl1⟩,⟨bv9,bv10,bv11,bl2⟩,⟨bv12,bv13,bv14,bl3⟩⟩:=y
 simp only [TenR.val,TenR.cells,FS.val,strV]
 have hn1:=(H1_4.out).alloc H1_4.out.size (.cells #[.string ⟨bv0.toArray⟩,.int .i64 bv1,.int .i64 bv2,.slice bv3 bv4 bv5,.slice bv6 bv7 bv8,.slice bv9 bv10 bv11,.slice bv12 bv13 bv14] 27)
 have hn3:=(H3_4.out).alloc H3_4.out.size (.cells #[.string ⟨bv0.toArray⟩,.int .i64 bv1,.int .i64 bv2,.slice bv3 bv4 bv5,.slice bv6 bv7 bv8,.slice bv9 bv10 bv11,.slice bv12 bv13 bv14] 27)
 have kbn:=Blk.new w4 27 #[.string ⟨bv0.toArray⟩,.int .i64 bv1,.int .i64 bv2,.slice bv3 bv4 bv5,.slice bv6 bv7 bv8,.slice bv9 bv10 bv11,.slice bv12 bv13 bv14]
 have hsn:(w4.alloc (.cells #[.string ⟨bv0.toArray⟩,.int .i64 bv1,.int .i64 bv2,.slice bv3 bv4 bv5,.slice bv6 bv7 bv8,.slice bv9 bv10 bv11,.slice bv12 bv13 bv14] 27)).heap.size=w4.heap.size+1:=tZ3
 have hbo:=((Below.refl w4.heap.size w4).alloc (Nat.le_refl _) (.cells #[.string ⟨bv0.toArray⟩,.int .i64 bv1,.int .i64 bv2,.slice bv3 bv4 bv5,.slice bv6 bv7 bv8,.slice bv9 bv10 bv11,.slice bv12 bv13 bv14] 27))
 obtain ⟨Bb,hBb⟩:∃ g,g=w4.heap.size:=⟨_,rfl⟩
 obtain ⟨w5,hWn⟩:∃ W,W=(w4.alloc (.cells #[.string ⟨bv0.toArray⟩,.int .i64 bv1,.int .i64 bv2,.slice bv3 bv4 bv5,.slice bv6 bv7 bv8,.slice bv9 bv10 bv11,.slice bv12 bv13 bv14] 27)):=⟨_,rfl⟩
 rw [← hWn] at kbn hsn hbo hn1 hn3
 rw [← hBb] at kbn
 have hSb:Hid (∀ W,Below w5.heap.size w5 W→W.cell? ⟨Bb,0,none⟩=some (.string ⟨bv0.toArray⟩)∧W.cell? ⟨Bb,1,none⟩=some (.int .i64 bv1)∧W.cell? ⟨Bb,2,none⟩=some (.int .i64 bv2)∧W.cell? ⟨Bb,3,none⟩=some (.slice bv3 bv4 bv5)∧W.cell? ⟨Bb,4,none⟩=some (.slice bv6 bv7 bv8)∧W.cell? ⟨Bb,5,none⟩=some (.slice bv9 bv10 bv11)∧W.cell? ⟨Bb,6,none⟩=some (.slice bv12 bv13 bv14)):=fun W h=>blk7 (kbn.below h tZ1)
 have H1_5:=Lib.hid hn1
 have H3_5:=Lib.hid hn3
 have H5_5:Hid (Below w5.heap.size w5 w5):=Below.refl _ _
 have hYb:Hid (SaysT (.agg #[.string ⟨bv0.toArray⟩,.int .i64 bv1,.int .i64 bv2,.slice bv3 bv4 bv5,.slice bv6 bv7 bv8,.slice bv9 bv10 bv11,.slice bv12 bv13 bv14]) w5 (tenOr (Ea,Ca))):=⟨⟨bv0,bv1,bv2,⟨bv3,bv4,bv5,bl0⟩,⟨bv6,bv7,bv8,bl1⟩,⟨bv9,bv10,bv11,bl2⟩,⟨bv12,bv13,bv14,bl3⟩⟩,rfl,HCN.out,fun W h=>(HRD.out.below (hbo.trans (h.mono tZ1))).more tZ1⟩
 clear HRD HCN
 clear kbn hsn hbo hn1 hn3
 have hc:=hCc.out w5 H1_5.out
 have kk:=hKt.out _ H1_5.out
 obtain ⟨c0,c1,c2,c3,c4,c5,c6⟩:=(⟨kk.cell 0,kk.cell 1,kk.cell 2,kk.cell 3,kk.cell 4,kk.cell 5,kk.cell 6⟩:_∧_∧_∧_∧_∧_∧_)
 simp only [zF,zD,zE] at c0 c1 c2 c3 c4 c5 c6
 clear kk
 go_wp2_with (refine wpList_store_new w4 rfl 27 (.tmp 7) (.tmp 27) rfl 27 [.string ⟨#[]⟩,.int .i64 0,.int .i64 0,.slice none 0 0,.slice none 0 0,.slice none 0 0,.slice none 0 0] [.string ⟨bv0.toArray⟩,.int .i64 bv1,.int .i64 bv2,.slice bv3 bv4 bv5,.slice bv6 bv7 bv8,.slice bv9 bv10 bv11,.slice bv12 bv13 bv14] rfl rfl rfl tZ2 tZ5 ?_;rw [show ([.string ⟨bv0.toArray⟩,.int .i64 bv1,.int .i64 bv2,.slice bv3 bv4 bv5,.slice bv6 bv7 bv8,.slice bv9 bv10 bv11,.slice bv12 bv13 bv14]:List Value).toArray=#[.string ⟨bv0.toArray⟩,.int .i64 bv1,.int .i64 bv2,.slice bv3 bv4 bv5,.slice bv6 bv7 bv8,.slice bv9 bv10 bv11,.slice bv12 bv13 bv14] from rfl,← hWn,← hBb];clear hWn hBb)
 refine hc.mono ?_
 clear hc c0 c1 c2 c3 c4 c5 c6
 rintro e w6 hone
 obtain ⟨y,rfl,hb,hrd,hcn⟩:=hone.all
 have H1_6:=Lib.hid (H1_5.out.trans (hb.mono H1_5.out.size))
 have H3_6:=Lib.hid (H3_5.out.trans (hb.mono H3_5.out.size))
 have H5_6:=Lib.hid (H5_5.out.trans (hb.mono H5_5.out.size))
 clear hb
 have HRD:=Lib.hid hrd
 have HCN:=Lib.hid hcn
 clear hrd hcn hone
 obtain ⟨cv0,cv1,cv2,⟨cv3,cv4,cv5,cl0⟩,⟨cv6,cv7,cv8,cl1⟩,⟨cv9,cv10,cv11,cl2⟩,⟨cv12,cv13,cv14,cl3⟩⟩:=y
 simp only [TenR.val,TenR.cells,FS.val,strV]
 have hn1:=(H1_6.out).alloc H1_6.out.size (.cells #[.string ⟨cv0.toArray⟩,.int .i64 cv1,.int .i64 cv2,.slice cv3 cv4 cv5,.slice cv6 cv7 cv8,.slice cv9 cv10 cv11,.slice cv12 cv13 cv14] 27)
 have hn3:=(H3_6.out).alloc H3_6.out.size (.cells #[.string ⟨cv0.toArray⟩,.int .i64 cv1,.int .i64 cv2,.slice cv3 cv4 cv5,.slice cv6 cv7 cv8,.slice cv9 cv10 cv11,.slice cv12 cv13 cv14] 27)
 have hn5:=(H5_6.out).alloc H5_6.out.size (.cells #[.string ⟨cv0.toArray⟩,.int .i64 cv1,.int .i64 cv2,.slice cv3 cv4 cv5,.slice cv6 cv7 cv8,.slice cv9 cv10 cv11,.slice cv12 cv13 cv14] 27)
 have kbn:=Blk.new w6 27 #[.string ⟨cv0.toArray⟩,.int .i64 cv1,.int .i64 cv2,.slice cv3 cv4 cv5,.slice cv6 cv7 cv8,.slice cv9 cv10 cv11,.slice cv12 cv13 cv14]
 have hsn:(w6.alloc (.cells #[.string ⟨cv0.toArray⟩,.int .i64 cv1,.int .i64 cv2,.slice cv3 cv4 cv5,.slice cv6 cv7 cv8,.slice cv9 cv10 cv11,.slice cv12 cv13 cv14] 27)).heap.size=w6.heap.size+1:=tZ3
 have hbo:=((Below.refl w6.heap.size w6).alloc (Nat.le_refl _) (.cells #[.string ⟨cv0.toArray⟩,.int .i64 cv1,.int .i64 cv2,.slice cv3 cv4 cv5,.slice cv6 cv7 cv8,.slice cv9 cv10 cv11,.slice cv12 cv13 cv14] 27))
 obtain ⟨Bc,hBc⟩:∃ g,g=w6.heap.size:=⟨_,rfl⟩
 obtain ⟨w7,hWn⟩:∃ W,W=(w6.alloc (.cells #[.string ⟨cv0.toArray⟩,.int .i64 cv1,.int .i64 cv2,.slice cv3 cv4 cv5,.slice cv6 cv7 cv8,.slice cv9 cv10 cv11,.slice cv12 cv13 cv14] 27)):=⟨_,rfl⟩
 rw [← hWn] at kbn hsn hbo hn1 hn3 hn5
 rw [← hBc] at kbn
 have hSc:Hid (∀ W,Below w7.heap.size w7 W→W.cell? ⟨Bc,0,none⟩=some (.string ⟨cv0.toArray⟩)∧W.cell? ⟨Bc,1,none⟩=some (.int .i64 cv1)∧W.cell? ⟨Bc,2,none⟩=some (.int .i64 cv2)∧W.cell? ⟨Bc,3,none⟩=some (.slice cv3 cv4 cv5)∧W.cell? ⟨Bc,4,none⟩=some (.slice cv6 cv7 cv8)∧W.cell? ⟨Bc,5,none⟩=some (.slice cv9 cv10 cv11)∧W.cell? ⟨Bc,6,none⟩=some (.slice cv12 cv13 cv14)):=fun W h=>blk7 (kbn.below h tZ1)
 have H1_7:=Lib.hid hn1
 have H3_7:=Lib.hid hn3
 have H5_7:=Lib.hid hn5
 have H7_7:Hid (Below w7.heap.size w7 w7):=Below.refl _ _
 have hYc:Hid (SaysT (.agg #[.string ⟨cv0.toArray⟩,.int .i64 cv1,.int .i64 cv2,.slice cv3 cv4 cv5,.slice cv6 cv7 cv8,.slice cv9 cv10 cv11,.slice cv12 cv13 cv14]) w7 (tenOr (Ec,Cc))):=⟨⟨cv0,cv1,cv2,⟨cv3,cv4,cv5,cl0⟩,⟨cv6,cv7,cv8,cl1⟩,⟨cv9,cv10,cv11,cl2⟩,⟨cv12,cv13,cv14,cl3⟩⟩,rfl,HCN.out,fun W h=>(HRD.out.below (hbo.trans (h.mono tZ1))).more tZ1⟩
 clear HRD HCN
 clear kbn hsn hbo hn1 hn3 hn5
 have hc:=hCd.out w7 H1_7.out
 have kk:=hKt.out _ H1_7.out
 obtain ⟨c0,c1,c2,c3,c4,c5,c6⟩:=(⟨kk.cell 0,kk.cell 1,kk.cell 2,kk.cell 3,kk.cell 4,kk.cell 5,kk.cell 6⟩:_∧_∧_∧_∧_∧_∧_)
 simp only [zF,zD,zE] at c0 c1 c2 c3 c4 c5 c6
 clear kk
 go_wp2_with (refine wpList_store_new w6 rfl 27 (.tmp 9) (.tmp 33) rfl 27 [.string ⟨#[]⟩,.int .i64 0,.int .i64 0,.slice none 0 0,.slice none 0 0,.slice none 0 0,.slice none 0 0] [.string ⟨cv0.toArray⟩,.int .i64 cv1,.int .i64 cv2,.slice cv3 cv4 cv5,.slice cv6 cv7 cv8,.slice cv9 cv10 cv11,.slice cv12 cv13 cv14] rfl rfl rfl tZ2 tZ5 ?_;rw [show ([.string ⟨cv0.toArray⟩,.int .i64 cv1,.int .i64 cv2,.slice cv3 cv4 cv5,.slice cv6 cv7 cv8,.slice cv9 cv10 cv11,.slice cv12 cv13 cv14]:List Value).toArray=#[.string ⟨cv0.toArray⟩,.int .i64 cv1,.int .i64 cv2,.slice cv3 cv4 cv5,.slice cv6 cv7 cv8,.slice cv9 cv10 cv11,.slice cv12 cv13 cv14] from rfl,← hWn,← hBc];clear hWn hBc)
 refine hc.mono ?_
 clear hc c0 c1 c2 c3 c4 c5 c6
 rintro e w8 hone
 obtain ⟨y,rfl,hb,hrd,hcn⟩:=hone.all
 have H1_8:=Lib.hid (H1_7.out.trans (hb.mono H1_7.out.size))
 have H3_8:=Lib.hid (H3_7.out.trans (hb.mono H3_7.out.size))
 have H5_8:=Lib.hid (H5_7.out.trans (hb.mono H5_7.out.size))
 have H7_8:=Lib.hid (H7_7.out.trans (hb.mono H7_7.out.size))
 clear hb
 have HRD:=Lib.hid hrd
 have HCN:=Lib.hid hcn
 clear hrd hcn hone
 obtain ⟨dv0,dv1,dv2,⟨dv3,dv4,dv5,dl0⟩,⟨dv6,dv7,dv8,dl1⟩,⟨dv9,dv10,dv11,dl2⟩,⟨dv12,dv13,dv14,dl3⟩⟩:=y
 simp only [TenR.val,TenR.cells,FS.val,strV]
 have hn1:=(H1_8.out).alloc H1_8.out.size (.cells #[.string ⟨dv0.toArray⟩,.int .i64 dv1,.int .i64 dv2,.slice dv3 dv4 dv5,.slice dv6 dv7 dv8,.slice dv9 dv10 dv11,.slice dv12 dv13 dv14] 27)
 have hn3:=(H3_8.out).alloc H3_8.out.size (.cells #[.string ⟨dv0.toArray⟩,.int .i64 dv1,.int .i64 dv2,.slice dv3 dv4 dv5,.slice dv6 dv7 dv8,.slice dv9 dv10 dv11,.slice dv12 dv13 dv14] 27)
 have hn5:=(H5_8.out).alloc H5_8.out.size (.cells #[.string ⟨dv0.toArray⟩,.int .i64 dv1,.int .i64 dv2,.slice dv3 dv4 dv5,.slice dv6 dv7 dv8,.slice dv9 dv10 dv11,.slice dv12 dv13 dv14] 27)
 have hn7:=(H7_8.out).alloc H7_8.out.size (.cells #[.string ⟨dv0.toArray⟩,.int .i64 dv1,.int .i64 dv2,.slice dv3 dv4 dv5,.slice dv6 dv7 dv8,.slice dv9 dv10 dv11,.slice dv12 dv13 dv14] 27)
 have kbn:=Blk.new w8 27 #[.string ⟨dv0.toArray⟩,.int .i64 dv1,.int .i64 dv2,.slice dv3 dv4 dv5,.slice dv6 dv7 dv8,.slice dv9 dv10 dv11,.slice dv12 dv13 dv14]
 have hsn:(w8.alloc (.cells #[.string ⟨dv0.toArray⟩,.int .i64 dv1,.int .i64 dv2,.slice dv3 dv4 dv5,.slice dv6 dv7 dv8,.slice dv9 dv10 dv11,.slice dv12 dv13 dv14] 27)).heap.size=w8.heap.size+1:=tZ3
 have hbo:=((Below.refl w8.heap.size w8).alloc (Nat.le_refl _) (.cells #[.string ⟨dv0.toArray⟩,.int .i64 dv1,.int .i64 dv2,.slice dv3 dv4 dv5,.slice dv6 dv7 dv8,.slice dv9 dv10 dv11,.slice dv12 dv13 dv14] 27))
 obtain ⟨Bd,hBd⟩:∃ g,g=w8.heap.size:=⟨_,rfl⟩
 obtain ⟨w9,hWn⟩:∃ W,W=(w8.alloc (.cells #[.string ⟨dv0.toArray⟩,.int .i64 dv1,.int .i64 dv2,.slice dv3 dv4 dv5,.slice dv6 dv7 dv8,.slice dv9 dv10 dv11,.slice dv12 dv13 dv14] 27)):=⟨_,rfl⟩
 rw [← hWn] at kbn hsn hbo hn1 hn3 hn5 hn7
 rw [← hBd] at kbn
 have hSd:Hid (∀ W,Below w9.heap.size w9 W→W.cell? ⟨Bd,0,none⟩=some (.string ⟨dv0.toArray⟩)∧W.cell? ⟨Bd,1,none⟩=some (.int .i64 dv1)∧W.cell? ⟨Bd,2,none⟩=some (.int .i64 dv2)∧W.cell? ⟨Bd,3,none⟩=some (.slice dv3 dv4 dv5)∧W.cell? ⟨Bd,4,none⟩=some (.slice dv6 dv7 dv8)∧W.cell? ⟨Bd,5,none⟩=some (.slice dv9 dv10 dv11)∧W.cell? ⟨Bd,6,none⟩=some (.slice dv12 dv13 dv14)):=fun W h=>blk7 (kbn.below h tZ1)
 have H1_9:=Lib.hid hn1
 have H3_9:=Lib.hid hn3
 have H5_9:=Lib.hid hn5
 have H7_9:=Lib.hid hn7
 have H9_9:Hid (Below w9.heap.size w9 w9):=Below.refl _ _
 have hYd:Hid (SaysT (.agg #[.string ⟨dv0.toArray⟩,.int .i64 dv1,.int .i64 dv2,.slice dv3 dv4 dv5,.slice dv6 dv7 dv8,.slice dv9 dv10 dv11,.slice dv12 dv13 dv14]) w9 (tenOr (Ec,Cc))):=⟨⟨dv0,dv1,dv2,⟨dv3,dv4,dv5,dl0⟩,⟨dv6,dv7,dv8,dl1⟩,⟨dv9,dv10,dv11,dl2⟩,⟨dv12,dv13,dv14,dl3⟩⟩,rfl,HCN.out,fun W h=>(HRD.out.below (hbo.trans (h.mono tZ1))).more tZ1⟩
 clear HRD HCN
 clear kbn hsn hbo hn1 hn3 hn5 hn7
 have hc:=hCe.out w9 H1_9.out
 have kk:=hKt.out _ H1_9.out
 obtain ⟨c0,c1,c2,c3,c4,c5,c6⟩:=(⟨kk.cell 0,kk.cell 1,kk.cell 2,kk.cell 3,kk.cell 4,kk.cell 5,kk.cell 6⟩:_∧_∧_∧_∧_∧_∧_)
 simp only [zF,zD,zE] at c0 c1 c2 c3 c4 c5 c6
 clear kk
 go_wp2_with (refine wpList_store_new w8 rfl 27 (.tmp 11) (.tmp 39) rfl 27 [.string ⟨#[]⟩,.int .i64 0,.int .i64 0,.slice none 0 0,.slice none 0 0,.slice none 0 0,.slice none 0 0] [.string ⟨dv0.toArray⟩,.int .i64 dv1,.int .i64 dv2,.slice dv3 dv4 dv5,.slice dv6 dv7 dv8,.slice dv9 dv10 dv11,.slice dv12 dv13 dv14] rfl rfl rfl tZ2 tZ5 ?_;rw [show ([.string ⟨dv0.toArray⟩,.int .i64 dv1,.int .i64 dv2,.slice dv3 dv4 dv5,.slice dv6 dv7 dv8,.slice dv9 dv10 dv11,.slice dv12 dv13 dv14]:List Value).toArray=#[.string ⟨dv0.toArray⟩,.int .i64 dv1,.int .i64 dv2,.slice dv3 dv4 dv5,.slice dv6 dv7 dv8,.slice dv9 dv10 dv11,.slice dv12 dv13 dv14] from rfl,← hWn,← hBd];clear hWn hBd)
 refine hc.mono ?_
 clear hc c0 c1 c2 c3 c4 c5 c6
 rintro e w10 hone
 obtain ⟨y,rfl,hb,hrd,hcn⟩:=hone.all
 have H1_10:=Lib.hid (H1_9.out.trans (hb.mono H1_9.out.size))
 have H3_10:=Lib.hid (H3_9.out.trans (hb.mono H3_9.out.size))
 have H5_10:=Lib.hid (H5_9.out.trans (hb.mono H5_9.out.size))
 have H7_10:=Lib.hid (H7_9.out.trans (hb.mono H7_9.out.size))
 have H9_10:=Lib.hid (H9_9.out.trans (hb.mono H9_9.out.size))
 clear hb
 have HRD:=Lib.hid hrd
 have HCN:=Lib.hid hcn
 clear hrd hcn hone
 obtain ⟨ev0,ev1,ev2,⟨ev3,ev4,ev5,el0⟩,⟨ev6,ev7,ev8,el1⟩,⟨ev9,ev10,ev11,el2⟩,⟨ev12,ev13,ev14,el3⟩⟩:=y
 simp only [TenR.val,TenR.cells,FS.val,strV]
 have hn1:=(H1_10.out).alloc H1_10.out.size (.cells #[.string ⟨ev0.toArray⟩,.int .i64 ev1,.int .i64 ev2,.slice ev3 ev4 ev5,.slice ev6 ev7 ev8,.slice ev9 ev10 ev11,.slice ev12 ev13 ev14] 27)
 have hn3:=(H3_10.out).alloc H3_10.out.size (.cells #[.string ⟨ev0.toArray⟩,.int .i64 ev1,.int .i64 ev2,.slice ev3 ev4 ev5,.slice ev6 ev7 ev8,.slice ev9 ev10 ev11,.slice ev12 ev13 ev14] 27)
 have hn5:=(H5_10.out).alloc H5_10.out.size (.cells #[.string ⟨ev0.toArray⟩,.int .i64 ev1,.int .i64 ev2,.slice ev3 ev4 ev5,.slice ev6 ev7 ev8,.slice ev9 ev10 ev11,.slice ev12 ev13 ev14] 27)
 have hn7:=(H7_10.out).alloc H7_10.out.size (.cells #[.string ⟨ev0.toArray⟩,.int .i64 ev1,.int .i64 ev2,.slice ev3 ev4 ev5,.slice ev6 ev7 ev8,.slice ev9 ev10 ev11,.slice ev12 ev13 ev14] 27)
 have hn9:=(H9_10.out).alloc H9_10.out.size (.cells #[.string ⟨ev0.toArray⟩,.int .i64 ev1,.int .i64 ev2,.slice ev3 ev4 ev5,.slice ev6 ev7 ev8,.slice ev9 ev10 ev11,.slice ev12 ev13 ev14] 27)
 have kbn:=Blk.new w10 27 #[.string ⟨ev0.toArray⟩,.int .i64 ev1,.int .i64 ev2,.slice ev3 ev4 ev5,.slice ev6 ev7 ev8,.slice ev9 ev10 ev11,.slice ev12 ev13 ev14]
 have hsn:(w10.alloc (.cells #[.string ⟨ev0.toArray⟩,.int .i64 ev1,.int .i64 ev2,.slice ev3 ev4 ev5,.slice ev6 ev7 ev8,.slice ev9 ev10 ev11,.slice ev12 ev13 ev14] 27)).heap.size=w10.heap.size+1:=tZ3
 have hbo:=((Below.refl w10.heap.size w10).alloc (Nat.le_refl _) (.cells #[.string ⟨ev0.toArray⟩,.int .i64 ev1,.int .i64 ev2,.slice ev3 ev4 ev5,.slice ev6 ev7 ev8,.slice ev9 ev10 ev11,.slice ev12 ev13 ev14] 27))
 obtain ⟨Be,hBe⟩:∃ g,g=w10.heap.size:=⟨_,rfl⟩
 obtain ⟨w11,hWn⟩:∃ W,W=(w10.alloc (.cells #[.string ⟨ev0.toArray⟩,.int .i64 ev1,.int .i64 ev2,.slice ev3 ev4 ev5,.slice ev6 ev7 ev8,.slice ev9 ev10 ev11,.slice ev12 ev13 ev14] 27)):=⟨_,rfl⟩
 rw [← hWn] at kbn hsn hbo hn1 hn3 hn5 hn7 hn9
 rw [← hBe] at kbn
 have hSe:Hid (∀ W,Below w11.heap.size w11 W→W.cell? ⟨Be,0,none⟩=some (.string ⟨ev0.toArray⟩)∧W.cell? ⟨Be,1,none⟩=some (.int .i64 ev1)∧W.cell? ⟨Be,2,none⟩=some (.int .i64 ev2)∧W.cell? ⟨Be,3,none⟩=some (.slice ev3 ev4 ev5)∧W.cell? ⟨Be,4,none⟩=some (.slice ev6 ev7 ev8)∧W.cell? ⟨Be,5,none⟩=some (.slice ev9 ev10 ev11)∧W.cell? ⟨Be,6,none⟩=some (.slice ev12 ev13 ev14)):=fun W h=>blk7 (kbn.below h tZ1)
 have H1_11:=Lib.hid hn1
 have H3_11:=Lib.hid hn3
 have H5_11:=Lib.hid hn5
 have H7_11:=Lib.hid hn7
 have H9_11:=Lib.hid hn9
 have H11_11:Hid (Below w11.heap.size w11 w11):=Below.refl _ _
 have hYe:Hid (SaysT (.agg #[.string ⟨ev0.toArray⟩,.int .i64 ev1,.int .i64 ev2,.slice ev3 ev4 ev5,.slice ev6 ev7 ev8,.slice ev9 ev10 ev11,.slice ev12 ev13 ev14]) w11 (tenOr (Ee,Ce))):=⟨⟨ev0,ev1,ev2,⟨ev3,ev4,ev5,el0⟩,⟨ev6,ev7,ev8,el1⟩,⟨ev9,ev10,ev11,el2⟩,⟨ev12,ev13,ev14,el3⟩⟩,rfl,HCN.out,fun W h=>(HRD.out.below (hbo.trans (h.mono tZ1))).more tZ1⟩
 clear HRD HCN
 clear kbn hsn hbo hn1 hn3 hn5 hn7 hn9
 have hc:=hCf.out w11 H1_11.out
 have kk:=hKt.out _ H1_11.out
 obtain ⟨c0,c1,c2,c3,c4,c5,c6⟩:=(⟨kk.cell 0,kk.cell 1,kk.cell 2,kk.cell 3,kk.cell 4,kk.cell 5,kk.cell 6⟩:_∧_∧_∧_∧_∧_∧_)
 simp only [zF,zD,zE] at c0 c1 c2 c3 c4 c5 c6
 clear kk
 go_wp2_with (refine wpList_store_new w10 rfl 27 (.tmp 13) (.tmp 44) rfl 27 [.string ⟨#[]⟩,.int .i64 0,.int .i64 0,.slice none 0 0,.slice none 0 0,.slice none 0 0,.slice none 0 0] [.string ⟨ev0.toArray⟩,.int .i64 ev1,.int .i64 ev2,.slice ev3 ev4 ev5,.slice ev6 ev7 ev8,.slice ev9 ev10 ev11,.slice ev12 ev13 ev14] rfl rfl rfl tZ2 tZ5 ?_;rw [show ([.string ⟨ev0.toArray⟩,.int .i64 ev1,.int .i64 ev2,.slice ev3 ev4 ev5,.slice ev6 ev7 ev8,.slice ev9 ev10 ev11,.slice ev12 ev13 ev14]:List Value).toArray=#[.string ⟨ev0.toArray⟩,.int .i64 ev1,.int .i64 ev2,.slice ev3 ev4 ev5,.slice ev6 ev7 ev8,.slice ev9 ev10 ev11,.slice ev12 ev13 ev14] from rfl,← hWn,← hBe];clear hWn hBe)
 refine hc.mono ?_
 clear hc c0 c1 c2 c3 c4 c5 c6
 rintro e w12 hone
 obtain ⟨y,rfl,hb,hrd,hcn⟩:=hone.all
 have H1_12:=Lib.hid (H1_11.out.trans (hb.mono H1_11.out.size))
 have H3_12:=Lib.hid (H3_11.out.trans (hb.mono H3_11.out.size))
 have H5_12:=Lib.hid (H5_11.out.trans (hb.mono H5_11.out.size))
 have H7_12:=Lib.hid (H7_11.out.trans (hb.mono H7_11.out.size))
 have H9_12:=Lib.hid (H9_11.out.trans (hb.mono H9_11.out.size))
 have H11_12:=Lib.hid (H11_11.out.trans (hb.mono H11_11.out.size))
 clear hb
 have HRD:=Lib.hid hrd
 have HCN:=Lib.hid hcn
 clear hrd hcn hone
 obtain ⟨fv0,fv1,fv2,⟨fv3,fv4,fv5,fl0⟩,⟨fv6,fv7,fv8,fl1⟩,⟨fv9,fv10,fv11,fl2⟩,⟨fv12,fv13,fv14,fl3⟩⟩:=y
 simp only [TenR.val,TenR.cells,FS.val,strV]
 have hn1:=(H1_12.out).alloc H1_12.out.size (.cells #[.string ⟨fv0.toArray⟩,.int .i64 fv1,.int .i64 fv2,.slice fv3 fv4 fv5,.slice fv6 fv7 fv8,.slice fv9 fv10 fv11,.slice fv12 fv13 fv14] 27)
 have hn3:=(H3_12.out).alloc H3_12.out.size (.cells #[.string ⟨fv0.toArray⟩,.int .i64 fv1,.int .i64 fv2,.slice fv3 fv4 fv5,.slice fv6 fv7 fv8,.slice fv9 fv10 fv11,.slice fv12 fv13 fv14] 27)
 have hn5:=(H5_12.out).alloc H5_12.out.size (.cells #[.string ⟨fv0.toArray⟩,.int .i64 fv1,.int .i64 fv2,.slice fv3 fv4 fv5,.slice fv6 fv7 fv8,.slice fv9 fv10 fv11,.slice fv12 fv13 fv14] 27)
 have hn7:=(H7_12.out).alloc H7_12.out.size (.cells #[.string ⟨fv0.toArray⟩,.int .i64 fv1,.int .i64 fv2,.slice fv3 fv4 fv5,.slice fv6 fv7 fv8,.slice fv9 fv10 fv11,.slice fv12 fv13 fv14] 27)
 have hn9:=(H9_12.out).alloc H9_12.out.size (.cells #[.string ⟨fv0.toArray⟩,.int .i64 fv1,.int .i64 fv2,.slice fv3 fv4 fv5,.slice fv6 fv7 fv8,.slice fv9 fv10 fv11,.slice fv12 fv13 fv14] 27)
 have hn11:=(H11_12.out).alloc H11_12.out.size (.cells #[.string ⟨fv0.toArray⟩,.int .i64 fv1,.int .i64 fv2,.slice fv3 fv4 fv5,.slice fv6 fv7 fv8,.slice fv9 fv10 fv11,.slice fv12 fv13 fv14] 27)
 have kbn:=Blk.new w12 27 #[.string ⟨fv0.toArray⟩,.int .i64 fv1,.int .i64 fv2,.slice fv3 fv4 fv5,.slice fv6 fv7 fv8,.slice fv9 fv10 fv11,.slice fv12 fv13 fv14]
 have hsn:(w12.alloc (.cells #[.string ⟨fv0.toArray⟩,.int .i64 fv1,.int .i64 fv2,.slice fv3 fv4 fv5,.slice fv6 fv7 fv8,.slice fv9 fv10 fv11,.slice fv12 fv13 fv14] 27)).heap.size=w12.heap.size+1:=tZ3
 have hbo:=((Below.refl w12.heap.size w12).alloc (Nat.le_refl _) (.cells #[.string ⟨fv0.toArray⟩,.int .i64 fv1,.int .i64 fv2,.slice fv3 fv4 fv5,.slice fv6 fv7 fv8,.slice fv9 fv10 fv11,.slice fv12 fv13 fv14] 27))
 obtain ⟨Bf,hBf⟩:∃ g,g=w12.heap.size:=⟨_,rfl⟩
 obtain ⟨w13,hWn⟩:∃ W,W=(w12.alloc (.cells #[.string ⟨fv0.toArray⟩,.int .i64 fv1,.int .i64 fv2,.slice fv3 fv4 fv5,.slice fv6 fv7 fv8,.slice fv9 fv10 fv11,.slice fv12 fv13 fv14] 27)):=⟨_,rfl⟩
 rw [← hWn] at kbn hsn hbo hn1 hn3 hn5 hn7 hn9 hn11
 rw [← hBf] at kbn
 have hSf:Hid (∀ W,Below w13.heap.size w13 W→W.cell? ⟨Bf,0,none⟩=some (.string ⟨fv0.toArray⟩)∧W.cell? ⟨Bf,1,none⟩=some (.int .i64 fv1)∧W.cell? ⟨Bf,2,none⟩=some (.int .i64 fv2)∧W.cell? ⟨Bf,3,none⟩=some (.slice fv3 fv4 fv5)∧W.cell? ⟨Bf,4,none⟩=some (.slice fv6 fv7 fv8)∧W.cell? ⟨Bf,5,none⟩=some (.slice fv9 fv10 fv11)∧W.cell? ⟨Bf,6,none⟩=some (.slice fv12 fv13 fv14)):=fun W h=>blk7 (kbn.below h tZ1)
 have H1_13:=Lib.hid hn1
 have H3_13:=Lib.hid hn3
 have H5_13:=Lib.hid hn5
 have H7_13:=Lib.hid hn7
 have H9_13:=Lib.hid hn9
 have H11_13:=Lib.hid hn11
 have H13_13:Hid (Below w13.heap.size w13 w13):=Below.refl _ _
 have hYf:Hid (SaysT (.agg #[.string ⟨fv0.toArray⟩,.int .i64 fv1,.int .i64 fv2,.slice fv3 fv4 fv5,.slice fv6 fv7 fv8,.slice fv9 fv10 fv11,.slice fv12 fv13 fv14]) w13 (tenOr (Ee,Ce))):=⟨⟨fv0,fv1,fv2,⟨fv3,fv4,fv5,fl0⟩,⟨fv6,fv7,fv8,fl1⟩,⟨fv9,fv10,fv11,fl2⟩,⟨fv12,fv13,fv14,fl3⟩⟩,rfl,HCN.out,fun W h=>(HRD.out.below (hbo.trans (h.mono tZ1))).more tZ1⟩
 clear HRD HCN
 clear kbn hsn hbo hn1 hn3 hn5 hn7 hn9 hn11
 have hXa:Hid (∀ W,Below w13.heap.size w13 W→Below w3.heap.size w3 W):=fun W h=>H3_13.out.trans (h.mono H3_13.out.size)
 have hXb:Hid (∀ W,Below w13.heap.size w13 W→Below w5.heap.size w5 W):=fun W h=>H5_13.out.trans (h.mono H5_13.out.size)
 have hXc:Hid (∀ W,Below w13.heap.size w13 W→Below w7.heap.size w7 W):=fun W h=>H7_13.out.trans (h.mono H7_13.out.size)
 have hXd:Hid (∀ W,Below w13.heap.size w13 W→Below w9.heap.size w9 W):=fun W h=>H9_13.out.trans (h.mono H9_13.out.size)
 have hXe:Hid (∀ W,Below w13.heap.size w13 W→Below w11.heap.size w11 W):=fun W h=>H11_13.out.trans (h.mono H11_13.out.size)
 have hXf:Hid (∀ W,Below w13.heap.size w13 W→Below w13.heap.size w13 W):=fun W h=>H13_13.out.trans (h.mono H13_13.out.size)
 have hEa:Hid (∀ W,Below w13.heap.size w13 W→Calls Tryz.prog 13 #[.agg #[.string ⟨av0.toArray⟩,.int .i64 av1,.int .i64 av2,.slice av3 av4 av5,.slice av6 av7 av8,.slice av9 av10 av11,.slice av12 av13 av14],.agg #[.string ⟨bv0.toArray⟩,.int .i64 bv1,.int .i64 bv2,.slice bv3 bv4 bv5,.slice bv6 bv7 bv8,.slice bv9 bv10 bv11,.slice bv12 bv13 bv14]] W fun e w'=>e=.returned (.bool true)∧Below W.heap.size W w'):=fun W h=>same_said hYa.out hYb.out hZa.out (hXa.out W h) (hXb.out W h)
 have hEc:Hid (∀ W,Below w13.heap.size w13 W→Calls Tryz.prog 13 #[.agg #[.string ⟨cv0.toArray⟩,.int .i64 cv1,.int .i64 cv2,.slice cv3 cv4 cv5,.slice cv6 cv7 cv8,.slice cv9 cv10 cv11,.slice cv12 cv13 cv14],.agg #[.string ⟨dv0.toArray⟩,.int .i64 dv1,.int .i64 dv2,.slice dv3 dv4 dv5,.slice dv6 dv7 dv8,.slice dv9 dv10 dv11,.slice dv12 dv13 dv14]] W fun e w'=>e=.returned (.bool true)∧Below W.heap.size W w'):=fun W h=>same_said hYc.out hYd.out hZc.out (hXc.out W h) (hXd.out W h)
 have hEe:Hid (∀ W,Below w13.heap.size w13 W→Calls Tryz.prog 13 #[.agg #[.string ⟨ev0.toArray⟩,.int .i64 ev1,.int .i64 ev2,.slice ev3 ev4 ev5,.slice ev6 ev7 ev8,.slice ev9 ev10 ev11,.slice ev12 ev13 ev14],.agg #[.string ⟨fv0.toArray⟩,.int .i64 fv1,.int .i64 fv2,.slice fv3 fv4 fv5,.slice fv6 fv7 fv8,.slice fv9 fv10 fv11,.slice fv12 fv13 fv14]] W fun e w'=>e=.returned (.bool true)∧Below W.heap.size W w'):=fun W h=>same_said hYe.out hYf.out hZe.out (hXe.out W h) (hXf.out W h)
 have hB1:Hid (∀ W,Below w13.heap.size w13 W→Below W1.heap.size W1 W):=fun W h=>H1_13.out.trans (h.mono H1_13.out.size)
 have G0:Hid (Below w13.heap.size w13 w13):=Below.refl _ _
 obtain ⟨c0,c1,c2,c3,c4,c5,c6⟩:=hSa.out w13 (hXa.out w13 G0.out)
 obtain ⟨d0,d1,d2,d3,d4,d5,d6⟩:=hSb.out w13 (hXb.out w13 G0.out)
 have hc:=hEa.out w13 G0.out
 go_wp2_with (refine wpList_store_new w12 rfl 27 (.tmp 15) (.tmp 49) rfl 27 [.string ⟨#[]⟩,.int .i64 0,.int .i64 0,.slice none 0 0,.slice none 0 0,.slice none 0 0,.slice none 0 0] [.string ⟨fv0.toArray⟩,.int .i64 fv1,.int .i64 fv2,.slice fv3 fv4 fv5,.slice fv6 fv7 fv8,.slice fv9 fv10 fv11,.slice fv12 fv13 fv14] rfl rfl rfl tZ2 tZ5 ?_;rw [show ([.string ⟨fv0.toArray⟩,.int .i64 fv1,.int .i64 fv2,.slice fv3 fv4 fv5,.slice fv6 fv7 fv8,.slice fv9 fv10 fv11,.slice fv12 fv13 fv14]:List Value).toArray=#[.string ⟨fv0.toArray⟩,.int .i64 fv1,.int .i64 fv2,.slice fv3 fv4 fv5,.slice fv6 fv7 fv8,.slice fv9 fv10 fv11,.slice fv12 fv13 fv14] from rfl,← hWn,← hBf];clear hWn hBf)
 refine hc.mono ?_
 clear hc c0 c1 c2 c3 c4 c5 c6 d0 d1 d2 d3 d4 d5 d6
 rintro e v1 ⟨rfl,hb⟩
 have G1:=Lib.hid (G0.out.trans (hb.mono G0.out.size))
 clear hb
 have hc:=hNU.out Ea v1
 go_wp2_with fail
 refine hc.mono ?_
 clear hc
 rintro e v2 ⟨rfl,hb⟩
 have G2:=Lib.hid (G1.out.trans (hb.mono G1.out.size))
 clear hb
 obtain ⟨c0,c1,c2,c3,c4,c5,c6⟩:=hSc.out v2 (hXc.out v2 G2.out)
 obtain ⟨d0,d1,d2,d3,d4,d5,d6⟩:=hSd.out v2 (hXd.out v2 G2.out)
 have hc:=hEc.out v2 G2.out
 go_wp2_with fail
 refine hc.mono ?_
 clear hc c0 c1 c2 c3 c4 c5 c6 d0 d1 d2 d3 d4 d5 d6
 rintro e v3 ⟨rfl,hb⟩
 have G3:=Lib.hid (G2.out.trans (hb.mono G2.out.size))
 clear hb
 have hc:=hNU.out Ec v3
 go_wp2_with fail
 refine hc.mono ?_
 clear hc
 rintro e v4 ⟨rfl,hb⟩
 have G4:=Lib.hid (G3.out.trans (hb.mono G3.out.size))
 clear hb
 obtain ⟨c0,c1,c2,c3,c4,c5,c6⟩:=hSe.out v4 (hXe.out v4 G4.out)
 obtain ⟨d0,d1,d2,d3,d4,d5,d6⟩:=hSf.out v4 (hXf.out v4 G4.out)
 have hc:=hEe.out v4 G4.out
 go_wp2_with fail
 refine hc.mono ?_
 clear hc c0 c1 c2 c3 c4 c5 c6 d0 d1 d2 d3 d4 d5 d6
 rintro e v5 ⟨rfl,hb⟩
 have G5:=Lib.hid (G4.out.trans (hb.mono G4.out.size))
 clear hb
 have hc:=hNU.out Ee v5
 go_wp2_with fail
 refine hc.mono ?_
 clear hc
 rintro e v6 ⟨rfl,hb⟩
 have G6:=Lib.hid (G5.out.trans (hb.mono G5.out.size))
 clear hb
 have hc:=hAL.out v6 (hB1.out v6 G6.out)
 go_wp2_with fail
 refine hc.mono ?_
 clear hc
 rintro e v7 ⟨rfl,hb⟩
 have G7:=Lib.hid (G6.out.trans (hb.mono G6.out.size))
 clear hb
 go_wp2_with fail
 go_ret
 exact ⟨rfl,hBW.out _ (hB1.out _ G7.out)⟩
end Go.Proofs.YtiojfffgiejibaaGreatDoor
