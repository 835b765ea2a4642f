/-
  The page's With: a set more, in its place.
-/
import Derived.Test.YtiojfffgiejibaaGreatDoorQsM1
import Derived.WalkKit
import Derived.WalkSpells
import Derived.Below
import Derived.Laws.OwnMore
import Derived.Deep.AppendLies
import Derived.Deep.Draws
import Derived.Laws.Rows
import Derived.Maps.AppendAt
import Derived.RegionTactic
import Derived.OwnWalk
import Derived.Deep.QuietTactic
import Derived.BigQuiet
import Derived.Lib.Hide
import Derived.Laws.CopyOwn
import Derived.IntWalk
import Derived.Test.YtiojfffgiejibaaGreatDoorRows
import Derived.Handy
import Derived.Deep.Quiet
import Derived.ProofKit
import Derived.OpenShut
import Derived.ShutString
import Derived.ChangeOld
import Derived.Carry
import Derived.SizedLaws
import Derived.JoinedCond
import Derived.Deep.CondSized
import Derived.Deep.Slices
import Derived.Deep.Fields
import Derived.Lib.SmallJoins
import Derived.Orders
import Derived.Lib.SplitLaws
import Derived.Lib.LastIndexByte
import Derived.Lib.Strings
import Derived.Sort.Walk0
import Derived.Sort.KeysCollected
import Derived.Deep.MidRow
import Derived.Deep.RegionLaw
import Derived.Lib.AppendZeros
import Derived.Shelf.Strings.Search1
import Derived.Shelf.Strings.Search2
import Derived.Shelf.Strings.Search3
import Derived.Shelf.Strings.Cut
import Derived.Shelf.Strings.Count
import Derived.Shelf.LaysM
import Derived.Shelf.Strings.Shaped
import Derived.Shelf.Strings.LastIndex
import Derived.Shelf.Strings.Split
import Derived.Shelf.Strings.SplitShaped
import Derived.Shelf.Unicode.Decode
import Derived.Shelf.Strings.RuneCount
import Derived.Shelf.Strings.Explode
import Derived.Shelf.Unicode.DecodeSlow
import Derived.Shelf.Slices.Turned
import Derived.Test.YtiojfffgiejibaaGreatDoorProg
import Derived.Lib.Overlaps
import Derived.Lib.AppendZerosOnto
import Derived.Laws.BytesString
import Derived.Laws.IdiomStrings
import Derived.Lib.ConvBytes
import Derived.Deep.DeepCutAuto
import Derived.Great.BuildSlice
import Derived.Test.YtiojfffgiejibaaGreatDoorQ0
import Derived.Test.YtiojfffgiejibaaGreatDoorQs1
import Derived.Test.YtiojfffgiejibaaGreatDoorQs5
import Derived.Test.YtiojfffgiejibaaGreatDoorQs7
import Derived.Test.YtiojfffgiejibaaGreatDoorQs10
import Derived.Test.YtiojfffgiejibaaGreatDoorQs11
import Derived.Test.YtiojfffgiejibaaGreatDoorQs12
import Derived.Test.YtiojfffgiejibaaGreatDoorQs15
import Derived.Test.YtiojfffgiejibaaGreatDoorQs16
import Derived.Test.YtiojfffgiejibaaGreatDoorQs17
import Derived.Test.YtiojfffgiejibaaGreatDoorQs18
import Derived.Test.YtiojfffgiejibaaGreatDoorQs19
import Derived.Test.YtiojfffgiejibaaGreatDoorQs20
import Derived.Test.YtiojfffgiejibaaGreatDoorQs21
import Derived.Test.YtiojfffgiejibaaGreatDoorQs22
import Derived.Test.YtiojfffgiejibaaGreatDoorQs24
import Derived.Test.YtiojfffgiejibaaGreatDoorQs26
import Derived.Test.YtiojfffgiejibaaGreatDoorQs27
import Derived.Test.YtiojfffgiejibaaGreatDoorQs29
import Derived.Test.YtiojfffgiejibaaGreatDoorQs30
import Derived.Test.YtiojfffgiejibaaGreatDoorQs33
import Derived.Test.YtiojfffgiejibaaGreatDoorQs35
import Derived.Test.YtiojfffgiejibaaGreatDoorQs36
namespace Go.Proofs.YtiojfffgiejibaaGreatDoor
open Go.RowKit
set_option maxRecDepth 100000 in
set_option maxHeartbeats 8000000 in
theorem rwith_any (t:TenR) (s:SetR) (w:World) (B base:Nat) (hB:B≤w.heap.size) (hr:t.rd w B) (hz:t.sz) (hst:t.stages.n≤500000000000) (hso:SetO w base s) (hbs:base≤w.heap.size) (hsn0:t.sets.n≤100000000000) :
  Calls Tryz.prog 47 #[t.val,.agg (encSet s).toArray] w fun e w'=>∃ y:TenR,e=.returned y.val∧TenO w' base y∧y.con=t.con.withS s.con∧Below w.heap.size w w':=by
 obtain ⟨i0,hy0,hy1,hy2,hy3⟩:=info_parts Tryz.eachSet_info
 obtain ⟨C,hC⟩:∃ C,C=t.con:=⟨_,rfl⟩
 obtain ⟨sc,hsc⟩:∃ c,c=s.con:=⟨_,rfl⟩
 rw [← hC,← hsc]
 obtain ⟨S0,hS0⟩:∃ S,S=s:=⟨_,rfl⟩
 have HS0:=Lib.hid hS0
 obtain ⟨nm,qu,nx,⟨s1,sn,s3,sl⟩,⟨gA,gN,gC,gL⟩,⟨t1,tn,t3,tl⟩,⟨l1,ln,l3,ll⟩⟩:=t
 obtain ⟨sp,so,⟨v1,v2,v3,vl⟩,⟨v4,v5,v6,vm⟩,⟨v7,v8,v9,vn⟩⟩:=s
 show Calls Tryz.prog 47 #[.agg #[.string ⟨nm.toArray⟩,.int .i64 qu,.int .i64 nx,.slice s1 sn s3,.slice gA gN gC,.slice t1 tn t3,.slice l1 ln l3],.agg #[.string ⟨sp.toArray⟩,.string ⟨so.toArray⟩,.slice v1 v2 v3,.slice v4 v5 v6,.slice v7 v8 v9]] w _
 have hb:=((((Below.refl w.heap.size w).alloc (Nat.le_refl _) (.cells #[.string ⟨nm.toArray⟩,.int .i64 qu,.int .i64 nx,.slice s1 sn s3,.slice gA gN gC,.slice t1 tn t3,.slice l1 ln l3] 27)).alloc tZ3 (.cells #[.string ⟨sp.toArray⟩,.string ⟨so.toArray⟩,.slice v1 v2 v3,.slice v4 v5 v6,.slice v7 v8 v9] 56)).alloc tZ7 (.cells #[.string ⟨#[]⟩,.int .i64 0,.int .i64 0,.slice none 0 0,.slice none 0 0,.slice none 0 0,.slice none 0 0] 27))
 have kt:=Blk.new w 27 #[.string ⟨nm.toArray⟩,.int .i64 qu,.int .i64 nx,.slice s1 sn s3,.slice gA gN gC,.slice t1 tn t3,.slice l1 ln l3]
 replace kt:=kt.alloc (.cells #[.string ⟨sp.toArray⟩,.string ⟨so.toArray⟩,.slice v1 v2 v3,.slice v4 v5 v6,.slice v7 v8 v9] 56)
 replace kt:=kt.alloc (.cells #[.string ⟨#[]⟩,.int .i64 0,.int .i64 0,.slice none 0 0,.slice none 0 0,.slice none 0 0,.slice none 0 0] 27)
 have ks:=Blk.new (w.alloc (.cells #[.string ⟨nm.toArray⟩,.int .i64 qu,.int .i64 nx,.slice s1 sn s3,.slice gA gN gC,.slice t1 tn t3,.slice l1 ln l3] 27)) 56 #[.string ⟨sp.toArray⟩,.string ⟨so.toArray⟩,.slice v1 v2 v3,.slice v4 v5 v6,.slice v7 v8 v9]
 rw [show (w.alloc (.cells #[.string ⟨nm.toArray⟩,.int .i64 qu,.int .i64 nx,.slice s1 sn s3,.slice gA gN gC,.slice t1 tn t3,.slice l1 ln l3] 27)).heap.size=w.heap.size+1 by simp] at ks
 replace ks:=ks.alloc (.cells #[.string ⟨#[]⟩,.int .i64 0,.int .i64 0,.slice none 0 0,.slice none 0 0,.slice none 0 0,.slice none 0 0] 27)
 have kz:=Blk.new ((w.alloc (.cells #[.string ⟨nm.toArray⟩,.int .i64 qu,.int .i64 nx,.slice s1 sn s3,.slice gA gN gC,.slice t1 tn t3,.slice l1 ln l3] 27)).alloc (.cells #[.string ⟨sp.toArray⟩,.string ⟨so.toArray⟩,.slice v1 v2 v3,.slice v4 v5 v6,.slice v7 v8 v9] 56)) 27 #[.string ⟨#[]⟩,.int .i64 0,.int .i64 0,.slice none 0 0,.slice none 0 0,.slice none 0 0,.slice none 0 0]
 rw [show ((w.alloc (.cells #[.string ⟨nm.toArray⟩,.int .i64 qu,.int .i64 nx,.slice s1 sn s3,.slice gA gN gC,.slice t1 tn t3,.slice l1 ln l3] 27)).alloc (.cells #[.string ⟨sp.toArray⟩,.string ⟨so.toArray⟩,.slice v1 v2 v3,.slice v4 v5 v6,.slice v7 v8 v9] 56)).heap.size=w.heap.size+2 by simp] at kz
 have hsz:(((w.alloc (.cells #[.string ⟨nm.toArray⟩,.int .i64 qu,.int .i64 nx,.slice s1 sn s3,.slice gA gN gC,.slice t1 tn t3,.slice l1 ln l3] 27)).alloc (.cells #[.string ⟨sp.toArray⟩,.string ⟨so.toArray⟩,.slice v1 v2 v3,.slice v4 v5 v6,.slice v7 v8 v9] 56)).alloc (.cells #[.string ⟨#[]⟩,.int .i64 0,.int .i64 0,.slice none 0 0,.slice none 0 0,.slice none 0 0,.slice none 0 0] 27)).heap.size=w.heap.size+3:=tZ3
 obtain ⟨W1,hW1⟩:∃ W,W=(((w.alloc (.cells #[.string ⟨nm.toArray⟩,.int .i64 qu,.int .i64 nx,.slice s1 sn s3,.slice gA gN gC,.slice t1 tn t3,.slice l1 ln l3] 27)).alloc (.cells #[.string ⟨sp.toArray⟩,.string ⟨so.toArray⟩,.slice v1 v2 v3,.slice v4 v5 v6,.slice v7 v8 v9] 56)).alloc (.cells #[.string ⟨#[]⟩,.int .i64 0,.int .i64 0,.slice none 0 0,.slice none 0 0,.slice none 0 0,.slice none 0 0] 27)):=⟨_,rfl⟩
 rw [← hW1] at hb hsz kt ks kz
 have hKt:Hid (∀ W,Below W1.heap.size W1 W→Blk W w.heap.size 27 #[.string ⟨nm.toArray⟩,.int .i64 qu,.int .i64 nx,.slice s1 sn s3,.slice gA gN gC,.slice t1 tn t3,.slice l1 ln l3]):=fun W h=>kt.below h tZ1
 have hKs:Hid (∀ W,Below W1.heap.size W1 W→Blk W (w.heap.size+1) 56 #[.string ⟨sp.toArray⟩,.string ⟨so.toArray⟩,.slice v1 v2 v3,.slice v4 v5 v6,.slice v7 v8 v9]):=fun W h=>ks.below h tZ1
 have hKz:Hid (∀ W,Below W1.heap.size W1 W→Blk W (w.heap.size+2) 27 #[.string ⟨#[]⟩,.int .i64 0,.int .i64 0,.slice none 0 0,.slice none 0 0,.slice none 0 0,.slice none 0 0]):=fun W h=>kz.below h tZ1
 have hBW:Hid (∀ W,Below W1.heap.size W1 W→Below w.heap.size w W):=fun W h=>hb.trans (h.mono tZ1)
 have hSZ:Hid (∀ W,Below W1.heap.size W1 W→w.heap.size+3≤W.heap.size):=fun W h=>by have:=h.size;omega
 have hW0:Hid (Below W1.heap.size W1 W1):=Below.refl _ _
 have hrw:Hid (∀ W,Below W1.heap.size W1 W→TenR.rd W B ⟨nm,qu,nx,⟨s1,sn,s3,sl⟩,⟨gA,gN,gC,gL⟩,⟨t1,tn,t3,tl⟩,⟨l1,ln,l3,ll⟩⟩∧B≤W.heap.size):=fun W h =>
  ⟨TenR.rd.below hr ((hBW.out W h).mono hB),by have:=hSZ.out W h;omega⟩
 have hOW:Hid (∀ W,Below W1.heap.size W1 W→Calls Tryz.prog 17 #[.agg #[.string ⟨nm.toArray⟩,.int .i64 qu,.int .i64 nx,.slice s1 sn s3,.slice gA gN gC,.slice t1 tn t3,.slice l1 ln l3]] W fun e w'=>∃ y:TenR,e=.returned y.val∧TenO w' W.heap.size y∧TenR.eqv ⟨nm,qu,nx,⟨s1,sn,s3,sl⟩,⟨gA,gN,gC,gL⟩,⟨t1,tn,t3,tl⟩,⟨l1,ln,l3,ll⟩⟩ y∧Below W.heap.size W w'):=fun W h =>
  own14T_any nm qu nx s1 sn s3 sl gA gN gC gL t1 tn t3 tl l1 ln l3 ll W B (hrw.out W h).2 (hrw.out W h).1 hz hst
 have HSO:Hid (∀ W,Below W1.heap.size W1 W→SetO W base S0):=fun W h=>by
  rw [hS0]
  exact hso.below (hBW.out W h)
 have HSC:Hid (S0.con=sc):=by show _=_;rw [hS0,hsc]
 have HSP:Hid (S0.path=sp):=by show _=_;rw [hS0]
 have HBS:=Lib.hid hbs
 have HN0:Hid (sn≤100000000000):=hsn0
 have HSN:=Lib.hid (show sn=sl.length from hr.sets.1)
 have hHC:=Lib.hid hC
 clear hb hsz kt ks kz hr hz hst hso hbs hsn0 hC hsc hS0 hrw
 go_enter Tryz.func47,Tryz.ntmps47
 have hc:=hOW.out  W1 hW0.out
 have kk:=hKt.out W1 hW0.out
 obtain ⟨c0,c1,c2,c3,c4,c5,c6⟩:=(⟨kk.cell 0,kk.cell 1,kk.cell 2,kk.cell 3,kk.cell 4,kk.cell 5,kk.cell 6⟩:_∧_∧_∧_∧_∧_∧_)
 simp only [zF,zD,zE] at c0 c1 c2 c3 c4 c5 c6
 clear kk
 go_wp2_with fail
 rw [← hW1]
 clear hW1
 refine hc.mono ?_
 clear hc c0 c1 c2 c3 c4 c5 c6
 rintro e w2 ⟨y,rfl,hoy,hey,hb⟩
 have HW2:=Lib.hid (hW0.out.trans (hb.mono hW0.out.size))
 clear hb
 have HEY:=Lib.hid ((TenR.eqv_iff _ _).1 hey)
 obtain ⟨mm,mq,mx,⟨m1,m2,m3,ml⟩,⟨n1,n2,n3,nl⟩,⟨p1,p2,p3,pl⟩,⟨lA,lN,lC,lL⟩⟩:=y
 simp only [TenR.val,TenR.cells,FS.val,strV]
 have hb3:=(Below.refl w2.heap.size w2).alloc (Nat.le_refl _) (.cells #[.string ⟨mm.toArray⟩,.int .i64 mq,.int .i64 mx,.slice m1 m2 m3,.slice n1 n2 n3,.slice p1 p2 p3,.slice lA lN lC] 27)
 have ho3:=hoy.below hb3
 have k3:=Blk.new w2 27 #[.string ⟨mm.toArray⟩,.int .i64 mq,.int .i64 mx,.slice m1 m2 m3,.slice n1 n2 n3,.slice p1 p2 p3,.slice lA lN lC]
 have hw3:=HW2.out.alloc HW2.out.size (.cells #[.string ⟨mm.toArray⟩,.int .i64 mq,.int .i64 mx,.slice m1 m2 m3,.slice n1 n2 n3,.slice p1 p2 p3,.slice lA lN lC] 27)
 have hsz3:(w2.alloc (.cells #[.string ⟨mm.toArray⟩,.int .i64 mq,.int .i64 mx,.slice m1 m2 m3,.slice n1 n2 n3,.slice p1 p2 p3,.slice lA lN lC] 27)).heap.size=w2.heap.size+1:=tZ3
 obtain ⟨g5,hg5⟩:∃ g,g=w2.heap.size:=⟨_,rfl⟩
 obtain ⟨w3,hW3⟩:∃ W,W=w2.alloc (.cells #[.string ⟨mm.toArray⟩,.int .i64 mq,.int .i64 mx,.slice m1 m2 m3,.slice n1 n2 n3,.slice p1 p2 p3,.slice lA lN lC] 27):=⟨_,rfl⟩
 rw [← hW3] at ho3 k3 hw3 hsz3
 rw [← hg5] at k3 hsz3
 have k4:=k3.set_ 3 (.slice none 0 0)
 simp only [List.setIfInBounds_toArray,zC,zB] at k4
 have hg34:=grown_box w3 g5 3 (.slice none 0 0)
 have ho4:=ho3.keptT hg34 k3 offT_ten
 have hw4:=hw3.setCell (p:=⟨g5,3,none⟩) (by have:=HW2.out.size;show W1.heap.size≤g5;omega) (.slice none 0 0)
 have hsz4:(w3.setCell ⟨g5,3,none⟩ (.slice none 0 0)).heap.size=g5+1:=by rw [size_set];exact hsz3
 have c3:=k3.cell 3
 simp only [zF,zD,zE] at c3
 have f3:=k3.frozen 3
 obtain ⟨w4,hW4⟩:∃ W,W=w3.setCell ⟨g5,3,none⟩ (.slice none 0 0):=⟨_,rfl⟩
 rw [← hW4] at k4 ho4 hw4 hsz4
 have HW4:=Lib.hid hw4
 have K4:=Lib.hid k4
 have HO4:Hid (TenO w4 W1.heap.size ⟨mm,mq,mx,⟨none,0,0,[]⟩,⟨n1,n2,n3,nl⟩,⟨p1,p2,p3,pl⟩,⟨lA,lN,lC,lL⟩⟩):=⟨⟨rfl,rfl,.inl ⟨rfl,rfl⟩⟩,fun y hy=>absurd hy tZ3,ho4.grants,ho4.stages,ho4.eachG,ho4.log⟩
 have HSS:=Lib.hid (show W1.heap.size≤g5 by have:=HW2.out.size;omega)
 have HG5:=Lib.hid (show w.heap.size+3≤g5∧w4.heap.size=g5+1 from ⟨by have:=hSZ.out w2 HW2.out;omega,hsz4⟩)
 clear hoy hey hb3 ho3 k3 hw3 hsz3 k4 hg34 ho4 hw4 hsz4
 go_upto_region 3 with (refine wpList_store_new w2 rfl 27 (.tmp 5) (.tmp 10) rfl 27 [.string ⟨#[]⟩,.int .i64 0,.int .i64 0,.slice none 0 0,.slice none 0 0,.slice none 0 0,.slice none 0 0] [.string ⟨mm.toArray⟩,.int .i64 mq,.int .i64 mx,.slice m1 m2 m3,.slice n1 n2 n3,.slice p1 p2 p3,.slice lA lN lC] rfl rfl rfl tZ2 tZ5 ?_;rw [show ([.string ⟨mm.toArray⟩,.int .i64 mq,.int .i64 mx,.slice m1 m2 m3,.slice n1 n2 n3,.slice p1 p2 p3,.slice lA lN lC]:List Value).toArray=#[.string ⟨mm.toArray⟩,.int .i64 mq,.int .i64 mx,.slice m1 m2 m3,.slice n1 n2 n3,.slice p1 p2 p3,.slice lA lN lC] from rfl,← hW3,← hg5];clear hW3 hg5)
 rw [← hW4]
 clear hW4 c3 f3
 have hc:=hOW.out  w4 HW4.out
 have kk:=hKt.out w4 HW4.out
 obtain ⟨c0,c1,c2,c3,c4,c5,c6⟩:=(⟨kk.cell 0,kk.cell 1,kk.cell 2,kk.cell 3,kk.cell 4,kk.cell 5,kk.cell 6⟩:_∧_∧_∧_∧_∧_∧_)
 simp only [zF,zD,zE] at c0 c1 c2 c3 c4 c5 c6
 clear kk
 go_wp2_with fail
 refine hc.mono ?_
 clear hc c0 c1 c2 c3 c4 c5 c6
 rintro e w5 ⟨z,rfl,hoz,hez,hb⟩
 have HW5:=Lib.hid (HW4.out.trans (hb.mono HW4.out.size))
 have H45:=Lib.hid hb
 clear hb
 have HEZ:=Lib.hid ((TenR.eqv_iff _ _).1 hez)
 have hlen:z.sets.n=sn:=by
  have h1:=hez.lenS
  have h2:=hoz.sets.1
  have:=HSN.out
  simp only at h1
  omega
 obtain ⟨km,kq,kx,⟨k1,k2,k3,kl⟩,⟨j1,j2,j3,jl⟩,⟨i1,i2,i3,il⟩,⟨h1,h2,h3,hl⟩⟩:=z
 replace hlen:k2=sn:=hlen
 subst hlen
 simp only [TenR.val,TenR.cells,FS.val,strV]
 have hb6:=(Below.refl w5.heap.size w5).alloc (Nat.le_refl _) (.cells #[.string ⟨km.toArray⟩,.int .i64 kq,.int .i64 kx,.slice k1 k2 k3,.slice j1 j2 j3,.slice i1 i2 i3,.slice h1 h2 h3] 27)
 have HZ6:=hoz.below hb6
 have kk6:=Blk.new w5 27 #[.string ⟨km.toArray⟩,.int .i64 kq,.int .i64 kx,.slice k1 k2 k3,.slice j1 j2 j3,.slice i1 i2 i3,.slice h1 h2 h3]
 have h46:=H45.out.trans (hb6.mono H45.out.size)
 have hw6:=HW5.out.alloc HW5.out.size (.cells #[.string ⟨km.toArray⟩,.int .i64 kq,.int .i64 kx,.slice k1 k2 k3,.slice j1 j2 j3,.slice i1 i2 i3,.slice h1 h2 h3] 27)
 have hsz6:(w5.alloc (.cells #[.string ⟨km.toArray⟩,.int .i64 kq,.int .i64 kx,.slice k1 k2 k3,.slice j1 j2 j3,.slice i1 i2 i3,.slice h1 h2 h3] 27)).heap.size=w5.heap.size+1:=tZ3
 obtain ⟨g7,hg7⟩:∃ g,g=w5.heap.size:=⟨_,rfl⟩
 obtain ⟨w6,hW6⟩:∃ W,W=w5.alloc (.cells #[.string ⟨km.toArray⟩,.int .i64 kq,.int .i64 kx,.slice k1 k2 k3,.slice j1 j2 j3,.slice i1 i2 i3,.slice h1 h2 h3] 27):=⟨_,rfl⟩
 rw [← hW6] at HZ6 kk6 h46 hw6 hsz6
 rw [← hg7] at kk6 hsz6
 have HW6:=Lib.hid hw6
 have K7:=Lib.hid kk6
 have HZ7:=Lib.hid HZ6
 have K5:=Lib.hid (K4.out.below h46 K4.out.lt)
 have HO6:=Lib.hid (HO4.out.below h46)
 have HG7:=Lib.hid (show g5<g7∧w6.heap.size=g7+1∧g5<w4.heap.size∧w4.heap.size≤g7 from ⟨by have:=H45.out.size;have:=HG5.out;omega,hsz6,by have:=HG5.out;omega,by have:=H45.out.size;omega⟩)
 have HKL:Hid (k2=kl.length):=hoz.sets.1
 have HNK:Hid (k2≤100000000000):=HN0.out
 -- a world behind the loop's beginning: what was there stays but for the box of 'out'
 have hSTEP:Hid (∀ W,w6.grownBy W (some g5)→TenO W w4.heap.size ⟨km,kq,kx,⟨k1,k2,k3,kl⟩,⟨j1,j2,j3,jl⟩,⟨i1,i2,i3,il⟩,⟨h1,h2,h3,hl⟩⟩∧TenO W W1.heap.size ⟨mm,mq,mx,⟨none,0,0,[]⟩,⟨n1,n2,n3,nl⟩,⟨p1,p2,p3,pl⟩,⟨lA,lN,lC,lL⟩⟩∧SetO W base S0∧Blk W g7 27 #[.string ⟨km.toArray⟩,.int .i64 kq,.int .i64 kx,.slice k1 k2 k3,.slice j1 j2 j3,.slice i1 i2 i3,.slice h1 h2 h3]∧Blk W (w.heap.size+1) 56 #[.string ⟨sp.toArray⟩,.string ⟨so.toArray⟩,.slice v1 v2 v3,.slice v4 v5 v6,.slice v7 v8 v9]∧Blk W (w.heap.size+1+1) 27 #[.string ⟨#[]⟩,.int .i64 0,.int .i64 0,.slice none 0 0,.slice none 0 0,.slice none 0 0,.slice none 0 0]∧Below W1.heap.size W1 W):=by
  show ∀ W,_→_
  intro W hg
  have h5:=K5.out
  have hs6:=HSO.out w6 HW6.out
  refine ⟨HZ7.out.keptT hg h5 offT_ten,HO6.out.keptT hg h5 offT_ten,?_,K7.out.grown hg (fun e=>?_),(hKs.out w6 HW6.out).grown hg (fun e=>?_),(hKz.out w6 HW6.out).grown hg (fun e=>?_),HW6.out.grown hg (HW6.out.size) (fun k hk=>?_)⟩
  ·exact ⟨hs6.body.keptT hg h5 tZ4,hs6.snaps.keptT hg h5 tZ4,fun y hy=>⟨(hs6.each y hy).body.keptT hg h5 tZ4,(hs6.each y hy).tags.keptT hg h5 tZ4,(hs6.each y hy).own.keptT hg h5 tZ4⟩,hs6.own.keptT hg h5 tZ4⟩
  ·injection e with e;have:=HG7.out;omega
  ·injection e with e;have:=HG5.out;omega
  ·injection e with e;have:=HG5.out;omega
  ·injection hk with hk;subst hk;have h1:=HG5.out;have h2:=hSZ.out w2 HW2.out;have h3:=HW2.out.size;have h4:=hSZ.out w4 HW4.out;have h6:=HSS.out;omega
 have HIN:Hid (w6.grownBy w6 (some g5)):=⟨rfl,rfl,rfl,Nat.le_refl _,fun _ _ _=>rfl⟩
 clear hoz hez hb6 HZ6 kk6 h46 hw6 hsz6 hOW
 go_upto_region 5 with (refine wpList_store_new w5 rfl 27 (.tmp 7) (.tmp 13) rfl 27 [.string ⟨#[]⟩,.int .i64 0,.int .i64 0,.slice none 0 0,.slice none 0 0,.slice none 0 0,.slice none 0 0] [.string ⟨km.toArray⟩,.int .i64 kq,.int .i64 kx,.slice k1 k2 k3,.slice j1 j2 j3,.slice i1 i2 i3,.slice h1 h2 h3] rfl rfl rfl tZ2 tZ5 ?_;rw [show ([.string ⟨km.toArray⟩,.int .i64 kq,.int .i64 kx,.slice k1 k2 k3,.slice j1 j2 j3,.slice i1 i2 i3,.slice h1 h2 h3]:List Value).toArray=#[.string ⟨km.toArray⟩,.int .i64 kq,.int .i64 kx,.slice k1 k2 k3,.slice j1 j2 j3,.slice i1 i2 i3,.slice h1 h2 h3] from rfl,← hW6,← hg7];clear hW6 hg7)
 go_wp2_with fail
 go_loopw [6,8] (fun p j wr=>∃ (k m:Nat) (A:Option Addr) (c:Nat) (L:List SetR) (pb:Bool),k≤k2∧j=.int .i64 (k:Int)∧p=.bool pb∧Hid (wRun S0 (kl.take k)=(L,pb))∧Hid (m≤2*k)∧Hid (Blk wr g5 27 #[.string ⟨mm.toArray⟩,.int .i64 mq,.int .i64 mx,.slice A m c,.slice n1 n2 n3,.slice p1 p2 p3,.slice lA lN lC])∧Hid (wr.ownsRow w6.heap.size 56 5 (.slice A m c) m (cellsK encSet L))∧Hid (w6.grownBy wr (some g5))) (fun _ j _=>k2-(intOf j).toNat)
 case atStart=>exact ⟨0,0,none,0,[],false,Nat.zero_le _,rfl,rfl,rfl,Nat.zero_le _,K5.out,World.ownsRow_nil _ _ _ _,HIN.out⟩
 case round =>
  obtain ⟨wo,hwo⟩:∃ W,W=wr:=⟨_,rfl⟩
  subst hwo
  obtain ⟨k,m,A,c,L,pb,hk,rfl,rfl,HQ,HM,KB,HO,HGR⟩:=hrel
  have hNK:=HNK.out
  obtain ⟨hzo,hoo,hss,hk7,hks5,hkz5,hbw⟩:=hSTEP.out wo HGR.out
  have HBO:=Lib.hid hbw
  have d3:=hk7.cell 3
  simp only [zF,zD,zE] at d3
  by_cases hlt:k<k2
  ·have hki:(k:Int)<(k2:Int):=tZ1
   have hk0:(0:Int)≤(k:Int):=tZ1
   have hkl:k<kl.length:=by have:=HKL.out;omega
   have HST:Hid (wRun S0 (kl.take (k+1))=wStep S0 (L,pb) (kl[k]'hkl)):=by show _=_;rw [wRun_succ S0 kl k hkl,HQ.out]
   have HEL:Hid (∀ W,w6.grownBy W (some g5)→∃ ad,k1=some ad∧W.cell? (ad.add (k*5))=some (strV (kl[k]'hkl).path)∧W.cell? ⟨(ad.add (k*5)).block,(ad.add (k*5)).off+1,none⟩=some (strV (kl[k]'hkl).org)∧W.cell? ⟨(ad.add (k*5)).block,(ad.add (k*5)).off+2,none⟩=some (kl[k]'hkl).body.val∧W.cell? ⟨(ad.add (k*5)).block,(ad.add (k*5)).off+3,none⟩=some (kl[k]'hkl).snaps.val∧W.cell? ⟨(ad.add (k*5)).block,(ad.add (k*5)).off+4,none⟩=some (kl[k]'hkl).own.val):=by
    show ∀ W,_→_
    intro W hW
    obtain ⟨ad,hsa,-,r0,r1,r2,r3,r4⟩:=set_at (hSTEP.out W hW).1.sets.rd.2.2 HKL.out hlt
    exact ⟨ad,hsa,r0,r1,r2,r3,r4⟩
   obtain ⟨ad,hsa,r0,-⟩:=HEL.out wo HGR.out
   subst hsa
   have HEL:Hid (∀ W,w6.grownBy W (some g5)→W.cell? (ad.add (k*5))=some (strV (kl[k]'hkl).path)∧W.cell? ⟨(ad.add (k*5)).block,(ad.add (k*5)).off+1,none⟩=some (strV (kl[k]'hkl).org)∧W.cell? ⟨(ad.add (k*5)).block,(ad.add (k*5)).off+2,none⟩=some (kl[k]'hkl).body.val∧W.cell? ⟨(ad.add (k*5)).block,(ad.add (k*5)).off+3,none⟩=some (kl[k]'hkl).snaps.val∧W.cell? ⟨(ad.add (k*5)).block,(ad.add (k*5)).off+4,none⟩=some (kl[k]'hkl).own.val):=by
    show ∀ W,_→_
    intro W hW
    obtain ⟨ad2,hsa,r⟩:=HEL.out W hW
    injection hsa with hsa
    subst hsa
    exact r
   obtain ⟨x,hx⟩:∃ x,x=kl[k]'hkl:=⟨_,rfl⟩
   rw [← hx] at HST HEL r0
   clear hx
   obtain ⟨xp,xo,⟨bA,bn,bc,bl⟩,⟨zA,zn,zc,zl⟩,⟨oA,on,oc,ol⟩⟩:=x
   replace r0:wo.cell? (ad.add (k*5))=some (.string ⟨xp.toArray⟩):=r0
   have HEL:Hid (∀ W,w6.grownBy W (some g5)→W.cell? (ad.add (k*5))=some (.string ⟨xp.toArray⟩)∧W.cell? ⟨(ad.add (k*5)).block,(ad.add (k*5)).off+1,none⟩=some (.string ⟨xo.toArray⟩)∧W.cell? ⟨(ad.add (k*5)).block,(ad.add (k*5)).off+2,none⟩=some (.slice bA bn bc)∧W.cell? ⟨(ad.add (k*5)).block,(ad.add (k*5)).off+3,none⟩=some (.slice zA zn zc)∧W.cell? ⟨(ad.add (k*5)).block,(ad.add (k*5)).off+4,none⟩=some (.slice oA on oc)):=HEL.out
   have HSP:=HSP.out
   have e0:=hks5.cell 0
   simp only [zF,zE] at e0
   have hge:=geqS 9 xp sp
   go_upto_region 8 with (fail)
   go_cut [33] from 14 to 49 (fun cb wx=>cb=.bool (decide (pb=false∧Op.bytesLess xp sp=false))∧∃ q,wx=wo.drewN q)
   case first =>
    cases pb with
    | true =>
     go_quiet (fail)
     go_wp2_with fail
     go_meet
     exact ⟨by simp,_,rfl⟩
    | false =>
     cases hls:Op.bytesLess xp sp with
     | true =>
      exact mZ209
     | false =>
      exact mZ209
   case rest =>
    obtain ⟨rfl,qd,hwd⟩:=hcut
    obtain ⟨wd,hwe⟩:∃ W,W=wc:=⟨_,rfl⟩
    subst hwe
    have hbd:Below wo.heap.size wo wd:=by rw [hwd];exact below_drewN (Below.refl _ _) _
    have KB:=Lib.hid (KB.out.below hbd KB.out.lt)
    have HO:=Lib.hid (own_below HO.out hbd)
    have HGR:=Lib.hid (grown_below HGR.out hbd)
    have hs5:=(hSTEP.out wd HGR.out).2.2.2.2.1
    obtain ⟨e0,e1,e2,e3,e4⟩:=(⟨hs5.cell 0,hs5.cell 1,hs5.cell 2,hs5.cell 3,hs5.cell 4⟩:_∧_∧_∧_∧_)
    have q3:=KB.out.cell 3
    simp only [zF,zD,zE] at e0 e1 e2 e3 e4 q3
    have hMM:=HM.out
    have HWS:Hid (wRun S0 (kl.take (k+1))=((if pb=false∧Op.bytesLess xp sp=false then L++[S0] else L)++[⟨xp,xo,⟨bA,bn,bc,bl⟩,⟨zA,zn,zc,zl⟩,⟨oA,on,oc,ol⟩⟩],if pb=false∧Op.bytesLess xp sp=false then true else pb)):=by
     show _=_
     rw [HST.out]
     unfold wStep
     simp only [HSP]
     split <;> rfl
    obtain ⟨cb,hcb⟩:∃ b,b=decide (pb=false∧Op.bytesLess xp sp=false):=⟨_,rfl⟩
    rw [← hcb]
    have HCB:=Lib.hid hcb
    clear hcb hwd hbd hs5 r0 d3 hge hzo hoo hss hk7 hks5 hkz5 hbw HST HQ
    go_upto_if 33 with (fail)
    go_cut [6] from 14 to 49 (fun pv wx=>∃ (m:Nat) (A:Option Addr) (c:Nat) (L9:List SetR) (pb9:Bool),pv=.bool pb9∧Hid (wRun S0 (kl.take (k+1))=(L9++[⟨xp,xo,⟨bA,bn,bc,bl⟩,⟨zA,zn,zc,zl⟩,⟨oA,on,oc,ol⟩⟩],pb9))∧Hid (m≤2*k+1)∧Hid (Blk wx g5 27 #[.string ⟨mm.toArray⟩,.int .i64 mq,.int .i64 mx,.slice A m c,.slice n1 n2 n3,.slice p1 p2 p3,.slice lA lN lC])∧Hid (wx.ownsRow w6.heap.size 56 5 (.slice A m c) m (cellsK encSet L9))∧Hid (w6.grownBy wx (some g5)))
    case first =>
     cases cb with
     | true =>
      have hc:pb=false∧Op.bytesLess xp sp=false:=tZ116
      have HWT:Hid (wRun S0 (kl.take (k+1))=(L++[S0]++[⟨xp,xo,⟨bA,bn,bc,bl⟩,⟨zA,zn,zc,zl⟩,⟨oA,on,oc,ol⟩⟩],true)):=by show _=_;rw [HWS.out,if_pos hc,if_pos hc]
      clear hc HCB HWS
      go_wp2_with (at_builtin;(refine wpList_push wd rfl (.tmp 35) (.tmp 37) _ rfl w6.heap.size 56 i0 _ 5 104 Tryz.underlying22 hy0 hy1 hy2 hy3 rfl tZ1 (.slice A m c) m _ rfl HO.out 1 #[.string ⟨sp.toArray⟩,.string ⟨so.toArray⟩,.slice v1 v2 v3,.slice v4 v5 v6,.slice v7 v8 v9] _ rfl rfl tZ5 tZ11 tZ1 HGR.out.size ?_);intro v5 w5 ho5 hb5 hg5;obtain ⟨A5,cc5,rfl,_⟩:=own_form ho5;have kb5:=KB.out.grown hg5 (fun hh=>own_blk_ne HO.out KB.out tZ4 hh.symm);have hgr5:=grown_new HGR.out hg5 (fun g hg=>(HO.out.lt g hg).1);have HKN:=Lib.hid (kb5.set_ 3 (.slice A5 (m+1) cc5));have HON:=Lib.hid (own_setCell_below ho5 (p:=⟨g5,3,none⟩) tZ90 (.slice A5 (m+1) cc5));have HGN:=Lib.hid (grown_tr hgr5 (grown_box w5 g5 3 (.slice A5 (m+1) cc5)));have gz3:=kb5.cell 3;simp only [zF,zD,zE] at gz3;have hz3:=kb5.frozen 3;clear ho5 hb5 hg5 kb5 hgr5)
      have HOX:Hid ((w5.setCell ⟨g5,3,none⟩ (.slice A5 (m+1) cc5)).ownsRow w6.heap.size 56 5 (.slice A5 (m+1) cc5) (m+1) (cellsK encSet (L++[S0]))):=by
       exact mZ206
      go_meet
      exact ⟨m+1,A5,cc5,L++[S0],true,rfl,HWT,by show _≤_;omega,HKN,HOX,HGN⟩
     | false =>
      have hc:¬ (pb=false∧Op.bytesLess xp sp=false):=tZ116
      have HWT:Hid (wRun S0 (kl.take (k+1))=(L++[⟨xp,xo,⟨bA,bn,bc,bl⟩,⟨zA,zn,zc,zl⟩,⟨oA,on,oc,ol⟩⟩],pb)):=by show _=_;rw [HWS.out,if_neg hc,if_neg hc]
      clear hc HCB HWS e0 e1 e2 e3 e4 q3
      go_wp2_with fail
      go_meet
      exact ⟨m,A,c,L,pb,rfl,HWT,by show _≤_;omega,KB,HO,HGR⟩
    case rest =>
     clear KB HO HGR HM hMM e0 e1 e2 e3 e4 q3 HCB HWS
     obtain ⟨m,A,c,L9,pb9,rfl,HWT,HM,KB,HO,HGR⟩:=hcut
     obtain ⟨wq,hwe⟩:∃ W,W=wc:=⟨_,rfl⟩
     subst hwe
     have hMM:=HM.out
     have hS:Hid (∀ W,Below wq.heap.size wq W→W.cell? ⟨g5,3,none⟩=some (.slice A m c)∧W.cell? ⟨g7,3,none⟩=some (.slice (some ad) k2 k3)∧W.cell? (ad.add (k*5))=some (.string ⟨xp.toArray⟩)∧W.cell? ⟨(ad.add (k*5)).block,(ad.add (k*5)).off+1,none⟩=some (.string ⟨xo.toArray⟩)∧W.cell? ⟨(ad.add (k*5)).block,(ad.add (k*5)).off+2,none⟩=some (.slice bA bn bc)∧W.cell? ⟨(ad.add (k*5)).block,(ad.add (k*5)).off+3,none⟩=some (.slice zA zn zc)∧W.cell? ⟨(ad.add (k*5)).block,(ad.add (k*5)).off+4,none⟩=some (.slice oA on oc)):=fun W h=>⟨(KB.out.below h KB.out.lt).cell 3,(hSTEP.out W (grown_below HGR.out h)).2.2.2.1.cell 3,HEL.out W (grown_below HGR.out h)⟩
     have HSZQ:=Lib.hid (show w6.heap.size≤wq.heap.size from HGR.out.size)
     clear HEL
     go_upto_region 11 with (fail)
     refine wp_region_two 8 10 [9] tZ2 tZ2 tZ2 tZ4 tZ4 tZ4 [(fun v _=>v=.pointer (some ⟨g5,3,none⟩)),
       (fun v _=>v=.slice A m c),
       (fun v _=>v=.pointer (some ⟨g7,3,none⟩)),
       (fun v _=>v=.slice (some ad) k2 k3),
       (fun v _=>v=.int .i64 (k:Int)),
       (fun v _=>v=.pointer (some (ad.add (k*5)))),
       (fun v _=>v=.agg #[.string ⟨xp.toArray⟩,.string ⟨xo.toArray⟩,.slice bA bn bc,.slice zA zn zc,.slice oA on oc]),
       (fun v W=>∃ (A:Option Addr) (c:Nat),v=.slice A 1 c∧Reads W W.heap.size 5 A 1 [.string ⟨xp.toArray⟩,.string ⟨xo.toArray⟩,.slice bA bn bc,.slice zA zn zc,.slice oA on oc]),
       (fun _ _=>True),
       (fun v _=>v=.pointer (some ⟨g5,3,none⟩)),
       (fun _ _=>True)] ?_ (early2 tZ2) ?_ (fun W9 u W=>∃ A1 c1,u=.slice A1 (m+1) c1∧W.ownsRow w6.heap.size 56 5 u (m+1) (cellsK encSet L9++[.string ⟨xp.toArray⟩,.string ⟨xo.toArray⟩,.slice bA bn bc,.slice zA zn zc,.slice oA on oc])∧W9.grownBy W (Value.slice A m c).ownBlock) ?_ ?_ ?_
     ·repeat' (first | exact stays_nil | refine stays_cons ?_ ?_ | exact Stays.pure | exact (fun v W W' h hb=>let ⟨A,c,h1,h2⟩:=h;⟨A,c,h1,(h2.below hb).more hb.size⟩))
     ·intro i oo ho hiS hiL hil mf W hb0 hmi hcl hdeps AA KK hA hK
      rcases i with _ | _ | _ | _ | _ | _ | _ | _ | _ | _ | _ | i
      ·injection ho with ho;subst ho
       have ef5:AA.tmps[5]?.getD undef=.pointer (some ⟨g5,0,none⟩):=tF hA
       exact zP
      ·injection ho with ho;subst ho
       have e0:=eD hdeps hA 0 40
       exact mZ208
      ·injection ho with ho;subst ho
       have ef7:AA.tmps[7]?.getD undef=.pointer (some ⟨g7,0,none⟩):=tF hA
       exact zP
      ·injection ho with ho;subst ho
       have e2:=eD hdeps hA 2 42
       exact mZ208
      ·injection ho with ho;subst ho
       have ef8:AA.tmps[8]?.getD undef=.int .i64 (k:Int):=tF hA
       exact zP
      ·injection ho with ho;subst ho
       have e3:=eD hdeps hA 3 43
       have e4:=eD hdeps hA 4 44
       exact zP
      ·injection ho with ho;subst ho
       have e5:=eD hdeps hA 5 45
       exact mZ208
      ·injection ho with ho;subst ho
       have e6:=eD hdeps hA 6 46
       clear hA hdeps hcl hmi hiS hiL hil
       rw [if_pos (show Region.wanted _ _=true from rfl)]
       refine op_build_one 22 56 (.tmp 46) rfl [.string ⟨xp.toArray⟩,.string ⟨xo.toArray⟩,.slice bA bn bc,.slice zA zn zc,.slice oA on oc] (by simpa [Act.eval] using e6) i0 _ Tryz.underlying22 hy0 hy1 hy2 tZ3 tZ3 ?_
       exact hK _ _ ((Below.refl _ _).alloc (Nat.le_refl _) _) ⟨_,_,rfl,(Reads.lit W #[.string ⟨xp.toArray⟩,.string ⟨xo.toArray⟩,.slice bA bn bc,.slice zA zn zc,.slice oA on oc] 56 (n:=1) (size:=5) rfl).more tZ3⟩
      ·exact absurd rfl hiS
      ·exact absurd tZ4 hil
      ·exact absurd rfl hiL
      ·simp at ho
     ·intro i oo ho hiS hiL hil mf W9 W hb9 hmi hcl hdeps hRW AA KK hA hK
      rcases i with _ | _ | _ | _ | _ | _ | _ | _ | _ | _ | _ | i
      ·exact mZ207
      ·exact mZ207
      ·exact mZ207
      ·exact mZ207
      ·exact mZ207
      ·exact mZ207
      ·exact mZ207
      ·exact mZ207
      ·exact absurd rfl hiS
      ·injection ho with ho;subst ho
       have ef5:AA.tmps[5]?.getD undef=.pointer (some ⟨g5,0,none⟩):=tF hA
       exact zL
      ·exact absurd rfl hiL
      ·simp at ho
     ·intro oo ho mf W hb0 hmi hcl hdeps AA KK hA hK
      injection ho with ho;subst ho
      have e1:=eD hdeps hA 1 41
      obtain ⟨x7,hx7,hg7⟩:=hdeps ⟨7,.data⟩ tZ3 rfl
      have hg7:∃ (A:Option Addr) (c:Nat),x7=.slice A 1 c∧Reads W W.heap.size 5 A 1 [.string ⟨xp.toArray⟩,.string ⟨xo.toArray⟩,.slice bA bn bc,.slice zA zn zc,.slice oA on oc]:=hg7
      obtain ⟨A7,c7,rfl,hr7⟩:=hg7
      have e7:AA.tmps[47]?.getD undef=.slice A7 1 c7:=tO hA hx7
      clear hA hdeps hmi hcl
      have hown:=own_below HO.out hb0
      have hKK:=Lib.hid hK
      clear hK
      refine step_append_any W rfl (.tmp 41) (.tmp 47) 22 rfl w6.heap.size 56 i0 _ 5 104 Tryz.underlying22 hy0 hy1 hy2 hy3 rfl tZ4 (.slice A m c) m (cellsK encSet L9) ?_ hown W.heap.size A7 1 c7 [.string ⟨xp.toArray⟩,.string ⟨xo.toArray⟩,.slice bA bn bc,.slice zA zn zc,.slice oA on oc] ?_ hr7 tZ5 tZ11 tZ1 (by have:=hb0.size;have:=HSZQ.out;omega) ?_
      ·simpa [Act.eval] using e1
      ·simpa [Act.eval] using e7
      ·intro v' w' h1 h2 h3
       obtain ⟨v1,v3,rfl,_⟩:=own_form h1
       exact hKK.out _ _ ⟨v1,v3,rfl,h1,h2⟩
     ·intro oo ho mf W9 W uS hb9 hmi hall hSm hR AA KK hA hK
      injection ho with ho;subst ho
      have zm0:=dV (hall 0 tZ3 tZ4 tZ4)
      have zm1:=dV (hall 1 tZ3 tZ4 tZ4)
      have zm2:=dV (hall 2 tZ3 tZ4 tZ4)
      have zm3:=dV (hall 3 tZ3 tZ4 tZ4)
      have zm4:=dV (hall 4 tZ3 tZ4 tZ4)
      have zm5:=dV (hall 5 tZ3 tZ4 tZ4)
      have zm6:=dV (hall 6 tZ3 tZ4 tZ4)
      obtain ⟨x7,zm7,hg7⟩:=hall 7 tZ3 tZ4 tZ4
      have hg7:∃ (A:Option Addr) (c:Nat),x7=.slice A 1 c∧Reads W9 W9.heap.size 5 A 1 [.string ⟨xp.toArray⟩,.string ⟨xo.toArray⟩,.slice bA bn bc,.slice zA zn zc,.slice oA on oc]:=hg7
      obtain ⟨A7,c7,rfl,hr7⟩:=hg7
      have zm9:=dV (hall 9 tZ3 tZ4 tZ4)
      obtain ⟨v1,v3,rfl,hv,hg⟩:=hR
      have e8:AA.tmps[48]?.getD undef=.slice v1 (m+1) v3:=tO hA hSm
      have e9:AA.tmps[49]?.getD undef=.pointer (some ⟨g5,3,none⟩):=tO hA zm9
      have ho9:=own_below HO.out hb9
      have kb9:=(KB.out.below hb9 KB.out.lt).grown hg (fun hh=>own_blk_ne ho9 (KB.out.below hb9 KB.out.lt) tZ4 hh.symm)
      have hgr9:=grown_new (grown_below HGR.out hb9) hg (fun g hgg=>(ho9.lt g hgg).1)
      have HKN:=Lib.hid (kb9.set_ 3 (.slice v1 (m+1) v3))
      have HON:Hid ((W.setCell ⟨g5,3,none⟩ (.slice v1 (m+1) v3)).ownsRow w6.heap.size 56 5 (.slice v1 (m+1) v3) (m+1) (cellsK encSet (L9++[⟨xp,xo,⟨bA,bn,bc,bl⟩,⟨zA,zn,zc,zl⟩,⟨oA,on,oc,ol⟩⟩]))):=by
       show World.ownsRow _ _ _ _ _ _ _
       rw [cellsK_append,cellsK_one]
       exact own_setCell_below hv (p:=⟨g5,3,none⟩) tZ90 (.slice v1 (m+1) v3)
      have HGN:=Lib.hid (grown_tr hgr9 (grown_box W g5 3 (.slice v1 (m+1) v3)))
      have gz3:=kb9.cell 3
      simp only [zF,zD,zE] at gz3
      have hz3:=kb9.frozen 3
      clear ho9 kb9 hgr9 hv hg hb9
      have hK0:=hK (undef) (W.setCell ⟨g5,3,none⟩ (.slice v1 (m+1) v3))
      clear hA hK hall hmi
      go_simp
      refine hK0 ?_
      clear hK0 e8 e9
      rw [frameM_all tZ2 [.pointer (some ⟨g5,3,none⟩),.slice A m c,.pointer (some ⟨g7,3,none⟩),.slice (some ad) k2 k3,.int .i64 (k:Int),.pointer (some (ad.add (k*5))),.agg #[.string ⟨xp.toArray⟩,.string ⟨xo.toArray⟩,.slice bA bn bc,.slice zA zn zc,.slice oA on oc],.slice A7 1 c7,.slice v1 (m+1) v3,.pointer (some ⟨g5,3,none⟩),undef] rfl (fun i hi=>by rcases i with _ | _ | _ | _ | _ | _ | _ | _ | _ | _ | _ | i <;> first | (rw [upd_self];rfl) | (rw [upd_ne _ _ tZ4];assumption) | (simp at hi;omega))]
      clear hSm zm0 zm1 zm2 zm3 zm4 zm5 zm6 zm7 zm9
      simp only [putAll,Act.put,List.setIfInBounds_toArray,zC,zB]
      go_wp2_with fail
      go_roundw
      case rel=>exact ⟨k+1,m+1,v1,v3,L9++[⟨xp,xo,⟨bA,bn,bc,bl⟩,⟨zA,zn,zc,zl⟩,⟨oA,on,oc,ol⟩⟩],pb9,by omega,by go_num,rfl,HWT,by show _≤_;omega,HKN,HON,HGN⟩
      case measure=>simp [intOf];omega
  ·obtain rfl:k=k2:=tZ1
   have HQR:Hid (wRun S0 kl=(L,pb)):=by show _=_;rw [← HQ.out,HKL.out,List.take_length]
   have hMM:=HM.out
   clear HQ hzo hoo hss hk7 hkz5 hbw
   cases pb with
   | true =>
    have HQF:Hid (wEnd S0 (wRun S0 kl)=L):=by show _=_;rw [HQR.out];rfl
    have hml:m=L.length:=by
     have h:=HO.out.1
     rw [cellsK_length (k:=5) (fun _=>rfl)] at h
     omega
    clear hks5
    obtain ⟨hzo,hoo,hss,-,-,hkz5,hbw⟩:=hSTEP.out wo HGR.out
    have hLL:L=kl.take (posF (fun x:SetR=>cmpS x.path S0.path) kl)++[S0]++kl.drop (posF (fun x:SetR=>cmpS x.path S0.path) kl):=by
     rw [← wRun_end,HQF.out]
    have hmem:∀ z∈L,z=S0∨z∈kl:=fun z hz=>wEnd_mem S0 kl z (by rw [HQF.out];exact hz)
    have hcon:TenR.con ⟨mm,mq,mx,⟨A,m,c,L⟩,⟨n1,n2,n3,nl⟩,⟨p1,p2,p3,pl⟩,⟨lA,lN,lC,lL⟩⟩=C.withS sc:=by
     have h:=con_withS ⟨km,kq,kx,⟨k1,k,k3,kl⟩,⟨j1,j2,j3,jl⟩,⟨i1,i2,i3,il⟩,⟨h1,h2,h3,hl⟩⟩ S0 A m c
     have hcc:TenR.con ⟨mm,mq,mx,⟨m1,m2,m3,ml⟩,⟨n1,n2,n3,nl⟩,⟨p1,p2,p3,pl⟩,⟨lA,lN,lC,lL⟩⟩=TenR.con ⟨km,kq,kx,⟨k1,k,k3,kl⟩,⟨j1,j2,j3,jl⟩,⟨i1,i2,i3,il⟩,⟨h1,h2,h3,hl⟩⟩:=HEY.out.symm.trans HEZ.out
     simp only [TenR.con,TenC.mk.injEq] at hcc
     obtain ⟨z1,z2,z3,-,z5,z6,z7⟩:=hcc
     rw [hHC.out,HEZ.out,← HSC.out,← h]
     show TenC.mk mm mq mx (List.map SetR.con L) nl (pl.map StageR.con) lL=TenC.mk km kq kx (List.map SetR.con _) jl (il.map StageR.con) hl
     rw [z1,z2,z3,z5,z6,z7,hLL]
    have hten:TenO wo base ⟨mm,mq,mx,⟨A,m,c,L⟩,⟨n1,n2,n3,nl⟩,⟨p1,p2,p3,pl⟩,⟨lA,lN,lC,lL⟩⟩:=⟨⟨hml,own_mono HO.out tZ63⟩,fun z hz=>by
     rcases hmem z hz with rfl | hz
     ·exact hss
     ·exact (hzo.eachS z hz).mono tZ93,hoo.grants.mono tZ19,hoo.stages.mono tZ19,fun y hy=>(hoo.eachG y hy).mono tZ19,hoo.log.mono tZ19⟩
    have HTEN:=Lib.hid hten
    have HCONF:=Lib.hid hcon
    have KZ:=Lib.hid hkz5
    have HB:=Lib.hid (hBW.out wo hbw)
    clear hzo hoo hss hkz5 hbw hLL hmem hcon hten
    have HC:Hid (∀ j v,([.string ⟨mm.toArray⟩,.int .i64 mq,.int .i64 mx,.slice A m c,.slice n1 n2 n3,.slice p1 p2 p3,.slice lA lN lC]:List Value)[j]?=some v→wo.cell? ((⟨g5,0,none⟩:Addr).add j)=some v):=fun j v hv=>by rw [addr_add0,KB.out.cell j,zF];exact hv
    obtain ⟨WR,hW4,hth,HL,HBW,hgw⟩:=res7 (g:=(w.heap.size+1+1)) [.string ⟨mm.toArray⟩,.int .i64 mq,.int .i64 mx,.slice A m c,.slice n1 n2 n3,.slice p1 p2 p3,.slice lA lN lC] KZ.out HB.out tZ1
    have HOO:=Lib.hid (TenO.keptT HTEN.out hgw KZ.out offT_ten)
    clear hgw
    go_wp2_with (first | (refine wpList_load_at rfl 27 (.tmp 5) rfl ⟨g5,0,none⟩ rfl [.string ⟨mm.toArray⟩,.int .i64 mq,.int .i64 mx,.slice A m c,.slice n1 n2 n3,.slice p1 p2 p3,.slice lA lN lC] _ HC.out Tryz.underlying27 rfl tZ2 ?_) | (refine wpList_store_mid rfl 27 (.tmp 4) (.tmp 58) rfl ((w.heap.size+1+1)) 0 #[.string ⟨mm.toArray⟩,.int .i64 mq,.int .i64 mx,.slice A m c,.slice n1 n2 n3,.slice p1 p2 p3,.slice lA lN lC] rfl rfl hth.out tZ2 tZ5 ?_;rw [← hW4];clear hW4))
    exact bodyPost_ret (v:=.agg #[.string ⟨mm.toArray⟩,.int .i64 mq,.int .i64 mx,.slice A m c,.slice n1 n2 n3,.slice p1 p2 p3,.slice lA lN lC]) (results_cell rfl rfl HL.out) rfl ⟨⟨mm,mq,mx,⟨A,m,c,L⟩,⟨n1,n2,n3,nl⟩,⟨p1,p2,p3,pl⟩,⟨lA,lN,lC,lL⟩⟩,rfl,HOO.out,HCONF.out,HBW.out⟩
   | false =>
    have q3:=KB.out.cell 3
    obtain ⟨e0,e1,e2,e3,e4⟩:=(⟨hks5.cell 0,hks5.cell 1,hks5.cell 2,hks5.cell 3,hks5.cell 4⟩:_∧_∧_∧_∧_)
    simp only [zF,zD,zE] at e0 e1 e2 e3 e4 q3
    clear hks5
    go_upto_region 14 with (at_builtin;(refine wpList_push wo rfl (.tmp 53) (.tmp 55) _ rfl w6.heap.size 56 i0 _ 5 104 Tryz.underlying22 hy0 hy1 hy2 hy3 rfl tZ1 (.slice A m c) m _ rfl HO.out 1 #[.string ⟨sp.toArray⟩,.string ⟨so.toArray⟩,.slice v1 v2 v3,.slice v4 v5 v6,.slice v7 v8 v9] _ rfl rfl tZ5 tZ11 tZ1 HGR.out.size ?_);intro v5 w5 ho5 hb5 hg5;obtain ⟨A5,cc5,rfl,_⟩:=own_form ho5;have kb5:=KB.out.grown hg5 (fun hh=>own_blk_ne HO.out KB.out tZ4 hh.symm);have hgr5:=grown_new HGR.out hg5 (fun g hg=>(HO.out.lt g hg).1);have HKN:=Lib.hid (kb5.set_ 3 (.slice A5 (m+1) cc5));have HON:=Lib.hid (own_setCell_below ho5 (p:=⟨g5,3,none⟩) tZ90 (.slice A5 (m+1) cc5));have HGN:=Lib.hid (grown_tr hgr5 (grown_box w5 g5 3 (.slice A5 (m+1) cc5)));have gz3:=kb5.cell 3;simp only [zF,zD,zE] at gz3;have hz3:=kb5.frozen 3;clear ho5 hb5 hg5 kb5 hgr5)
    have HOX:Hid ((w5.setCell ⟨g5,3,none⟩ (.slice A5 (m+1) cc5)).ownsRow w6.heap.size 56 5 (.slice A5 (m+1) cc5) (m+1) (cellsK encSet (L++[S0]))):=by
     exact mZ206
    obtain ⟨wl,hwl⟩:∃ W,W=(w5.setCell ⟨g5,3,none⟩ (.slice A5 (m+1) cc5)):=⟨_,rfl⟩
    rw [← hwl] at HKN HOX HGN ⊢
    clear hwl gz3 hz3 e0 e1 e2 e3 e4 q3 d3
    have HKX:Hid (Blk wl g5 27 #[.string ⟨mm.toArray⟩,.int .i64 mq,.int .i64 mx,.slice A5 (m+1) cc5,.slice n1 n2 n3,.slice p1 p2 p3,.slice lA lN lC]):=HKN.out
    have HQF:Hid (wEnd S0 (wRun S0 kl)=L++[S0]):=by show _=_;rw [HQR.out];rfl
    have hml:m+1=(L++[S0]).length:=by
     have h:=HOX.out.1
     rw [cellsK_length (k:=5) (fun _=>rfl)] at h
     omega
    obtain ⟨hzo,hoo,hss,-,-,hkz5,hbw⟩:=hSTEP.out wl HGN.out
    have hLL:(L++[S0])=kl.take (posF (fun x:SetR=>cmpS x.path S0.path) kl)++[S0]++kl.drop (posF (fun x:SetR=>cmpS x.path S0.path) kl):=by
     rw [← wRun_end,HQF.out]
    have hmem:∀ z∈(L++[S0]),z=S0∨z∈kl:=fun z hz=>wEnd_mem S0 kl z (by rw [HQF.out];exact hz)
    have hcon:TenR.con ⟨mm,mq,mx,⟨A5,m+1,cc5,(L++[S0])⟩,⟨n1,n2,n3,nl⟩,⟨p1,p2,p3,pl⟩,⟨lA,lN,lC,lL⟩⟩=C.withS sc:=by
     have h:=con_withS ⟨km,kq,kx,⟨k1,k,k3,kl⟩,⟨j1,j2,j3,jl⟩,⟨i1,i2,i3,il⟩,⟨h1,h2,h3,hl⟩⟩ S0 A5 (m+1) cc5
     have hcc:TenR.con ⟨mm,mq,mx,⟨m1,m2,m3,ml⟩,⟨n1,n2,n3,nl⟩,⟨p1,p2,p3,pl⟩,⟨lA,lN,lC,lL⟩⟩=TenR.con ⟨km,kq,kx,⟨k1,k,k3,kl⟩,⟨j1,j2,j3,jl⟩,⟨i1,i2,i3,il⟩,⟨h1,h2,h3,hl⟩⟩:=HEY.out.symm.trans HEZ.out
     simp only [TenR.con,TenC.mk.injEq] at hcc
     obtain ⟨z1,z2,z3,-,z5,z6,z7⟩:=hcc
     rw [hHC.out,HEZ.out,← HSC.out,← h]
     show TenC.mk mm mq mx (List.map SetR.con (L++[S0])) nl (pl.map StageR.con) lL=TenC.mk km kq kx (List.map SetR.con _) jl (il.map StageR.con) hl
     rw [z1,z2,z3,z5,z6,z7,hLL]
    have hten:TenO wl base ⟨mm,mq,mx,⟨A5,m+1,cc5,(L++[S0])⟩,⟨n1,n2,n3,nl⟩,⟨p1,p2,p3,pl⟩,⟨lA,lN,lC,lL⟩⟩:=⟨⟨hml,own_mono HOX.out tZ63⟩,fun z hz=>by
     rcases hmem z hz with rfl | hz
     ·exact hss
     ·exact (hzo.eachS z hz).mono tZ93,hoo.grants.mono tZ19,hoo.stages.mono tZ19,fun y hy=>(hoo.eachG y hy).mono tZ19,hoo.log.mono tZ19⟩
    have HTEN:=Lib.hid hten
    have HCONF:=Lib.hid hcon
    have KZ:=Lib.hid hkz5
    have HB:=Lib.hid (hBW.out wl hbw)
    clear hzo hoo hss hkz5 hbw hLL hmem hcon hten
    have HC:Hid (∀ j v,([.string ⟨mm.toArray⟩,.int .i64 mq,.int .i64 mx,.slice A5 (m+1) cc5,.slice n1 n2 n3,.slice p1 p2 p3,.slice lA lN lC]:List Value)[j]?=some v→wl.cell? ((⟨g5,0,none⟩:Addr).add j)=some v):=fun j v hv=>by rw [addr_add0,HKX.out.cell j,zF];exact hv
    obtain ⟨WR,hW4,hth,HL,HBW,hgw⟩:=res7 (g:=(w.heap.size+1+1)) [.string ⟨mm.toArray⟩,.int .i64 mq,.int .i64 mx,.slice A5 (m+1) cc5,.slice n1 n2 n3,.slice p1 p2 p3,.slice lA lN lC] KZ.out HB.out tZ1
    have HOO:=Lib.hid (TenO.keptT HTEN.out hgw KZ.out offT_ten)
    clear hgw
    go_wp2_with (first | (refine wpList_load_at rfl 27 (.tmp 5) rfl ⟨g5,0,none⟩ rfl [.string ⟨mm.toArray⟩,.int .i64 mq,.int .i64 mx,.slice A5 (m+1) cc5,.slice n1 n2 n3,.slice p1 p2 p3,.slice lA lN lC] _ HC.out Tryz.underlying27 rfl tZ2 ?_) | (refine wpList_store_mid rfl 27 (.tmp 4) (.tmp 58) rfl ((w.heap.size+1+1)) 0 #[.string ⟨mm.toArray⟩,.int .i64 mq,.int .i64 mx,.slice A5 (m+1) cc5,.slice n1 n2 n3,.slice p1 p2 p3,.slice lA lN lC] rfl rfl hth.out tZ2 tZ5 ?_;rw [← hW4];clear hW4))
    exact bodyPost_ret (v:=.agg #[.string ⟨mm.toArray⟩,.int .i64 mq,.int .i64 mx,.slice A5 (m+1) cc5,.slice n1 n2 n3,.slice p1 p2 p3,.slice lA lN lC]) (results_cell rfl rfl HL.out) rfl ⟨⟨mm,mq,mx,⟨A5,m+1,cc5,(L++[S0])⟩,⟨n1,n2,n3,nl⟩,⟨p1,p2,p3,pl⟩,⟨lA,lN,lC,lL⟩⟩,rfl,HOO.out,HCONF.out,HBW.out⟩
end Go.Proofs.YtiojfffgiejibaaGreatDoor
