/-
  The page's Settle and Create.
-/
import Derived.Test.YtiojfffgiejibaaGreatDoorQsM1
import Derived.WalkKit
import Derived.WalkSpells
import Derived.Below
import Derived.Laws.OwnMore
import Derived.Deep.AppendLies
import Derived.Deep.Draws
import Derived.Laws.Rows
import Derived.Maps.AppendAt
import Derived.RegionTactic
import Derived.OwnWalk
import Derived.Deep.QuietTactic
import Derived.BigQuiet
import Derived.Lib.Hide
import Derived.Laws.CopyOwn
import Derived.IntWalk
import Derived.Test.YtiojfffgiejibaaGreatDoorRows
import Derived.Handy
import Derived.Deep.Quiet
import Derived.ProofKit
import Derived.OpenShut
import Derived.ShutString
import Derived.ChangeOld
import Derived.Carry
import Derived.SizedLaws
import Derived.JoinedCond
import Derived.Deep.CondSized
import Derived.Deep.Slices
import Derived.Deep.Fields
import Derived.Lib.SmallJoins
import Derived.Orders
import Derived.Lib.SplitLaws
import Derived.Lib.LastIndexByte
import Derived.Lib.Strings
import Derived.Sort.Walk0
import Derived.Sort.KeysCollected
import Derived.Deep.MidRow
import Derived.Deep.RegionLaw
import Derived.Lib.AppendZeros
import Derived.Shelf.Strings.Search1
import Derived.Shelf.Strings.Search2
import Derived.Shelf.Strings.Search3
import Derived.Shelf.Strings.Cut
import Derived.Shelf.Strings.Count
import Derived.Shelf.LaysM
import Derived.Shelf.Strings.Shaped
import Derived.Shelf.Strings.LastIndex
import Derived.Shelf.Strings.Split
import Derived.Shelf.Strings.SplitShaped
import Derived.Shelf.Unicode.Decode
import Derived.Shelf.Strings.RuneCount
import Derived.Shelf.Strings.Explode
import Derived.Shelf.Unicode.DecodeSlow
import Derived.Shelf.Slices.Turned
import Derived.Test.YtiojfffgiejibaaGreatDoorProg
import Derived.Lib.Overlaps
import Derived.Lib.AppendZerosOnto
import Derived.Laws.BytesString
import Derived.Laws.IdiomStrings
import Derived.Lib.ConvBytes
import Derived.Deep.DeepCutAuto
import Derived.Great.BuildSlice
import Derived.Test.YtiojfffgiejibaaGreatDoorQ0
import Derived.Test.YtiojfffgiejibaaGreatDoorQs1
import Derived.Test.YtiojfffgiejibaaGreatDoorQs2
import Derived.Test.YtiojfffgiejibaaGreatDoorQs5
import Derived.Test.YtiojfffgiejibaaGreatDoorQs7
import Derived.Test.YtiojfffgiejibaaGreatDoorQs10
import Derived.Test.YtiojfffgiejibaaGreatDoorQs15
import Derived.Test.YtiojfffgiejibaaGreatDoorQs16
import Derived.Test.YtiojfffgiejibaaGreatDoorQs19
import Derived.Test.YtiojfffgiejibaaGreatDoorQs20
import Derived.Test.YtiojfffgiejibaaGreatDoorQs21
import Derived.Test.YtiojfffgiejibaaGreatDoorQs22
import Derived.Test.YtiojfffgiejibaaGreatDoorQs26
import Derived.Test.YtiojfffgiejibaaGreatDoorQs27
import Derived.Test.YtiojfffgiejibaaGreatDoorQs29
import Derived.Test.YtiojfffgiejibaaGreatDoorQs30
import Derived.Test.YtiojfffgiejibaaGreatDoorQs33
import Derived.Test.YtiojfffgiejibaaGreatDoorQs35
import Derived.Test.YtiojfffgiejibaaGreatDoorQs36
import Derived.Test.YtiojfffgiejibaaGreatDoorQs37
import Derived.Test.YtiojfffgiejibaaGreatDoorQs38
import Derived.Test.YtiojfffgiejibaaGreatDoorQs41
namespace Go.Proofs.YtiojfffgiejibaaGreatDoor
open Go.RowKit
set_option maxRecDepth 100000 in
set_option maxHeartbeats 8000000 in
theorem rsettle_any (t:TenR) (w:World) (B:Nat) (hB:B≤w.heap.size) (hr:t.rd w B) (hz:t.sz) (hst:t.stages.n≤500000000000) :
  Calls Tryz.prog 12 #[t.val] w (TenPost w t.con.settle):=by
 obtain ⟨V,hV⟩:∃ V,V=t.con.settle:=⟨_,rfl⟩
 have hVe:V=if t.con.E=9 then (9,t.con) else if t.con.quota<(t.con.charge:Int) then (42,t.con) else (0,t.con):=hV
 rw [← hV]
 have h2:=t.con.E_two
 have hCe:=tenE_con t
 have hcz:=TenC.sz_of hr hz
 obtain ⟨nm,qu,nx,⟨s1,sn,s3,sl⟩,⟨gA,gN,gC,gL⟩,⟨t1,tn,t3,tl⟩,⟨l1,ln,l3,ll⟩⟩:=t
 show Calls Tryz.prog 12 #[.agg #[.string ⟨nm.toArray⟩,.int .i64 qu,.int .i64 nx,.slice s1 sn s3,.slice gA gN gC,.slice t1 tn t3,.slice l1 ln l3]] w _
 have hb:=(((Below.refl w.heap.size w).alloc (Nat.le_refl _) (.cells #[.string ⟨nm.toArray⟩,.int .i64 qu,.int .i64 nx,.slice s1 sn s3,.slice gA gN gC,.slice t1 tn t3,.slice l1 ln l3] 27)).alloc tZ3 (.cells #[.string ⟨#[]⟩,.int .i64 0,.int .i64 0,.slice none 0 0,.slice none 0 0,.slice none 0 0,.slice none 0 0] 27))
 have kt:=Blk.new w 27 #[.string ⟨nm.toArray⟩,.int .i64 qu,.int .i64 nx,.slice s1 sn s3,.slice gA gN gC,.slice t1 tn t3,.slice l1 ln l3]
 replace kt:=kt.alloc (.cells #[.string ⟨#[]⟩,.int .i64 0,.int .i64 0,.slice none 0 0,.slice none 0 0,.slice none 0 0,.slice none 0 0] 27)
 have kz:=Blk.new (w.alloc (.cells #[.string ⟨nm.toArray⟩,.int .i64 qu,.int .i64 nx,.slice s1 sn s3,.slice gA gN gC,.slice t1 tn t3,.slice l1 ln l3] 27)) 27 #[.string ⟨#[]⟩,.int .i64 0,.int .i64 0,.slice none 0 0,.slice none 0 0,.slice none 0 0,.slice none 0 0]
 rw [show (w.alloc (.cells #[.string ⟨nm.toArray⟩,.int .i64 qu,.int .i64 nx,.slice s1 sn s3,.slice gA gN gC,.slice t1 tn t3,.slice l1 ln l3] 27)).heap.size=w.heap.size+1 by simp] at kz
 have hsz:((w.alloc (.cells #[.string ⟨nm.toArray⟩,.int .i64 qu,.int .i64 nx,.slice s1 sn s3,.slice gA gN gC,.slice t1 tn t3,.slice l1 ln l3] 27)).alloc (.cells #[.string ⟨#[]⟩,.int .i64 0,.int .i64 0,.slice none 0 0,.slice none 0 0,.slice none 0 0,.slice none 0 0] 27)).heap.size=w.heap.size+2:=tZ3
 obtain ⟨W1,hW1⟩:∃ W,W=((w.alloc (.cells #[.string ⟨nm.toArray⟩,.int .i64 qu,.int .i64 nx,.slice s1 sn s3,.slice gA gN gC,.slice t1 tn t3,.slice l1 ln l3] 27)).alloc (.cells #[.string ⟨#[]⟩,.int .i64 0,.int .i64 0,.slice none 0 0,.slice none 0 0,.slice none 0 0,.slice none 0 0] 27)):=⟨_,rfl⟩
 rw [← hW1] at hb hsz kt kz
 have hKt:Hid (∀ W,Below W1.heap.size W1 W→Blk W w.heap.size 27 #[.string ⟨nm.toArray⟩,.int .i64 qu,.int .i64 nx,.slice s1 sn s3,.slice gA gN gC,.slice t1 tn t3,.slice l1 ln l3]):=fun W h=>kt.below h tZ1
 have hKz:Hid (∀ W,Below W1.heap.size W1 W→Blk W (w.heap.size+1) 27 #[.string ⟨#[]⟩,.int .i64 0,.int .i64 0,.slice none 0 0,.slice none 0 0,.slice none 0 0,.slice none 0 0]):=fun W h=>kz.below h tZ1
 have hBW:Hid (∀ W,Below W1.heap.size W1 W→Below w.heap.size w W):=fun W h=>hb.trans (h.mono tZ1)
 have hSZ:Hid (∀ W,Below W1.heap.size W1 W→w.heap.size+2≤W.heap.size):=fun W h=>by have:=h.size;omega
 have hW0:Hid (Below W1.heap.size W1 W1):=Below.refl _ _
 have hrw:Hid (∀ W,Below W1.heap.size W1 W→TenR.rd W B ⟨nm,qu,nx,⟨s1,sn,s3,sl⟩,⟨gA,gN,gC,gL⟩,⟨t1,tn,t3,tl⟩,⟨l1,ln,l3,ll⟩⟩∧B≤W.heap.size):=fun W h =>
  ⟨TenR.rd.below hr ((hBW.out W h).mono hB),by have:=hSZ.out W h;omega⟩
 obtain ⟨C,hC⟩:∃ C,C=TenR.con ⟨nm,qu,nx,⟨s1,sn,s3,sl⟩,⟨gA,gN,gC,gL⟩,⟨t1,tn,t3,tl⟩,⟨l1,ln,l3,ll⟩⟩:=⟨_,rfl⟩
 rw [← hC] at hVe h2 hcz
 have hCK:Hid (∀ W,Below W1.heap.size W1 W→Calls Tryz.prog 60 #[.agg #[.string ⟨nm.toArray⟩,.int .i64 qu,.int .i64 nx,.slice s1 sn s3,.slice gA gN gC,.slice t1 tn t3,.slice l1 ln l3]] W fun e w'=>e=.returned (.int .i64 C.E)∧Below W.heap.size W w'):=fun W h=>by
  rw [hC,← hCe]
  exact rcheck14_any ⟨nm,qu,nx,⟨s1,sn,s3,sl⟩,⟨gA,gN,gC,gL⟩,⟨t1,tn,t3,tl⟩,⟨l1,ln,l3,ll⟩⟩ W B (hrw.out W h).1 (hrw.out W h).2 hz
 have hCP:Hid (∀ W,Below W1.heap.size W1 W→Calls Tryz.prog 17 #[.agg #[.string ⟨nm.toArray⟩,.int .i64 qu,.int .i64 nx,.slice s1 sn s3,.slice gA gN gC,.slice t1 tn t3,.slice l1 ln l3]] W fun e w'=>∃ y:TenR,e=.returned y.val∧TenO w' W.heap.size y∧TenR.eqv ⟨nm,qu,nx,⟨s1,sn,s3,sl⟩,⟨gA,gN,gC,gL⟩,⟨t1,tn,t3,tl⟩,⟨l1,ln,l3,ll⟩⟩ y∧y.sets.l.Pairwise ApartS∧Below W.heap.size W w'):=fun W h =>
  own14A_any nm qu nx s1 sn s3 sl gA gN gC gL t1 tn t3 tl l1 ln l3 ll W B (hrw.out W h).2 (hrw.out W h).1 hz hst
 have hHC:=Lib.hid hC
 obtain ⟨E,hE⟩:∃ E,E=C.E:=⟨_,rfl⟩
 have HE:=Lib.hid hE
 rw [← hE] at hVe h2 hCK
 have HV:=Lib.hid hVe
 have HCZ:=Lib.hid hcz
 clear hb hsz kt kz hr hz hst hV hVe hCe hC hE hcz
 go_enter Tryz.func12,Tryz.ntmps12
 have hc:=hCK.out  W1 hW0.out
 have kk:=hKt.out W1 hW0.out
 obtain ⟨c0,c1,c2,c3,c4,c5,c6⟩:=(⟨kk.cell 0,kk.cell 1,kk.cell 2,kk.cell 3,kk.cell 4,kk.cell 5,kk.cell 6⟩:_∧_∧_∧_∧_∧_∧_)
 simp only [zF,zD,zE] at c0 c1 c2 c3 c4 c5 c6
 clear kk
 go_wp2_with fail
 rw [← hW1]
 clear hW1
 refine hc.mono ?_
 clear hc c0 c1 c2 c3 c4 c5 c6
 rintro e w2 ⟨rfl,hb⟩
 have HW2:=Lib.hid (hW0.out.trans (hb.mono hW0.out.size))
 clear hb
 rcases h2 with rfl | rfl
 ·have HXS:=Lib.hid (HV.out.trans (if_neg tZ4))
  clear HV
  have hc:=hCP.out w2 HW2.out
  have kk:=hKt.out w2 HW2.out
  obtain ⟨c0,c1,c2,c3,c4,c5,c6⟩:=(⟨kk.cell 0,kk.cell 1,kk.cell 2,kk.cell 3,kk.cell 4,kk.cell 5,kk.cell 6⟩:_∧_∧_∧_∧_∧_∧_)
  simp only [zF,zD,zE] at c0 c1 c2 c3 c4 c5 c6
  clear kk
  go_wp2_with fail
  refine hc.mono ?_
  clear hc c0 c1 c2 c3 c4 c5 c6
  rintro e w3 ⟨y,rfl,hoy,hey,-,hb⟩
  have HW3:=Lib.hid (HW2.out.trans (hb.mono HW2.out.size))
  have hcy:y.con=C:=by rw [hHC.out];exact ((TenR.eqv_iff _ _).1 hey).symm
  have hsy:y.sz:=TenR.sz_of hoy.rd (by rw [hcy];exact HCZ.out)
  have hEy:tenE y=0:=by rw [tenE_con,hcy];exact HE.out.symm
  replace hoy:=hoy.mono (base':=w.heap.size) (by have:=hSZ.out w2 HW2.out;omega)
  clear hb hey
  have hc:=rsettled_any y w3 w.heap.size hoy hsy hEy
  rw [hcy] at hc
  have HOY:=Lib.hid hoy
  have HCY:=Lib.hid hcy
  clear hoy hcy hsy hEy
  obtain ⟨QU,hQU⟩:∃ q:Int,q=(C).quota:=⟨_,rfl⟩
  obtain ⟨CH,hCH⟩:∃ q:Int,q=((C).charge:Int):=⟨_,rfl⟩
  rw [← hQU,← hCH] at hc HXS
  clear hQU hCH
  obtain ⟨mm,mq,mx,⟨m1,m2,m3,ml⟩,⟨n1,n2,n3,nl⟩,⟨p1,p2,p3,pl⟩,⟨q1,q2,q3,ql⟩⟩:=y
  simp only [TenR.val,TenR.cells,FS.val,strV] at hc ⊢
  go_wp2_with fail
  refine hc.mono ?_
  clear hc
  rintro e w4 ⟨hb,⟨hq,rfl⟩ | ⟨hq,rfl⟩⟩
  ·have HW4:=Lib.hid (HW3.out.trans (hb.mono HW3.out.size))
   have HX:=Lib.hid (HXS.out.trans (if_pos hq))
   clear hb HXS hq
   unfold ZEROT
   have KZ:=Lib.hid (hKz.out w4 HW4.out)
   have HB:=Lib.hid (hBW.out w4 HW4.out)
   obtain ⟨WR,hW4,hth,HL,HBW,hgw⟩:=res7 (g:=(w.heap.size+1)) [.string ⟨#[]⟩,.int .i64 0,.int .i64 0,.slice none 0 0,.slice none 0 0,.slice none 0 0,.slice none 0 0] KZ.out HB.out tZ1
   clear hgw
   go_wp2_with (refine wpList_store_mid rfl 27 (.tmp 2) (.tmp 11) rfl ((w.heap.size+1)) 0 #[.string ⟨#[]⟩,.int .i64 0,.int .i64 0,.slice none 0 0,.slice none 0 0,.slice none 0 0,.slice none 0 0] rfl rfl hth.out tZ2 tZ5 ?_;rw [← hW4];clear hW4)
   exact mZ223
  ·have HW4:=Lib.hid (HW3.out.trans (hb.mono HW3.out.size))
   have HX:=Lib.hid (HXS.out.trans (if_neg hq))
   have HO:=Lib.hid (HOY.out.below hb)
   clear hb HXS hq HOY
   have KZ:=Lib.hid (hKz.out w4 HW4.out)
   have HB:=Lib.hid (hBW.out w4 HW4.out)
   obtain ⟨WR,hW4,hth,HL,HBW,hgw⟩:=res7 (g:=(w.heap.size+1)) [.string ⟨mm.toArray⟩,.int .i64 mq,.int .i64 mx,.slice m1 m2 m3,.slice n1 n2 n3,.slice p1 p2 p3,.slice q1 q2 q3] KZ.out HB.out tZ1
   have HOO:=Lib.hid (TenO.keptT HO.out hgw KZ.out offT_ten)
   clear hgw
   go_wp2_with (refine wpList_store_mid rfl 27 (.tmp 2) (.tmp 11) rfl ((w.heap.size+1)) 0 #[.string ⟨mm.toArray⟩,.int .i64 mq,.int .i64 mx,.slice m1 m2 m3,.slice n1 n2 n3,.slice p1 p2 p3,.slice q1 q2 q3] rfl rfl hth.out tZ2 tZ5 ?_;rw [← hW4];clear hW4)
   exact mZ222
 ·have HX:=Lib.hid (HV.out.trans (if_pos rfl))
  clear HV HE
  have KZ:=Lib.hid (hKz.out w2 HW2.out)
  have HB:=Lib.hid (hBW.out w2 HW2.out)
  obtain ⟨WR,hW4,hth,HL,HBW,hgw⟩:=res7 (g:=(w.heap.size+1)) [.string ⟨#[]⟩,.int .i64 0,.int .i64 0,.slice none 0 0,.slice none 0 0,.slice none 0 0,.slice none 0 0] KZ.out HB.out tZ1
  clear hgw
  go_wp2_with (refine wpList_store_mid rfl 27 (.tmp 2) (.tmp 7) rfl ((w.heap.size+1)) 0 #[.string ⟨#[]⟩,.int .i64 0,.int .i64 0,.slice none 0 0,.slice none 0 0,.slice none 0 0,.slice none 0 0] rfl rfl hth.out tZ2 tZ5 ?_;rw [← hW4];clear hW4)
  exact mZ164
theorem create_room (c:TenC) (p:BS):c.create p=if c.ask p≠0 then (c.ask p,c) else if c.room p≠0 then (c.room p,c) else (c.withS (set0C p)).settle:=by
 unfold TenC.create TenC.room
 by_cases h1:c.ask p≠0
 ·simp only [if_pos h1]
 ·simp only [if_neg h1]
  by_cases h2:0≤c.find p
  ·simp only [if_pos h2];simp
  ·simp only [if_neg h2]
   by_cases h3:c.find (upL p)<0
   ·simp only [if_pos h3];simp
   ·simp only [if_neg h3]
    by_cases h4:c.sets.length=32
    ·simp only [if_pos h4];simp
    ·simp only [if_neg h4];simp
theorem room_zero (c:TenC) (p:BS) (h:c.room p=0):¬ 0≤c.find p∧¬ c.find (upL p)<0∧c.sets.length≠32:=by
 unfold TenC.room at h
 by_cases h2:0≤c.find p
 ·rw [if_pos h2] at h;cases h
 ·rw [if_neg h2] at h
  by_cases h3:c.find (upL p)<0
  ·rw [if_pos h3] at h;cases h
  ·rw [if_neg h3] at h
   by_cases h4:c.sets.length=32
   ·rw [if_pos h4] at h;cases h
   ·exact ⟨h2,h3,h4⟩
set_option maxRecDepth 100000 in
set_option maxHeartbeats 8000000 in
theorem rcreate_any (t:TenR) (p:BS) (w:World) (B:Nat) (hB:B≤w.heap.size) (hr:t.rd w B) (hz:t.sz) (hst:t.stages.n≤500000000000) (hp:p.length≤4000000000) :
  Calls Tryz.prog 8 #[t.val,.string ⟨p.toArray⟩] w (TenPost w (t.con.create p)):=by
 have h3:t.con.ask p=0∨t.con.ask p=9∨t.con.ask p=31:=tZ57
 obtain ⟨V,hV⟩:∃ V,V=t.con.create p:=⟨_,rfl⟩
 have hVe:=hV.trans (create_room t.con p)
 rw [← hV]
 have hcz:=TenC.sz_of hr hz
 have hpok:t.con.ask p=0→pathB p=true∧t.con.E=0:=fun h=>by
  unfold TenC.ask at h
  rcases t.con.E_two with hE | hE
  ·rw [if_neg (by rw [hE];decide)] at h
   cases hpb:pathB p with
   | true=>exact ⟨rfl,hE⟩
   | false=>rw [if_pos hpb] at h;cases h
  ·rw [if_pos hE] at h;cases h
 obtain ⟨nm,qu,nx,⟨s1,sn,s3,sl⟩,⟨gA,gN,gC,gL⟩,⟨t1,tn,t3,tl⟩,⟨l1,ln,l3,ll⟩⟩:=t
 show Calls Tryz.prog 8 #[.agg #[.string ⟨nm.toArray⟩,.int .i64 qu,.int .i64 nx,.slice s1 sn s3,.slice gA gN gC,.slice t1 tn t3,.slice l1 ln l3],.string ⟨p.toArray⟩] w _
 have hb:=(((Below.refl w.heap.size w).alloc (Nat.le_refl _) (.cells #[.string ⟨nm.toArray⟩,.int .i64 qu,.int .i64 nx,.slice s1 sn s3,.slice gA gN gC,.slice t1 tn t3,.slice l1 ln l3] 27)).alloc tZ3 (.cells #[.string ⟨#[]⟩,.int .i64 0,.int .i64 0,.slice none 0 0,.slice none 0 0,.slice none 0 0,.slice none 0 0] 27))
 have kt:=Blk.new w 27 #[.string ⟨nm.toArray⟩,.int .i64 qu,.int .i64 nx,.slice s1 sn s3,.slice gA gN gC,.slice t1 tn t3,.slice l1 ln l3]
 replace kt:=kt.alloc (.cells #[.string ⟨#[]⟩,.int .i64 0,.int .i64 0,.slice none 0 0,.slice none 0 0,.slice none 0 0,.slice none 0 0] 27)
 have kz:=Blk.new (w.alloc (.cells #[.string ⟨nm.toArray⟩,.int .i64 qu,.int .i64 nx,.slice s1 sn s3,.slice gA gN gC,.slice t1 tn t3,.slice l1 ln l3] 27)) 27 #[.string ⟨#[]⟩,.int .i64 0,.int .i64 0,.slice none 0 0,.slice none 0 0,.slice none 0 0,.slice none 0 0]
 rw [show (w.alloc (.cells #[.string ⟨nm.toArray⟩,.int .i64 qu,.int .i64 nx,.slice s1 sn s3,.slice gA gN gC,.slice t1 tn t3,.slice l1 ln l3] 27)).heap.size=w.heap.size+1 by simp] at kz
 have hsz:((w.alloc (.cells #[.string ⟨nm.toArray⟩,.int .i64 qu,.int .i64 nx,.slice s1 sn s3,.slice gA gN gC,.slice t1 tn t3,.slice l1 ln l3] 27)).alloc (.cells #[.string ⟨#[]⟩,.int .i64 0,.int .i64 0,.slice none 0 0,.slice none 0 0,.slice none 0 0,.slice none 0 0] 27)).heap.size=w.heap.size+2:=tZ3
 obtain ⟨W1,hW1⟩:∃ W,W=((w.alloc (.cells #[.string ⟨nm.toArray⟩,.int .i64 qu,.int .i64 nx,.slice s1 sn s3,.slice gA gN gC,.slice t1 tn t3,.slice l1 ln l3] 27)).alloc (.cells #[.string ⟨#[]⟩,.int .i64 0,.int .i64 0,.slice none 0 0,.slice none 0 0,.slice none 0 0,.slice none 0 0] 27)):=⟨_,rfl⟩
 rw [← hW1] at hb hsz kt kz
 have hKt:Hid (∀ W,Below W1.heap.size W1 W→Blk W w.heap.size 27 #[.string ⟨nm.toArray⟩,.int .i64 qu,.int .i64 nx,.slice s1 sn s3,.slice gA gN gC,.slice t1 tn t3,.slice l1 ln l3]):=fun W h=>kt.below h tZ1
 have hKz:Hid (∀ W,Below W1.heap.size W1 W→Blk W (w.heap.size+1) 27 #[.string ⟨#[]⟩,.int .i64 0,.int .i64 0,.slice none 0 0,.slice none 0 0,.slice none 0 0,.slice none 0 0]):=fun W h=>kz.below h tZ1
 have hBW:Hid (∀ W,Below W1.heap.size W1 W→Below w.heap.size w W):=fun W h=>hb.trans (h.mono tZ1)
 have hSZ:Hid (∀ W,Below W1.heap.size W1 W→w.heap.size+2≤W.heap.size):=fun W h=>by have:=h.size;omega
 have hW0:Hid (Below W1.heap.size W1 W1):=Below.refl _ _
 have hrw:Hid (∀ W,Below W1.heap.size W1 W→TenR.rd W B ⟨nm,qu,nx,⟨s1,sn,s3,sl⟩,⟨gA,gN,gC,gL⟩,⟨t1,tn,t3,tl⟩,⟨l1,ln,l3,ll⟩⟩∧B≤W.heap.size):=fun W h =>
  ⟨TenR.rd.below hr ((hBW.out W h).mono hB),by have:=hSZ.out W h;omega⟩
 obtain ⟨C,hC⟩:∃ C,C=TenR.con ⟨nm,qu,nx,⟨s1,sn,s3,sl⟩,⟨gA,gN,gC,gL⟩,⟨t1,tn,t3,tl⟩,⟨l1,ln,l3,ll⟩⟩:=⟨_,rfl⟩
 rw [← hC] at h3 hVe hcz hpok
 have hAS:Hid (∀ W,Below W1.heap.size W1 W→Calls Tryz.prog 44 #[.agg #[.string ⟨nm.toArray⟩,.int .i64 qu,.int .i64 nx,.slice s1 sn s3,.slice gA gN gC,.slice t1 tn t3,.slice l1 ln l3],.string ⟨p.toArray⟩] W fun e w'=>e=.returned (.int .i64 (C.ask p))∧Below W.heap.size W w'):=fun W h=>by
  exact mZ220
 have hRO:Hid (C.ask p=0→∀ W,Below W1.heap.size W1 W→Calls Tryz.prog 45 #[.agg #[.string ⟨nm.toArray⟩,.int .i64 qu,.int .i64 nx,.slice s1 sn s3,.slice gA gN gC,.slice t1 tn t3,.slice l1 ln l3],.string ⟨p.toArray⟩] W fun e w'=>e=.returned (.int .i64 (C.room p))∧Below W.heap.size W w'):=fun h0 W h=>by
  rw [hC]
  exact rroom_any ⟨nm,qu,nx,⟨s1,sn,s3,sl⟩,⟨gA,gN,gC,gL⟩,⟨t1,tn,t3,tl⟩,⟨l1,ln,l3,ll⟩⟩ p W B (hrw.out W h).2 (hrw.out W h).1 hz hp (hpok h0).1
 have hlen:C.E=0→sn≤32:=fun h=>by
  have h1:=((TenC.E_ok C).1 h).sets.len
  have h2:C.sets.length=sl.length:=by rw [hC];exact List.length_map ..
  have h3:=hr.sets.1
  simp only at h3
  omega
 have hWI:Hid (C.ask p=0→∀ W,Below W1.heap.size W1 W→Calls Tryz.prog 47 #[.agg #[.string ⟨nm.toArray⟩,.int .i64 qu,.int .i64 nx,.slice s1 sn s3,.slice gA gN gC,.slice t1 tn t3,.slice l1 ln l3],.agg #[.string ⟨p.toArray⟩,.string ⟨#[]⟩,.slice none 0 0,.slice none 0 0,.slice none 0 0]] W fun e w'=>∃ y:TenR,e=.returned y.val∧TenO w' W.heap.size y∧y.con=C.withS (set0C p)∧Below W.heap.size W w'):=fun h0 W h=>by
  rw [hC]
  exact rwith_any ⟨nm,qu,nx,⟨s1,sn,s3,sl⟩,⟨gA,gN,gC,gL⟩,⟨t1,tn,t3,tl⟩,⟨l1,ln,l3,ll⟩⟩ ⟨p,[],⟨none,0,0,[]⟩,⟨none,0,0,[]⟩,⟨none,0,0,[]⟩⟩ W B W.heap.size (hrw.out W h).2 (hrw.out W h).1 hz hst (set0R_o _ _ p) (Nat.le_refl _) (by have:=hlen (hpok h0).2;show sn≤_;omega)
 have hSZY:Hid (C.ask p=0→(C.withS (set0C p)).sz):=fun h0=>hcz.withS (set0C_sz p hp) (by have:=((TenC.E_ok C).1 (hpok h0).2).sets.len;omega)
 obtain ⟨E0,hE0⟩:∃ E,E=C.ask p:=⟨_,rfl⟩
 obtain ⟨R0,hR0⟩:∃ R,R=C.room p:=⟨_,rfl⟩
 have hE0':Hid (E0=0→C.ask p=0):=fun h=>by rw [← hE0];exact h
 have hR0':Hid (R0=0→C.room p=0):=fun h=>by rw [← hR0];exact h
 rw [← hE0] at h3 hVe hAS
 rw [← hR0] at hVe hRO
 have HV:=Lib.hid hVe
 clear hb hsz kt kz hr hz hst hp hVe hV hcz hpok hlen hC hE0 hR0 hrw
 go_enter Tryz.func8,Tryz.ntmps8
 have hc:=hAS.out  W1 hW0.out
 have kk:=hKt.out W1 hW0.out
 obtain ⟨c0,c1,c2,c3,c4,c5,c6⟩:=(⟨kk.cell 0,kk.cell 1,kk.cell 2,kk.cell 3,kk.cell 4,kk.cell 5,kk.cell 6⟩:_∧_∧_∧_∧_∧_∧_)
 simp only [zF,zD,zE] at c0 c1 c2 c3 c4 c5 c6
 clear kk
 go_wp2_with fail
 rw [← hW1]
 clear hW1
 refine hc.mono ?_
 clear hc c0 c1 c2 c3 c4 c5 c6
 rintro e w2 ⟨rfl,hb⟩
 have HW2:=Lib.hid (hW0.out.trans (hb.mono hW0.out.size))
 clear hb
 rcases h3 with rfl | rfl | rfl
 ·have hA0:=hE0'.out rfl
  have HA0:=Lib.hid hA0
  clear hE0' hA0
  have HV:=Lib.hid (HV.out.trans (if_neg tZ4))
  have hc:=hRO.out HA0.out w2 HW2.out
  have kk:=hKt.out w2 HW2.out
  obtain ⟨c0,c1,c2,c3,c4,c5,c6⟩:=(⟨kk.cell 0,kk.cell 1,kk.cell 2,kk.cell 3,kk.cell 4,kk.cell 5,kk.cell 6⟩:_∧_∧_∧_∧_∧_∧_)
  simp only [zF,zD,zE] at c0 c1 c2 c3 c4 c5 c6
  clear kk
  go_wp2_with fail
  refine hc.mono ?_
  clear hc c0 c1 c2 c3 c4 c5 c6
  rintro e w3 ⟨rfl,hb⟩
  have HW3:=Lib.hid (HW2.out.trans (hb.mono HW2.out.size))
  clear hb
  by_cases hr0:R0≠0
  ·have HNE:=Lib.hid hr0
   have hneb:(R0 == 0)=false:=by simpa using hr0
   have HX:=Lib.hid (HV.out.trans (if_pos hr0))
   clear HV
   have KZ:=Lib.hid (hKz.out w3 HW3.out)
   have HB:=Lib.hid (hBW.out w3 HW3.out)
   obtain ⟨WR,hW4,hth,HL,HBW,hgw⟩:=res7 (g:=(w.heap.size+1)) [.string ⟨#[]⟩,.int .i64 0,.int .i64 0,.slice none 0 0,.slice none 0 0,.slice none 0 0,.slice none 0 0] KZ.out HB.out tZ1
   clear hgw
   go_wp2_with (refine wpList_store_mid rfl 27 (.tmp 4) (.tmp 17) rfl ((w.heap.size+1)) 0 #[.string ⟨#[]⟩,.int .i64 0,.int .i64 0,.slice none 0 0,.slice none 0 0,.slice none 0 0,.slice none 0 0] rfl rfl hth.out tZ2 tZ5 ?_;rw [← hW4];clear hW4)
   exact bodyPost_ret (v:=.tuple #[.agg #[.string ⟨#[]⟩,.int .i64 0,.int .i64 0,.slice none 0 0,.slice none 0 0,.slice none 0 0,.slice none 0 0],.int .i64 R0]) (results_cell_tmp rfl rfl HL.out) rfl (tenPost_err HX.out HNE.out HBW.out)
  ·have hr1:R0=0:=tZ1
   have hR0:=hR0'.out hr1
   subst hr1
   have HXS0:=Lib.hid (HV.out.trans (if_neg tZ4))
   clear HV hr0
   have HRZ:=Lib.hid (room_zero C p hR0)
   have HEW:Hid ((C.withS (set0C p)).E=0):=create_E C p HA0.out HRZ.out.1 HRZ.out.2.1 HRZ.out.2.2
   have HXS:=Lib.hid (HXS0.out.trans (settle_settled _ HEW.out))
   clear hR0 HXS0 hR0'
   have hc:=hWI.out HA0.out w3 HW3.out
   have kk:=hKt.out w3 HW3.out
   obtain ⟨c0,c1,c2,c3,c4,c5,c6⟩:=(⟨kk.cell 0,kk.cell 1,kk.cell 2,kk.cell 3,kk.cell 4,kk.cell 5,kk.cell 6⟩:_∧_∧_∧_∧_∧_∧_)
   simp only [zF,zD,zE] at c0 c1 c2 c3 c4 c5 c6
   clear kk
   go_wp2_with fail
   refine hc.mono ?_
   clear hc c0 c1 c2 c3 c4 c5 c6
   rintro e w4 ⟨y,rfl,hoy,hcy,hb⟩
   have HW4:=Lib.hid (HW3.out.trans (hb.mono HW3.out.size))
   clear hb
   have hsy:y.sz:=TenR.sz_of hoy.rd (by rw [hcy];exact hSZY.out HA0.out)
   have hEy:tenE y=0:=by rw [tenE_con,hcy];exact HEW.out
   replace hoy:=hoy.mono (base':=w.heap.size) tZ136
   have hc:=rsettled_any y w4 w.heap.size hoy hsy hEy
   rw [hcy] at hc
   have HOY:=Lib.hid hoy
   have HCY:=Lib.hid hcy
   clear hoy hcy hsy hEy
   obtain ⟨QU,hQU⟩:∃ q:Int,q=(C.withS (set0C p)).quota:=⟨_,rfl⟩
   obtain ⟨CH,hCH⟩:∃ q:Int,q=((C.withS (set0C p)).charge:Int):=⟨_,rfl⟩
   rw [← hQU,← hCH] at hc HXS
   clear hQU hCH
   obtain ⟨mm,mq,mx,⟨m1,m2,m3,ml⟩,⟨n1,n2,n3,nl⟩,⟨p1,p2,p3,pl⟩,⟨q1,q2,q3,ql⟩⟩:=y
   simp only [TenR.val,TenR.cells,FS.val,strV] at hc ⊢
   go_wp2_with fail
   refine hc.mono ?_
   clear hc
   rintro e w5 ⟨hb,⟨hq,rfl⟩ | ⟨hq,rfl⟩⟩
   ·have HW5:=Lib.hid (HW4.out.trans (hb.mono HW4.out.size))
    have HX:=Lib.hid (HXS.out.trans (if_pos hq))
    clear hb HXS hq
    unfold ZEROT
    have KZ:=Lib.hid (hKz.out w5 HW5.out)
    have HB:=Lib.hid (hBW.out w5 HW5.out)
    obtain ⟨WR,hW4,hth,HL,HBW,hgw⟩:=res7 (g:=(w.heap.size+1)) [.string ⟨#[]⟩,.int .i64 0,.int .i64 0,.slice none 0 0,.slice none 0 0,.slice none 0 0,.slice none 0 0] KZ.out HB.out tZ1
    clear hgw
    go_wp2_with (refine wpList_store_mid rfl 27 (.tmp 4) (.tmp 24) rfl ((w.heap.size+1)) 0 #[.string ⟨#[]⟩,.int .i64 0,.int .i64 0,.slice none 0 0,.slice none 0 0,.slice none 0 0,.slice none 0 0] rfl rfl hth.out tZ2 tZ5 ?_;rw [← hW4];clear hW4)
    exact mZ223
   ·have HW5:=Lib.hid (HW4.out.trans (hb.mono HW4.out.size))
    have HX:=Lib.hid (HXS.out.trans (if_neg hq))
    have HO:=Lib.hid (HOY.out.below hb)
    clear hb HXS hq HOY
    have KZ:=Lib.hid (hKz.out w5 HW5.out)
    have HB:=Lib.hid (hBW.out w5 HW5.out)
    obtain ⟨WR,hW4,hth,HL,HBW,hgw⟩:=res7 (g:=(w.heap.size+1)) [.string ⟨mm.toArray⟩,.int .i64 mq,.int .i64 mx,.slice m1 m2 m3,.slice n1 n2 n3,.slice p1 p2 p3,.slice q1 q2 q3] KZ.out HB.out tZ1
    have HOO:=Lib.hid (TenO.keptT HO.out hgw KZ.out offT_ten)
    clear hgw
    go_wp2_with (refine wpList_store_mid rfl 27 (.tmp 4) (.tmp 24) rfl ((w.heap.size+1)) 0 #[.string ⟨mm.toArray⟩,.int .i64 mq,.int .i64 mx,.slice m1 m2 m3,.slice n1 n2 n3,.slice p1 p2 p3,.slice q1 q2 q3] rfl rfl hth.out tZ2 tZ5 ?_;rw [← hW4];clear hW4)
    exact mZ222
 ·have HX:=Lib.hid (HV.out.trans (if_pos tZ4))
  clear HV hE0'
  exact mZ216
 ·have HX:=Lib.hid (HV.out.trans (if_pos tZ4))
  clear HV hE0'
  exact mZ215
end Go.Proofs.YtiojfffgiejibaaGreatDoor
