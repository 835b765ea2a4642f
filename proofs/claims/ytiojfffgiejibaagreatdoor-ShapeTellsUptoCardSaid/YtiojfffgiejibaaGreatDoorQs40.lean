/-
  The page's Destroy: a set less.
-/
import Derived.Test.YtiojfffgiejibaaGreatDoorQsM1
import Derived.WalkKit
import Derived.WalkSpells
import Derived.Below
import Derived.Laws.OwnMore
import Derived.Deep.AppendLies
import Derived.Deep.Draws
import Derived.Laws.Rows
import Derived.Maps.AppendAt
import Derived.RegionTactic
import Derived.OwnWalk
import Derived.Deep.QuietTactic
import Derived.BigQuiet
import Derived.Lib.Hide
import Derived.Laws.CopyOwn
import Derived.IntWalk
import Derived.Test.YtiojfffgiejibaaGreatDoorRows
import Derived.Handy
import Derived.Deep.Quiet
import Derived.ProofKit
import Derived.OpenShut
import Derived.ShutString
import Derived.ChangeOld
import Derived.Carry
import Derived.SizedLaws
import Derived.JoinedCond
import Derived.Deep.CondSized
import Derived.Deep.Slices
import Derived.Deep.Fields
import Derived.Lib.SmallJoins
import Derived.Orders
import Derived.Lib.SplitLaws
import Derived.Lib.LastIndexByte
import Derived.Lib.Strings
import Derived.Sort.Walk0
import Derived.Sort.KeysCollected
import Derived.Deep.MidRow
import Derived.Deep.RegionLaw
import Derived.Lib.AppendZeros
import Derived.Shelf.Strings.Search1
import Derived.Shelf.Strings.Search2
import Derived.Shelf.Strings.Search3
import Derived.Shelf.Strings.Cut
import Derived.Shelf.Strings.Count
import Derived.Shelf.LaysM
import Derived.Shelf.Strings.Shaped
import Derived.Shelf.Strings.LastIndex
import Derived.Shelf.Strings.Split
import Derived.Shelf.Strings.SplitShaped
import Derived.Shelf.Unicode.Decode
import Derived.Shelf.Strings.RuneCount
import Derived.Shelf.Strings.Explode
import Derived.Shelf.Unicode.DecodeSlow
import Derived.Shelf.Slices.Turned
import Derived.Test.YtiojfffgiejibaaGreatDoorProg
import Derived.Lib.Overlaps
import Derived.Lib.AppendZerosOnto
import Derived.Laws.BytesString
import Derived.Laws.IdiomStrings
import Derived.Lib.ConvBytes
import Derived.Deep.DeepCutAuto
import Derived.Great.BuildSlice
import Derived.Test.YtiojfffgiejibaaGreatDoorQ0
import Derived.Test.YtiojfffgiejibaaGreatDoorQs1
import Derived.Test.YtiojfffgiejibaaGreatDoorQs5
import Derived.Test.YtiojfffgiejibaaGreatDoorQs7
import Derived.Test.YtiojfffgiejibaaGreatDoorQs10
import Derived.Test.YtiojfffgiejibaaGreatDoorQs11
import Derived.Test.YtiojfffgiejibaaGreatDoorQs12
import Derived.Test.YtiojfffgiejibaaGreatDoorQs15
import Derived.Test.YtiojfffgiejibaaGreatDoorQs16
import Derived.Test.YtiojfffgiejibaaGreatDoorQs17
import Derived.Test.YtiojfffgiejibaaGreatDoorQs19
import Derived.Test.YtiojfffgiejibaaGreatDoorQs20
import Derived.Test.YtiojfffgiejibaaGreatDoorQs21
import Derived.Test.YtiojfffgiejibaaGreatDoorQs22
import Derived.Test.YtiojfffgiejibaaGreatDoorQs25
import Derived.Test.YtiojfffgiejibaaGreatDoorQs26
import Derived.Test.YtiojfffgiejibaaGreatDoorQs27
import Derived.Test.YtiojfffgiejibaaGreatDoorQs29
import Derived.Test.YtiojfffgiejibaaGreatDoorQs30
import Derived.Test.YtiojfffgiejibaaGreatDoorQs31
import Derived.Test.YtiojfffgiejibaaGreatDoorQs32
import Derived.Test.YtiojfffgiejibaaGreatDoorQs33
import Derived.Test.YtiojfffgiejibaaGreatDoorQs36
import Derived.Test.YtiojfffgiejibaaGreatDoorQs38
import Derived.Test.YtiojfffgiejibaaGreatDoorQs39
namespace Go.Proofs.YtiojfffgiejibaaGreatDoor
open Go.RowKit
set_option maxRecDepth 100000 in
set_option maxHeartbeats 16000000 in
theorem rdestroy_any (t:TenR) (p:BS) (w:World) (B:Nat) (hB:B≤w.heap.size) (hr:t.rd w B) (hz:t.sz) (hst:t.stages.n≤500000000000) (hp:p.length≤4000000000) :
  Calls Tryz.prog 10 #[t.val,.string ⟨p.toArray⟩] w (TenPost w (t.con.destroy p)):=by
 have h3:t.con.ask p=0∨t.con.ask p=9∨t.con.ask p=31:=tZ57
 obtain ⟨V,hV⟩:∃ V,V=t.con.destroy p:=⟨_,rfl⟩
 have hVe:V=if t.con.ask p≠0 then (t.con.ask p,t.con) else if findS t.sets.l p<0 then (71,t.con) else if p=[]∨0<(kidsL t.sets.l p).length+(clonesL t.sets.l p []).length∨(t.stages.l.any fun s=>s.into == p)=true then (44,t.con) else if t.con.heldAt (findS t.sets.l p).toNat=true then (43,t.con) else (0,t.con.dropS (findS t.sets.l p).toNat):=by
  rw [hV,kids_con,clones_con,← any_stages,findS_con]
  rfl
 rw [← hV]
 have hfk:∀ k:Nat,t.con.find p=(k:Int)→∃ h:k<t.sets.l.length,t.con.heldAt k=(t.sets.l[k]'h).snaps.l.any fun y=>decide (0<y.tags.n):=fun k hk=>by
  exact mZ187
 rw [← findS_con] at hfk
 obtain ⟨nm,qu,nx,⟨s1,sn,s3,sl⟩,⟨gA,gN,gC,gL⟩,⟨t1,tn,t3,tl⟩,⟨l1,ln,l3,ll⟩⟩:=t
 show Calls Tryz.prog 10 #[.agg #[.string ⟨nm.toArray⟩,.int .i64 qu,.int .i64 nx,.slice s1 sn s3,.slice gA gN gC,.slice t1 tn t3,.slice l1 ln l3],.string ⟨p.toArray⟩] w _
 have hb:=(((Below.refl w.heap.size w).alloc (Nat.le_refl _) (.cells #[.string ⟨nm.toArray⟩,.int .i64 qu,.int .i64 nx,.slice s1 sn s3,.slice gA gN gC,.slice t1 tn t3,.slice l1 ln l3] 27)).alloc tZ3 (.cells #[.string ⟨#[]⟩,.int .i64 0,.int .i64 0,.slice none 0 0,.slice none 0 0,.slice none 0 0,.slice none 0 0] 27))
 have kt:=Blk.new w 27 #[.string ⟨nm.toArray⟩,.int .i64 qu,.int .i64 nx,.slice s1 sn s3,.slice gA gN gC,.slice t1 tn t3,.slice l1 ln l3]
 replace kt:=kt.alloc (.cells #[.string ⟨#[]⟩,.int .i64 0,.int .i64 0,.slice none 0 0,.slice none 0 0,.slice none 0 0,.slice none 0 0] 27)
 have kz:=Blk.new (w.alloc (.cells #[.string ⟨nm.toArray⟩,.int .i64 qu,.int .i64 nx,.slice s1 sn s3,.slice gA gN gC,.slice t1 tn t3,.slice l1 ln l3] 27)) 27 #[.string ⟨#[]⟩,.int .i64 0,.int .i64 0,.slice none 0 0,.slice none 0 0,.slice none 0 0,.slice none 0 0]
 rw [show (w.alloc (.cells #[.string ⟨nm.toArray⟩,.int .i64 qu,.int .i64 nx,.slice s1 sn s3,.slice gA gN gC,.slice t1 tn t3,.slice l1 ln l3] 27)).heap.size=w.heap.size+1 by simp] at kz
 have hsz:((w.alloc (.cells #[.string ⟨nm.toArray⟩,.int .i64 qu,.int .i64 nx,.slice s1 sn s3,.slice gA gN gC,.slice t1 tn t3,.slice l1 ln l3] 27)).alloc (.cells #[.string ⟨#[]⟩,.int .i64 0,.int .i64 0,.slice none 0 0,.slice none 0 0,.slice none 0 0,.slice none 0 0] 27)).heap.size=w.heap.size+2:=tZ3
 obtain ⟨W1,hW1⟩:∃ W,W=((w.alloc (.cells #[.string ⟨nm.toArray⟩,.int .i64 qu,.int .i64 nx,.slice s1 sn s3,.slice gA gN gC,.slice t1 tn t3,.slice l1 ln l3] 27)).alloc (.cells #[.string ⟨#[]⟩,.int .i64 0,.int .i64 0,.slice none 0 0,.slice none 0 0,.slice none 0 0,.slice none 0 0] 27)):=⟨_,rfl⟩
 rw [← hW1] at hb hsz kt kz
 have hKt:Hid (∀ W,Below W1.heap.size W1 W→Blk W w.heap.size 27 #[.string ⟨nm.toArray⟩,.int .i64 qu,.int .i64 nx,.slice s1 sn s3,.slice gA gN gC,.slice t1 tn t3,.slice l1 ln l3]):=fun W h=>kt.below h tZ1
 have hKz:Hid (∀ W,Below W1.heap.size W1 W→Blk W (w.heap.size+1) 27 #[.string ⟨#[]⟩,.int .i64 0,.int .i64 0,.slice none 0 0,.slice none 0 0,.slice none 0 0,.slice none 0 0]):=fun W h=>kz.below h tZ1
 have hBW:Hid (∀ W,Below W1.heap.size W1 W→Below w.heap.size w W):=fun W h=>hb.trans (h.mono tZ1)
 have hSZ:Hid (∀ W,Below W1.heap.size W1 W→w.heap.size+2≤W.heap.size):=fun W h=>by have:=h.size;omega
 have hW0:Hid (Below W1.heap.size W1 W1):=Below.refl _ _
 have hrw:Hid (∀ W,Below W1.heap.size W1 W→TenR.rd W B ⟨nm,qu,nx,⟨s1,sn,s3,sl⟩,⟨gA,gN,gC,gL⟩,⟨t1,tn,t3,tl⟩,⟨l1,ln,l3,ll⟩⟩∧B≤W.heap.size):=fun W h =>
  ⟨TenR.rd.below hr ((hBW.out W h).mono hB),by have:=hSZ.out W h;omega⟩
 obtain ⟨C,hC⟩:∃ C,C=TenR.con ⟨nm,qu,nx,⟨s1,sn,s3,sl⟩,⟨gA,gN,gC,gL⟩,⟨t1,tn,t3,tl⟩,⟨l1,ln,l3,ll⟩⟩:=⟨_,rfl⟩
 have hHC:=Lib.hid hC
 rw [← hC] at h3 hVe hfk
 simp only at hVe hfk
 have hAS:Hid (∀ W,Below W1.heap.size W1 W→Calls Tryz.prog 44 #[.agg #[.string ⟨nm.toArray⟩,.int .i64 qu,.int .i64 nx,.slice s1 sn s3,.slice gA gN gC,.slice t1 tn t3,.slice l1 ln l3],.string ⟨p.toArray⟩] W fun e w'=>e=.returned (.int .i64 (C.ask p))∧Below W.heap.size W w'):=fun W h=>by
  exact mZ220
 have hFD:Hid (∀ W,Below W1.heap.size W1 W→Calls Tryz.prog 33 #[.agg #[.string ⟨nm.toArray⟩,.int .i64 qu,.int .i64 nx,.slice s1 sn s3,.slice gA gN gC,.slice t1 tn t3,.slice l1 ln l3],.string ⟨p.toArray⟩] W fun e w'=>e=.returned (.int .i64 (findS sl p))∧Below W.heap.size W w'):=fun W h =>
  refFind_any _ _ _ _ _ _ sl sn hr.sets.1 s1 s3 p W B (hrw.out W h).1.sets.2.2 (hrw.out W h).2 tZ17
 have hKD:Hid (∀ W,Below W1.heap.size W1 W→Calls Tryz.prog 56 #[.agg #[.string ⟨nm.toArray⟩,.int .i64 qu,.int .i64 nx,.slice s1 sn s3,.slice gA gN gC,.slice t1 tn t3,.slice l1 ln l3],.string ⟨p.toArray⟩] W fun e w'=>(∃ A1 c1,e=.returned (.slice A1 (kidsL sl p).length c1))∧Below W.heap.size W w'):=fun W h =>
  rkids_any _ _ _ _ _ _ sl sn hr.sets.1 s1 s3 p W B (hrw.out W h).1.sets.2.2 (hrw.out W h).2 tZ17 (fun y hy=>(hz.eachS y hy).path)
 have hCN:Hid (∀ W,Below W1.heap.size W1 W→Calls Tryz.prog 57 #[.agg #[.string ⟨nm.toArray⟩,.int .i64 qu,.int .i64 nx,.slice s1 sn s3,.slice gA gN gC,.slice t1 tn t3,.slice l1 ln l3],.string ⟨p.toArray⟩,.string ⟨#[]⟩] W fun e w'=>(∃ A1 c1,e=.returned (.slice A1 (clonesL sl p []).length c1))∧Below W.heap.size W w'):=fun W h =>
  rclones_any _ _ _ _ _ _ sl sn hr.sets.1 s1 s3 p [] W B (hrw.out W h).1.sets.2.2 (hrw.out W h).2 tZ17 (fun y hy=>(hz.eachS y hy).org)
 have hCP:Hid (∀ W,Below W1.heap.size W1 W→Calls Tryz.prog 17 #[.agg #[.string ⟨nm.toArray⟩,.int .i64 qu,.int .i64 nx,.slice s1 sn s3,.slice gA gN gC,.slice t1 tn t3,.slice l1 ln l3]] W fun e w'=>∃ y:TenR,e=.returned y.val∧TenO w' W.heap.size y∧TenR.eqv ⟨nm,qu,nx,⟨s1,sn,s3,sl⟩,⟨gA,gN,gC,gL⟩,⟨t1,tn,t3,tl⟩,⟨l1,ln,l3,ll⟩⟩ y∧y.sets.l.Pairwise ApartS∧Below W.heap.size W w'):=fun W h =>
  own14A_any nm qu nx s1 sn s3 sl gA gN gC gL t1 tn t3 tl l1 ln l3 ll W B (hrw.out W h).2 (hrw.out W h).1 hz hst
 have hSN:=Lib.hid (show sn=sl.length from hr.sets.1)
 have hTN:=Lib.hid (show tn=tl.length from hr.stages.1)
 have hln:(kidsL sl p).length≤1000000000000∧(clonesL sl p []).length≤1000000000000:=by
  have h1:=hz.sets
  have h2:=hr.sets.1
  simp only at h1 h2
  have h4:=List.length_filter_le (fun s:SetR=>parB s.path == some p) sl
  have h5:=List.length_filter_le (fun s:SetR=>clP p [] s.org) sl
  unfold kidsL clonesL
  rw [List.length_map,List.length_map]
  exact ⟨by omega,by omega⟩
 obtain ⟨kN,hkN⟩:∃ k,k=(kidsL sl p).length:=⟨_,rfl⟩
 obtain ⟨cN,hcN⟩:∃ k,k=(clonesL sl p []).length:=⟨_,rfl⟩
 obtain ⟨sB,hsB⟩:∃ b,b=tl.any fun x=>x.into == p:=⟨_,rfl⟩
 have HSB:=Lib.hid hsB
 rw [← hkN,← hcN] at hln hVe
 rw [← hsB] at hVe
 rw [← hkN] at hKD
 rw [← hcN] at hCN
 obtain ⟨E0,hE0⟩:∃ E,E=C.ask p:=⟨_,rfl⟩
 obtain ⟨F0,hF0⟩:∃ F,F=findS sl p:=⟨_,rfl⟩
 have hfk2:F0<0∨∃ k:Nat,F0=(k:Int):=by
  by_cases h:F0<0
  ·exact .inl h
  ·exact .inr ⟨F0.toNat,by omega⟩
 rw [← hE0] at h3 hVe hAS
 rw [← hF0] at hVe hfk hFD
 have HV:=Lib.hid hVe
 have HZ:=Lib.hid hz
 have HFK:=Lib.hid hfk
 have HLN:=Lib.hid hln
 clear hb hsz kt kz hr hz hst hp hVe hV hC hE0 hF0 hfk hkN hcN hsB hln
 go_enter Tryz.func10,Tryz.ntmps10
 have hc:=hAS.out  W1 hW0.out
 have kk:=hKt.out W1 hW0.out
 obtain ⟨c0,c1,c2,c3,c4,c5,c6⟩:=(⟨kk.cell 0,kk.cell 1,kk.cell 2,kk.cell 3,kk.cell 4,kk.cell 5,kk.cell 6⟩:_∧_∧_∧_∧_∧_∧_)
 simp only [zF,zD,zE] at c0 c1 c2 c3 c4 c5 c6
 clear kk
 go_wp2_with fail
 rw [← hW1]
 clear hW1
 refine hc.mono ?_
 clear hc c0 c1 c2 c3 c4 c5 c6
 rintro e w2 ⟨rfl,hb⟩
 have HW2:=Lib.hid (hW0.out.trans (hb.mono hW0.out.size))
 clear hb
 rcases h3 with rfl | rfl | rfl
 ·have HV:=Lib.hid (HV.out.trans (if_neg tZ4))
  have hc:=hFD.out  w2 HW2.out
  have kk:=hKt.out w2 HW2.out
  obtain ⟨c0,c1,c2,c3,c4,c5,c6⟩:=(⟨kk.cell 0,kk.cell 1,kk.cell 2,kk.cell 3,kk.cell 4,kk.cell 5,kk.cell 6⟩:_∧_∧_∧_∧_∧_∧_)
  simp only [zF,zD,zE] at c0 c1 c2 c3 c4 c5 c6
  clear kk
  go_wp2_with fail
  refine hc.mono ?_
  clear hc c0 c1 c2 c3 c4 c5 c6
  rintro e w3 ⟨rfl,hb⟩
  have HW3:=Lib.hid (HW2.out.trans (hb.mono HW2.out.size))
  clear hb
  rcases hfk2 with hf | ⟨k,rfl⟩
  ·have hf1:F0<0:=hf
   have HX:=Lib.hid (HV.out.trans (if_pos hf))
   clear HV HFK
   have KZ:=Lib.hid (hKz.out w3 HW3.out)
   have HB:=Lib.hid (hBW.out w3 HW3.out)
   obtain ⟨WR,hW4,hth,HL,HBW,hgw⟩:=res7 (g:=(w.heap.size+1)) [.string ⟨#[]⟩,.int .i64 0,.int .i64 0,.slice none 0 0,.slice none 0 0,.slice none 0 0,.slice none 0 0] KZ.out HB.out tZ1
   clear hgw
   go_wp2_with (refine wpList_store_mid rfl 27 (.tmp 4) (.tmp 24) rfl ((w.heap.size+1)) 0 #[.string ⟨#[]⟩,.int .i64 0,.int .i64 0,.slice none 0 0,.slice none 0 0,.slice none 0 0,.slice none 0 0] rfl rfl hth.out tZ2 tZ5 ?_;rw [← hW4];clear hW4)
   exact mZ186
  ·have hk0:(0:Int)≤(k:Int):=tZ1
   have HV:=Lib.hid (HV.out.trans (if_neg tZ1))
   rw [Int.toNat_natCast] at HV
   obtain ⟨hkl,hht⟩:=HFK.out k rfl
   rw [hht] at HV
   have hkN1:=HLN.out.1
   have hcN1:=HLN.out.2
   have HFK:Hid True:=trivial
   clear hht
   by_cases hp0:p=[]
   ·have hp1:(p == [])=true:=tZ124
    have hp2:(p.toArray == #[])=true:=tZ124
    have HX:=Lib.hid (HV.out.trans (if_pos (.inl hp0)))
    clear HV HFK
    have KZ:=Lib.hid (hKz.out w3 HW3.out)
    have HB:=Lib.hid (hBW.out w3 HW3.out)
    exact mZ219
   ·have hp1:(p == [])=false:=tZ124
    have hp2:(p.toArray == #[])=false:=tZ124
    have hc:=hKD.out  w3 HW3.out
    have kk:=hKt.out w3 HW3.out
    obtain ⟨c0,c1,c2,c3,c4,c5,c6⟩:=(⟨kk.cell 0,kk.cell 1,kk.cell 2,kk.cell 3,kk.cell 4,kk.cell 5,kk.cell 6⟩:_∧_∧_∧_∧_∧_∧_)
    simp only [zF,zD,zE] at c0 c1 c2 c3 c4 c5 c6
    clear kk
    go_wp2_with fail
    refine hc.mono ?_
    clear hc c0 c1 c2 c3 c4 c5 c6
    rintro e w4 ⟨⟨A1,c1,rfl⟩,hb⟩
    have HW4:=Lib.hid (HW3.out.trans (hb.mono HW3.out.size))
    clear hb
    by_cases hkn:0<kN
    ·have hkni:(0:Int)<(kN:Int):=tZ1
     have HX:=Lib.hid (HV.out.trans (if_pos (.inr (.inl tZ1))))
     clear HV HFK
     have KZ:=Lib.hid (hKz.out w4 HW4.out)
     have HB:=Lib.hid (hBW.out w4 HW4.out)
     exact mZ219
    ·have hkni:¬ (0:Int)<(kN:Int):=tZ1
     have hc:=hCN.out  w4 HW4.out
     have kk:=hKt.out w4 HW4.out
     obtain ⟨c0,c1,c2,c3,c4,c5,c6⟩:=(⟨kk.cell 0,kk.cell 1,kk.cell 2,kk.cell 3,kk.cell 4,kk.cell 5,kk.cell 6⟩:_∧_∧_∧_∧_∧_∧_)
     simp only [zF,zD,zE] at c0 c1 c2 c3 c4 c5 c6
     clear kk
     go_wp2_with fail
     refine hc.mono ?_
     clear hc c0 c1 c2 c3 c4 c5 c6
     rintro e w5 ⟨⟨A1,c1,rfl⟩,hb⟩
     have HW5:=Lib.hid (HW4.out.trans (hb.mono HW4.out.size))
     clear hb
     by_cases hcn:0<cN
     ·have hcni:(0:Int)<(cN:Int):=tZ1
      have HX:=Lib.hid (HV.out.trans (if_pos (.inr (.inl tZ1))))
      clear HV HFK
      have KZ:=Lib.hid (hKz.out w5 HW5.out)
      have HB:=Lib.hid (hBW.out w5 HW5.out)
      exact mZ219
     ·have hcni:¬ (0:Int)<(cN:Int):=tZ1
      have HNO:Hid (¬ 0<kN+cN∧¬ p=[]):=⟨by omega,hp0⟩
      clear hp0
      go_wp2_with fail
      clear hp1 hp2 hkni hcni hkn hcn
      have htn:tn≤1000000000000:=by have:=HZ.out.stages;simp only at this;omega
      go_loopw [8] (fun j wr=>∃ q:Nat,q≤tn∧j=.int .i64 (q:Int)∧Hid ((tl.take q).any (fun x=>x.into == p)=false)∧wr=w5) (fun j _=>tn-(intOf j).toNat)
      case atStart=>exact ⟨0,Nat.zero_le _,rfl,rfl,rfl⟩
      case round =>
       obtain ⟨q,hq,rfl,HNQ,hww⟩:=hrel
       rw [hww]
       clear hww
       have kk:=hKt.out w5 HW5.out
       obtain ⟨c0,c1,c2,c3,c4,c5,c6⟩:=(⟨kk.cell 0,kk.cell 1,kk.cell 2,kk.cell 3,kk.cell 4,kk.cell 5,kk.cell 6⟩:_∧_∧_∧_∧_∧_∧_)
       simp only [zF,zD,zE] at c0 c1 c2 c3 c4 c5 c6
       clear kk
       by_cases hlt:q<tn
       ·have hqi:(q:Int)<(tn:Int):=tZ1
        have hq0:(0:Int)≤(q:Int):=tZ1
        have hql:q<tl.length:=by have:=hTN.out;omega
        obtain ⟨ad,hA,-,e0,-⟩:=stage_at (hrw.out w5 HW5.out).1.stages.2.2 hTN.out hlt
        simp only at hA
        subst hA
        have HTQ:=Lib.hid (List.take_succ_eq_append_getElem hql)
        have HMQ:Hid (tl[q]'hql∈tl):=List.getElem_mem hql
        obtain ⟨x,hx⟩:∃ x,x=tl[q]'hql:=⟨_,rfl⟩
        rw [← hx] at e0 HTQ HMQ
        clear hx
        obtain ⟨xi,hxi⟩:∃ s,s=x.into:=⟨_,rfl⟩
        rw [← hxi] at e0
        have HXI:=Lib.hid hxi
        clear hxi
        by_cases hip:xi=p
        ·have hi1:(xi == p)=true:=tZ125
         have hi2:(xi.toArray == p.toArray)=true:=tZ125
         have hsb:sB=true:=by
          rw [HSB.out]
          exact List.any_eq_true.2 ⟨x,HMQ.out,by rw [← HXI.out];simpa using hip⟩
         have HX:=Lib.hid (HV.out.trans (if_pos (.inr (.inr hsb))))
         clear HV hsb hip
         have KZ:=Lib.hid (hKz.out w5 HW5.out)
         have HB:=Lib.hid (hBW.out w5 HW5.out)
         obtain ⟨WR,hW4,hth,HL,HBW,hgw⟩:=res7 (g:=(w.heap.size+1)) [.string ⟨#[]⟩,.int .i64 0,.int .i64 0,.slice none 0 0,.slice none 0 0,.slice none 0 0,.slice none 0 0] KZ.out HB.out tZ1
         clear hgw
         go_wp2_with (refine wpList_store_mid rfl 27 (.tmp 4) (.tmp 57) rfl ((w.heap.size+1)) 0 #[.string ⟨#[]⟩,.int .i64 0,.int .i64 0,.slice none 0 0,.slice none 0 0,.slice none 0 0,.slice none 0 0] rfl rfl hth.out tZ2 tZ5 ?_;rw [← hW4];clear hW4)
         exact mZ165
        ·have hi1:(xi == p)=false:=tZ125
         have hi2:(xi.toArray == p.toArray)=false:=tZ125
         have HNQ2:Hid ((tl.take (q+1)).any (fun x=>x.into == p)=false):=by
          show _=_
          rw [HTQ.out,List.any_append,HNQ.out]
          simp [← HXI.out,hip]
         clear hip
         go_wp2_with fail
         go_roundw
         case rel=>exact ⟨q+1,by omega,by go_num,HNQ2,trivial⟩
         case measure=>simp [intOf];omega
       ·obtain rfl:q=tn:=tZ1
        have hsb:¬ (p=[]∨0<kN+cN∨sB=true):=by
         rintro (h | h | h)
         ·exact HNO.out.2 h
         ·exact HNO.out.1 h
         ·have h1:=HNQ.out
          rw [hTN.out,List.take_length,← HSB.out] at h1
          rw [h1] at h
          cases h
        have HV:=Lib.hid (HV.out.trans (if_neg hsb))
        have hks:k<sn:=tZ140
        have hki:(k:Int)<(sn:Int):=tZ1
        obtain ⟨ad,hsa,hadB,-,-,-,fa3,-⟩:=set_at (hrw.out w5 HW5.out).1.sets.2.2 hSN.out hks
        simp only at hsa
        subst hsa
        have hxr:=(hrw.out w5 HW5.out).1.eachS _ (List.getElem_mem hkl)
        have hzx:=HZ.out.eachS _ (List.getElem_mem hkl)
        obtain ⟨x,hxx⟩:∃ x,x=sl[k]'hkl:=⟨_,rfl⟩
        simp only [← hxx] at fa3 hxr hzx HV
        obtain ⟨xp,xo,⟨bA,bn,bc,bl⟩,⟨zA,zn,zc,zl⟩,⟨oA,on,oc,ol⟩⟩:=x
        simp only at fa3 HV
        have hzn:zn≤1000000000000:=hzx.snaps
        have HZN:Hid (zn=zl.length):=hxr.snaps.1
        have HXZ:=Lib.hid hzx
        have HXR:=Lib.hid hxr
        clear hsb HNQ hlt hq hxx hxr hzx hadB HNO
        go_wp2_with fail
        clear c0 c1 c2 c4 c5 c6
        go_loopw [9] (fun j wr=>∃ u:Nat,u≤zn∧j=.int .i64 (u:Int)∧Hid ((zl.take u).any (fun y=>decide (0<y.tags.n))=false)∧wr=w5) (fun j _=>zn-(intOf j).toNat)
        case atStart=>exact ⟨0,Nat.zero_le _,rfl,rfl,rfl⟩
        case round =>
         obtain ⟨u,hu,rfl,HNU,hww⟩:=hrel
         rw [hww]
         clear hww
         by_cases hlt:u<zn
         ·have hui:(u:Int)<(zn:Int):=tZ1
          have hu0:(0:Int)≤(u:Int):=tZ1
          have hul:u<zl.length:=tZ99
          obtain ⟨ad2,hsa,-,-,-,-,r3,-⟩:=snap_at HXR.out.snaps.2.2 HZN.out hlt
          simp only at hsa
          subst hsa
          have HTU:=Lib.hid (List.take_succ_eq_append_getElem hul)
          have HMU:Hid (zl[u]'hul∈zl):=List.getElem_mem hul
          have hyt:(zl[u]'hul).tags.n≤1000000000000:=(HXZ.out.each _ (List.getElem_mem hul)).tags
          obtain ⟨y,hy⟩:∃ y,y=zl[u]'hul:=⟨_,rfl⟩
          simp only at r3
          rw [← hy] at r3 HTU HMU hyt
          clear hy
          by_cases ht:0<y.tags.n
          ·have hti:(0:Int)<(y.tags.n:Int):=tZ1
           have hany:(zl.any fun y=>decide (0<y.tags.n))=true:=List.any_eq_true.2 ⟨y,HMU.out,by simpa using ht⟩
           have HX:=Lib.hid (HV.out.trans (if_pos hany))
           clear HV hany
           have KZ:=Lib.hid (hKz.out w5 HW5.out)
           have HB:=Lib.hid (hBW.out w5 HW5.out)
           obtain ⟨WR,hW4,hth,HL,HBW,hgw⟩:=res7 (g:=(w.heap.size+1)) [.string ⟨#[]⟩,.int .i64 0,.int .i64 0,.slice none 0 0,.slice none 0 0,.slice none 0 0,.slice none 0 0] KZ.out HB.out tZ1
           clear hgw
           go_wp2_with (refine wpList_store_mid rfl 27 (.tmp 4) (.tmp 81) rfl ((w.heap.size+1)) 0 #[.string ⟨#[]⟩,.int .i64 0,.int .i64 0,.slice none 0 0,.slice none 0 0,.slice none 0 0,.slice none 0 0] rfl rfl hth.out tZ2 tZ5 ?_;rw [← hW4];clear hW4)
           exact mZ167
          ·have hti:¬ (0:Int)<(y.tags.n:Int):=tZ1
           have HNU2:Hid ((zl.take (u+1)).any (fun y=>decide (0<y.tags.n))=false):=by
            show _=_
            rw [HTU.out,List.any_append,HNU.out]
            simp
            omega
           clear ht
           go_wp2_with fail
           go_roundw
           case rel=>exact ⟨u+1,by omega,by go_num,HNU2,trivial⟩
           case measure=>simp [intOf];omega
         ·obtain rfl:u=zn:=tZ1
          have HX:Hid (V=(0,C.dropS k)):=by
           refine HV.out.trans (if_neg ?_)
           have h:=HNU.out
           rw [HZN.out,List.take_length] at h
           rw [h]
           decide
          clear HNU HV hlt hu
          have hc:=hCP.out w5 HW5.out
          have kk:=hKt.out w5 HW5.out
          obtain ⟨c0,c1,c2,c3,c4,c5,c6⟩:=(⟨kk.cell 0,kk.cell 1,kk.cell 2,kk.cell 3,kk.cell 4,kk.cell 5,kk.cell 6⟩:_∧_∧_∧_∧_∧_∧_)
          simp only [zF,zD,zE] at c0 c1 c2 c3 c4 c5 c6
          clear kk
          clear hCP
          go_wp2_with fail
          refine hc.mono ?_
          clear hc c0 c1 c2 c3 c4 c5 c6
          rintro e w6 ⟨y,rfl,ho6,he6,hpw,hb6⟩
          have HW6:=Lib.hid (HW5.out.trans (hb6.mono HW5.out.size))
          have HCON:=Lib.hid ((TenR.eqv_iff _ _).1 he6)
          have hlen:y.sets.n=sn:=by
           have h1:=he6.lenS
           have h2:=ho6.sets.1
           have:=hSN.out
           simp only at h1
           omega
          obtain ⟨mm,mq,mx,⟨m1,m2,m3,ml⟩,⟨n1,n2,n3,nl⟩,⟨p1,p2,p3,pl⟩,⟨q1,q2,q3,ql⟩⟩:=y
          replace hlen:m2=sn:=hlen
          replace hpw:ml.Pairwise ApartS:=hpw
          have hms:m2=ml.length:=ho6.sets.1
          have hkm:k<m2:=tZ140
          have hkml:k<ml.length:=tZ1
          obtain ⟨gS,csS,hA,hbg,hblk⟩:=ho6.sets.blk (by show 0<m2;omega)
          replace hA:m1=some ⟨gS,0,none⟩:=hA
          subst hA
          have hgS6:=hblk.lt
          simp only [TenR.val,TenR.cells,FS.val,strV]
          have hszc:=hSZ.out w5 HW5.out
          have hszn:=hSZ.out w6 HW6.out
          have hb67:=(Below.refl w6.heap.size w6).alloc (Nat.le_refl _) (.cells #[.string ⟨mm.toArray⟩,.int .i64 mq,.int .i64 mx,.slice (some ⟨gS,0,none⟩) m2 m3,.slice n1 n2 n3,.slice p1 p2 p3,.slice q1 q2 q3] 27)
          have ho7:=ho6.below hb67
          have k7:=Blk.new w6 27 #[.string ⟨mm.toArray⟩,.int .i64 mq,.int .i64 mx,.slice (some ⟨gS,0,none⟩) m2 m3,.slice n1 n2 n3,.slice p1 p2 p3,.slice q1 q2 q3]
          have kz7:=(hKz.out w6 HW6.out).alloc (.cells #[.string ⟨mm.toArray⟩,.int .i64 mq,.int .i64 mx,.slice (some ⟨gS,0,none⟩) m2 m3,.slice n1 n2 n3,.slice p1 p2 p3,.slice q1 q2 q3] 27)
          have hbw7:=(hBW.out w6 HW6.out).alloc tZ1 (.cells #[.string ⟨mm.toArray⟩,.int .i64 mq,.int .i64 mx,.slice (some ⟨gS,0,none⟩) m2 m3,.slice n1 n2 n3,.slice p1 p2 p3,.slice q1 q2 q3] 27)
          have hw17:=HW6.out.alloc HW6.out.size (.cells #[.string ⟨mm.toArray⟩,.int .i64 mq,.int .i64 mx,.slice (some ⟨gS,0,none⟩) m2 m3,.slice n1 n2 n3,.slice p1 p2 p3,.slice q1 q2 q3] 27)
          have hsz7:(w6.alloc (.cells #[.string ⟨mm.toArray⟩,.int .i64 mq,.int .i64 mx,.slice (some ⟨gS,0,none⟩) m2 m3,.slice n1 n2 n3,.slice p1 p2 p3,.slice q1 q2 q3] 27)).heap.size=w6.heap.size+1:=tZ3
          obtain ⟨g5,hg5⟩:∃ g,g=w6.heap.size:=⟨_,rfl⟩
          obtain ⟨w7,hW7⟩:∃ W,W=w6.alloc (.cells #[.string ⟨mm.toArray⟩,.int .i64 mq,.int .i64 mx,.slice (some ⟨gS,0,none⟩) m2 m3,.slice n1 n2 n3,.slice p1 p2 p3,.slice q1 q2 q3] 27):=⟨_,rfl⟩
          rw [← hW7] at ho7 k7 kz7 hbw7 hw17 hsz7
          rw [← hg5] at k7 hsz7
          have HW7:=Lib.hid hw17
          have K7:=Lib.hid k7
          have KZ7:=Lib.hid kz7
          have HB7:=Lib.hid hbw7
          have HO7:=Lib.hid ho7
          have HPW:=Lib.hid hpw
          have HKM:=Lib.hid hkml
          have HG5:=Lib.hid (show gS<g5∧w5.heap.size≤gS∧g5<w7.heap.size∧w5.heap.size≤w7.heap.size∧w.heap.size+2≤w5.heap.size by omega)
          have hyc:Hid (TenR.con ⟨mm,mq,mx,⟨some ⟨gS,0,none⟩,m2,m3,ml⟩,⟨n1,n2,n3,nl⟩,⟨p1,p2,p3,pl⟩,⟨q1,q2,q3,ql⟩⟩=C):=by show _=_;rw [hHC.out];exact HCON.out.symm
          have hkm2:(k:Int)<(m2:Int):=tZ1
          obtain ⟨i0,hy0,hy1,hy2,hy3⟩:=info_parts Tryz.eachSet_info
          obtain ⟨k1,hk1⟩:∃ k1:Int,k1=(k:Int)+1:=⟨_,rfl⟩
          have hmz:m2≤1000000000000:=by have:=HZ.out.sets;simp only at this;omega
          have hwk:IntKind.i64.wrap ((k:Int)+1)=k1:=tZ21
          have hm23:m2≤m3:=by
           rcases ho7.sets.2.2 with ⟨_,h0⟩ | ⟨g,cap,cur,hs,_,_,hnc,_⟩
           ·have h0:m2=0:=h0
            omega
           ·simp only [FS.val] at hs
            injection hs with _ _ hs
            have hnc:m2≤cap:=hnc
            omega
          have hk1a:(0:Int)≤k1:=tZ1
          have hk1b:k1≤(m2:Int):=tZ1
          have hk1c:k1.toNat=k+1:=tZ1
          have hkm3:(k:Int)≤(m3:Int):=tZ1
          have hm23i:(m2:Int)≤(m3:Int):=tZ1
          have hS:Hid (∀ W,Below w7.heap.size w7 W→W.cell? ⟨g5,3,none⟩=some (.slice (some ⟨gS,0,none⟩) m2 m3)):=fun W h=>(K7.out.below h K7.out.lt).cell 3
          have hRDS:Hid (∀ W,Below w7.heap.size w7 W→Reads W W.heap.size 5 (some ⟨gS,0,none⟩) m2 (cellsK encSet ml)):=fun W h=>((HO7.out.below h).sets.rd).2.2
          have HSS:=Lib.hid (show W1.heap.size≤w7.heap.size∧w5.heap.size≤w7.heap.size from ⟨HW7.out.size,by omega⟩)
          have HKK:=Lib.hid (show k<m2∧m2=ml.length∧m2≤m3∧k1=(k:Int)+1 from ⟨hkm,hms,hm23,hk1⟩)
          clear ho6 he6 hb6 hlen hms hbg hblk hgS6 hszc hszn hb67 ho7 k7 kz7 hbw7 hw17 hsz7 hpw HCON hkm hks hk1 fa3
          go_upto_region 20 with (refine wpList_store_new w6 rfl 27 (.tmp 10) (.tmp 83) rfl 27 [.string ⟨#[]⟩,.int .i64 0,.int .i64 0,.slice none 0 0,.slice none 0 0,.slice none 0 0,.slice none 0 0] [.string ⟨mm.toArray⟩,.int .i64 mq,.int .i64 mx,.slice (some ⟨gS,0,none⟩) m2 m3,.slice n1 n2 n3,.slice p1 p2 p3,.slice q1 q2 q3] rfl rfl rfl tZ2 tZ5 ?_;rw [show ([.string ⟨mm.toArray⟩,.int .i64 mq,.int .i64 mx,.slice (some ⟨gS,0,none⟩) m2 m3,.slice n1 n2 n3,.slice p1 p2 p3,.slice q1 q2 q3]:List Value).toArray=#[.string ⟨mm.toArray⟩,.int .i64 mq,.int .i64 mx,.slice (some ⟨gS,0,none⟩) m2 m3,.slice n1 n2 n3,.slice p1 p2 p3,.slice q1 q2 q3] from rfl,← hW7,← hg5];clear hW7 hg5)
          go_upto_region 21 with (fail)
          refine wp_region_two 11 12 [] tZ2 tZ2 tZ2 tZ4 tZ4 tZ4 [(fun v _=>v=.slice none 0 0),
            (fun v _=>v=.pointer (some ⟨g5,3,none⟩)),
            (fun v _=>v=.slice (some ⟨gS,0,none⟩) m2 m3),
            (fun v _=>v=.int .i64 (k:Int)),
            (fun v _=>v=.slice (some ⟨gS,0,none⟩) k m3),
            (fun v W=>∃ A c,v=.slice A (k) c∧W.ownsRow w7.heap.size 56 5 v (k) ((cellsK encSet ml).take (k*5))),
            (fun v _=>v=.pointer (some ⟨g5,3,none⟩)),
            (fun v _=>v=.slice (some ⟨gS,0,none⟩) m2 m3),
            (fun v _=>v=.int .i64 (k:Int)),
            (fun v _=>v=.int .i64 k1),
            (fun v W=>∃ A,v=.slice A (m2-(k+1)) (m3-(k+1))∧Reads W W.heap.size 5 A (m2-(k+1)) ((cellsK encSet ml).drop ((k+1)*5))),
            (fun _ _=>True),
            (fun _ _=>True)] ?_ (early2 tZ2) ?_ (fun W9 u W=>∃ A1 c1,u=.slice A1 (k+(m2-(k+1))) c1∧W.ownsRow w7.heap.size 56 5 u (k+(m2-(k+1))) ((cellsK encSet ml).take (k*5)++(cellsK encSet ml).drop ((k+1)*5))∧Below w7.heap.size w7 W) ?_ ?_ ?_
          ·repeat' (first | exact stays_nil | refine stays_cons ?_ ?_ | exact Stays.pure | exact (fun v W W' h hb=>let ⟨A,c,h1,h2⟩:=h;⟨A,c,h1,own_below h2 hb⟩) | exact (fun v W W' h hb=>let ⟨A,h1,h2⟩:=h;⟨A,h1,(h2.below hb).more hb.size⟩))
          ·intro i oo ho hiS hiL hil mf W hb0 hmi hcl hdeps AA KK hA hK
           rcases i with _ | _ | _ | _ | _ | _ | _ | _ | _ | _ | _ | _ | _ | i
           ·injection ho with ho;subst ho
            have q5:=none_up hcl (j:=5) rfl (e:=⟨0,.data⟩) tZ3 rfl hmi
            have q11:=none_up hcl (j:=11) rfl (e:=⟨5,.data⟩) tZ3 rfl q5
            have q12:=none_up hcl (j:=12) rfl (e:=⟨11,.data⟩) tZ3 rfl q11
            have ef11:AA.tmps[11]?.getD undef=.slice none 0 0:=by rw [hA];exact tmps_pre2 (i:=12) tZ2 q12
            clear q5 q11 q12
            exact zP
           ·exact mZ218
           ·injection ho with ho;subst ho
            have e1:=eD hdeps hA 1 85
            have r1:=hS.out W hb0
            exact zP
           ·exact mZ217
           ·injection ho with ho;subst ho
            have e2:=eD hdeps hA 2 86
            have e3:=eD hdeps hA 3 87
            exact zP
           ·injection ho with ho;subst ho
            have e0:=eD hdeps hA 0 84
            have e4:=eD hdeps hA 4 88
            clear hA hdeps hcl hmi hiS hiL hil
            have hKK:=Lib.hid hK
            clear hK
            have hrd:=(hRDS.out W hb0).pre (k:=k) tZ91
            refine step_append_any W rfl (.tmp 84) (.tmp 88) 22 rfl w7.heap.size 56 i0 _ 5 104 Tryz.underlying22 hy0 hy1 hy2 hy3 rfl tZ4 (.slice none 0 0) 0 [] ?_ (World.ownsRow_nil _ _ _ _) W.heap.size (some ⟨gS,0,none⟩) k m3 _ ?_ hrd (fun u hu=>cells_one encSet_one _ u (List.mem_of_mem_take hu)) tZ115 tZ91 hb0.size ?_
            ·simpa [Act.eval] using e0
            ·simpa [Act.eval] using e4
            ·intro v' w' h1 h2 h3
             rw [Nat.zero_add,List.nil_append] at h1
             obtain ⟨v1,v3,rfl,_⟩:=own_form h1
             exact hKK.out _ _ (below_nil h2) ⟨v1,v3,rfl,h1⟩
           ·exact mZ218
           ·injection ho with ho;subst ho
            have e6:=eD hdeps hA 6 90
            have r1:=hS.out W hb0
            exact zP
           ·exact mZ217
           ·injection ho with ho;subst ho
            have e8:=eD hdeps hA 8 92
            exact zP
           ·injection ho with ho;subst ho
            have e7:=eD hdeps hA 7 91
            have e9:=eD hdeps hA 9 93
            clear hA hdeps hcl hmi hiS hiL hil
            have hrd:=(hRDS.out W hb0).rest (k:=k+1) (c:=m3) tZ91 HKK.out.2.2.1
            have hK0:KK (AA.put (some 94) _) _:=hK (.slice (if m3=k+1 then some ⟨gS,0,none⟩ else some ((⟨gS,0,none⟩:Addr).add ((k+1)*5))) (m2-(k+1)) (m3-(k+1))) W (Below.refl _ _) ⟨_,rfl,hrd⟩
            clear hK hrd
            by_cases hmc:m3=k+1
            ·rw [if_pos hmc,show m3-(k+1)=0 by omega] at hK0
             go_simp
             exact hK0
            ·rw [if_neg hmc,show ((⟨gS,0,none⟩:Addr).add ((k+1)*5))=⟨gS,(k+1)*5,none⟩ from by unfold Addr.add;rw [if_neg tZ1];simp] at hK0
             go_simp
             exact hK0
           ·exact absurd rfl hiS
           ·exact absurd rfl hiL
           ·simp at ho
          ·intro i oo ho hiS hiL hil mf W9 W hb9 hmi hcl hdeps hRW AA KK hA hK
           rcases i with _ | _ | _ | _ | _ | _ | _ | _ | _ | _ | _ | _ | _ | i
           ·exact mZ207
           ·exact mZ207
           ·exact mZ207
           ·exact mZ207
           ·exact mZ207
           ·exact mZ207
           ·exact mZ207
           ·exact mZ207
           ·exact mZ207
           ·exact mZ207
           ·exact mZ207
           ·exact absurd rfl hiS
           ·exact absurd rfl hiL
           ·simp at ho
          ·intro oo ho mf W hb0 hmi hcl hdeps AA KK hA hK
           injection ho with ho;subst ho
           obtain ⟨x5,hx5,hg5⟩:=hdeps ⟨5,.data⟩ tZ3 rfl
           have hg5:∃ A c,x5=.slice A (k) c∧W.ownsRow w7.heap.size 56 5 x5 (k) ((cellsK encSet ml).take (k*5)):=hg5
           obtain ⟨A5,c5,rfl,how5⟩:=hg5
           have e5:AA.tmps[89]?.getD undef=.slice A5 (k) c5:=tO hA hx5
           obtain ⟨x10,hx10,hg10⟩:=hdeps ⟨10,.data⟩ tZ3 rfl
           have hg10:∃ A,x10=.slice A (m2-(k+1)) (m3-(k+1))∧Reads W W.heap.size 5 A (m2-(k+1)) ((cellsK encSet ml).drop ((k+1)*5)):=hg10
           obtain ⟨A10,rfl,hr10⟩:=hg10
           have e10:AA.tmps[94]?.getD undef=.slice A10 (m2-(k+1)) (m3-(k+1)):=tO hA hx10
           clear hA hdeps hmi hcl
           have hKK:=Lib.hid hK
           clear hK
           refine step_append_any W rfl (.tmp 89) (.tmp 94) 22 rfl w7.heap.size 56 i0 _ 5 104 Tryz.underlying22 hy0 hy1 hy2 hy3 rfl tZ4 (.slice A5 k c5) k _ ?_ how5 W.heap.size A10 (m2-(k+1)) (m3-(k+1)) _ ?_ hr10 (fun u hu=>cells_one encSet_one _ u (List.mem_of_mem_drop hu)) tZ115 tZ91 hb0.size ?_
           ·simpa [Act.eval] using e5
           ·simpa [Act.eval] using e10
           ·intro v' w' h1 h2 h3
            obtain ⟨v1,v3,rfl,_⟩:=own_form h1
            exact hKK.out _ _ ⟨v1,v3,rfl,h1,hb0.grown h2 hb0.size (fun g hg=>(how5.lt g hg).1)⟩
          ·intro oo ho mf W9 W uS hb9 hmi hall hSm hR AA KK hA hK
           injection ho with ho;subst ho
           have zm0:=dV (hall 0 tZ3 tZ4 tZ4)
           have zm1:=dV (hall 1 tZ3 tZ4 tZ4)
           have zm2:=dV (hall 2 tZ3 tZ4 tZ4)
           have zm3:=dV (hall 3 tZ3 tZ4 tZ4)
           have zm4:=dV (hall 4 tZ3 tZ4 tZ4)
           obtain ⟨x5,zm5,hg5⟩:=hall 5 tZ3 tZ4 tZ4
           have hg5:∃ A c,x5=.slice A (k) c∧W9.ownsRow w7.heap.size 56 5 x5 (k) ((cellsK encSet ml).take (k*5)):=hg5
           obtain ⟨A5,c5,rfl,how5⟩:=hg5
           have zm6:=dV (hall 6 tZ3 tZ4 tZ4)
           have zm7:=dV (hall 7 tZ3 tZ4 tZ4)
           have zm8:=dV (hall 8 tZ3 tZ4 tZ4)
           have zm9:=dV (hall 9 tZ3 tZ4 tZ4)
           obtain ⟨x10,zm10,hg10⟩:=hall 10 tZ3 tZ4 tZ4
           have hg10:∃ A,x10=.slice A (m2-(k+1)) (m3-(k+1))∧Reads W9 W9.heap.size 5 A (m2-(k+1)) ((cellsK encSet ml).drop ((k+1)*5)):=hg10
           obtain ⟨A10,rfl,hr10⟩:=hg10
           obtain ⟨v1,v3,rfl,hv,hg⟩:=hR
           have e11:AA.tmps[95]?.getD undef=.slice v1 (k+(m2-(k+1))) v3:=tO hA hSm
           have hv2:W.ownsRow w7.heap.size 56 5 (.slice v1 (k+(m2-(k+1))) v3) (k+(m2-(k+1))) (cellsK encSet (ml.take k++ml.drop (k+1))):=by
            rw [cellsK_append,cellsK_take (enc:=encSet) (k:=5) (fun _=>rfl),cellsK_drop (enc:=encSet) (k:=5) (fun _=>rfl)]
            exact hv
           have HVR:=Lib.hid hv2
           have HBG:=Lib.hid hg
           clear hv hv2 hg hb9
           have hK0:=hK (.slice v1 (k+(m2-(k+1))) v3) (W)
           clear hA hK hall hmi
           go_simp
           refine hK0 ?_
           clear hK0 e11
           rw [frameM_all tZ2 [.slice none 0 0,.pointer (some ⟨g5,3,none⟩),.slice (some ⟨gS,0,none⟩) m2 m3,.int .i64 (k:Int),.slice (some ⟨gS,0,none⟩) k m3,.slice A5 (k) c5,.pointer (some ⟨g5,3,none⟩),.slice (some ⟨gS,0,none⟩) m2 m3,.int .i64 (k:Int),.int .i64 k1,.slice A10 (m2-(k+1)) (m3-(k+1)),.slice v1 (k+(m2-(k+1))) v3,.slice v1 (k+(m2-(k+1))) v3] rfl (fun i hi=>by rcases i with _ | _ | _ | _ | _ | _ | _ | _ | _ | _ | _ | _ | _ | i <;> first | (rw [upd_self];rfl) | (rw [upd_ne _ _ tZ4];assumption) | (simp at hi;omega))]
           clear hSm zm0 zm1 zm2 zm3 zm4 zm5 zm6 zm7 zm8 zm9 zm10
           simp only [putAll,Act.put,List.setIfInBounds_toArray,zC,zB]
           have kw:=K7.out.below HBG.out K7.out.lt
           have gz3:=kw.cell 3
           simp only [zF,zD,zE] at gz3
           have hz3:=kw.frozen 3
           have kw8:=kw.set_ 3 (.slice v1 (k+(m2-(k+1))) v3)
           simp only [List.setIfInBounds_toArray,zC,zB] at kw8
           have hoW:=HO7.out.below HBG.out
           have hw8:=(HW7.out.trans (HBG.out.mono HW7.out.size)).setCell (p:=⟨g5,3,none⟩) (by have:=HG5.out;have:=HW5.out.size;show W1.heap.size≤g5;omega) (.slice v1 (k+(m2-(k+1))) v3)
           have hten:TenO (W.setCell ⟨g5,3,none⟩ (.slice v1 (k+(m2-(k+1))) v3)) w5.heap.size ⟨mm,mq,mx,⟨v1,k+(m2-(k+1)),v3,ml.take k++ml.drop (k+1)⟩,⟨n1,n2,n3,nl⟩,⟨p1,p2,p3,pl⟩,⟨q1,q2,q3,ql⟩⟩:=by
            have h1:TenO W w5.heap.size ⟨mm,mq,mx,⟨v1,k+(m2-(k+1)),v3,ml.take k++ml.drop (k+1)⟩,⟨n1,n2,n3,nl⟩,⟨p1,p2,p3,pl⟩,⟨q1,q2,q3,ql⟩⟩:=TenO.newSets (y:=⟨mm,mq,mx,⟨some ⟨gS,0,none⟩,m2,m3,ml⟩,⟨n1,n2,n3,nl⟩,⟨p1,p2,p3,pl⟩,⟨q1,q2,q3,ql⟩⟩) (W:=W) hoW (grown_any (Below.refl _ _)) ⟨v1,k+(m2-(k+1)),v3,ml.take k++ml.drop (k+1)⟩ ⟨by have:=HKK.out;simp only [List.length_append,List.length_take,List.length_drop];omega,own_mono HVR.out HSS.out.2⟩ (fun z hz=>by
             rcases List.mem_append.1 hz with hz | hz
             ·exact hoW.eachS z (List.mem_of_mem_take hz)
             ·exact hoW.eachS z (List.mem_of_mem_drop hz))
            exact h1.keptT (grown_box W g5 3 (.slice v1 (k+(m2-(k+1))) v3)) kw offT_ten
           have hcon:TenR.con ⟨mm,mq,mx,⟨v1,k+(m2-(k+1)),v3,ml.take k++ml.drop (k+1)⟩,⟨n1,n2,n3,nl⟩,⟨p1,p2,p3,pl⟩,⟨q1,q2,q3,ql⟩⟩=C.dropS k:=by
            rw [← hyc.out]
            exact con_dropS ⟨mm,mq,mx,⟨some ⟨gS,0,none⟩,m2,m3,ml⟩,⟨n1,n2,n3,nl⟩,⟨p1,p2,p3,pl⟩,⟨q1,q2,q3,ql⟩⟩ k v1 (k+(m2-(k+1))) v3
           obtain ⟨W8,hW8⟩:∃ W',W'=W.setCell ⟨g5,3,none⟩ (.slice v1 (k+(m2-(k+1))) v3):=⟨_,rfl⟩
           rw [← hW8] at kw8 hw8 hten
           have HYO:=Lib.hid hten
           have HYC:=Lib.hid hcon
           have HW8:=Lib.hid hw8
           have K8:=Lib.hid kw8
           clear kw kw8 hoW hw8 hten hcon
           go_upto_region 23 with (fail)
           rw [← hW8]
           clear hW8 gz3 hz3 HVR
           have KZ:=Lib.hid (hKz.out W8 HW8.out)
           have HB:=Lib.hid (hBW.out W8 HW8.out)
           obtain ⟨d0,d1,d2,d3,d4,d5,d6⟩:=(⟨K8.out.cell 0,K8.out.cell 1,K8.out.cell 2,K8.out.cell 3,K8.out.cell 4,K8.out.cell 5,K8.out.cell 6⟩:_∧_∧_∧_∧_∧_∧_)
           simp only [zF,zD,zE] at d0 d1 d2 d3 d4 d5 d6
           obtain ⟨WR,hW4,hth,HL,HBW,hgw⟩:=res7 (g:=(w.heap.size+1)) [.string ⟨mm.toArray⟩,.int .i64 mq,.int .i64 mx,.slice v1 (k+(m2-(k+1))) v3,.slice n1 n2 n3,.slice p1 p2 p3,.slice q1 q2 q3] KZ.out HB.out tZ1
           have HOO:=Lib.hid ((TenO.keptT HYO.out hgw KZ.out offT_ten).mono (base':=w.heap.size) (by have:=hSZ.out w5 HW5.out;omega))
           clear hgw
           go_wp2_with (refine wpList_store_mid rfl 27 (.tmp 4) (.tmp 98) rfl ((w.heap.size+1)) 0 #[.string ⟨mm.toArray⟩,.int .i64 mq,.int .i64 mx,.slice v1 (k+(m2-(k+1))) v3,.slice n1 n2 n3,.slice p1 p2 p3,.slice q1 q2 q3] rfl rfl hth.out tZ2 tZ5 ?_;rw [← hW4];clear hW4)
           exact bodyPost_ret (v:=.tuple #[.agg #[.string ⟨mm.toArray⟩,.int .i64 mq,.int .i64 mx,.slice v1 (k+(m2-(k+1))) v3,.slice n1 n2 n3,.slice p1 p2 p3,.slice q1 q2 q3],.int .i64 0]) (results_cell_tmp rfl rfl HL.out) rfl (tenPost_ok HX.out HBW.out ⟨mm,mq,mx,⟨v1,k+(m2-(k+1)),v3,ml.take k++ml.drop (k+1)⟩,⟨n1,n2,n3,nl⟩,⟨p1,p2,p3,pl⟩,⟨q1,q2,q3,ql⟩⟩ HOO.out HYC.out)
 ·have HX:=Lib.hid (HV.out.trans (if_pos tZ4))
  clear HV HFK
  exact mZ216
 ·have HX:=Lib.hid (HV.out.trans (if_pos tZ4))
  clear HV HFK
  exact mZ215
end Go.Proofs.YtiojfffgiejibaaGreatDoor
