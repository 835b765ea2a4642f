/-
  shape.Create: an empty set more. The page's found and room. What may be, by content: a set more, a snapshot more, a set turned back: each keeps it.
-/
import Derived.Test.YtiojfffgiejibaaGreatDoorQsM1
import Derived.WalkKit
import Derived.WalkSpells
import Derived.Below
import Derived.Laws.OwnMore
import Derived.Deep.AppendLies
import Derived.Deep.Draws
import Derived.Laws.Rows
import Derived.Maps.AppendAt
import Derived.RegionTactic
import Derived.OwnWalk
import Derived.Deep.QuietTactic
import Derived.BigQuiet
import Derived.Lib.Hide
import Derived.Laws.CopyOwn
import Derived.IntWalk
import Derived.Test.YtiojfffgiejibaaGreatDoorRows
import Derived.Handy
import Derived.Deep.Quiet
import Derived.ProofKit
import Derived.OpenShut
import Derived.ShutString
import Derived.ChangeOld
import Derived.Carry
import Derived.SizedLaws
import Derived.JoinedCond
import Derived.Deep.CondSized
import Derived.Deep.Slices
import Derived.Deep.Fields
import Derived.Lib.SmallJoins
import Derived.Orders
import Derived.Lib.SplitLaws
import Derived.Lib.LastIndexByte
import Derived.Lib.Strings
import Derived.Sort.Walk0
import Derived.Sort.KeysCollected
import Derived.Deep.MidRow
import Derived.Lib.AppendZeros
import Derived.Shelf.Strings.Search1
import Derived.Shelf.Strings.Search2
import Derived.Shelf.Strings.Search3
import Derived.Shelf.Strings.Cut
import Derived.Shelf.Strings.Count
import Derived.Shelf.LaysM
import Derived.Shelf.Strings.Shaped
import Derived.Shelf.Strings.LastIndex
import Derived.Shelf.Strings.Split
import Derived.Shelf.Strings.SplitShaped
import Derived.Shelf.Unicode.Decode
import Derived.Shelf.Strings.RuneCount
import Derived.Shelf.Strings.Explode
import Derived.Shelf.Unicode.DecodeSlow
import Derived.Shelf.Slices.Turned
import Derived.Test.YtiojfffgiejibaaGreatDoorProg
import Derived.Lib.Overlaps
import Derived.Lib.AppendZerosOnto
import Derived.Deep.RegionLaw
import Derived.Laws.BytesString
import Derived.Laws.IdiomStrings
import Derived.Lib.ConvBytes
import Derived.Deep.DeepCutAuto
import Derived.Great.BuildSlice
import Derived.Test.YtiojfffgiejibaaGreatDoorQ0
import Derived.Test.YtiojfffgiejibaaGreatDoorQs1
import Derived.Test.YtiojfffgiejibaaGreatDoorQs2
import Derived.Test.YtiojfffgiejibaaGreatDoorQs5
import Derived.Test.YtiojfffgiejibaaGreatDoorQs6
import Derived.Test.YtiojfffgiejibaaGreatDoorQs7
import Derived.Test.YtiojfffgiejibaaGreatDoorQs9
import Derived.Test.YtiojfffgiejibaaGreatDoorQs10
import Derived.Test.YtiojfffgiejibaaGreatDoorQs16
import Derived.Test.YtiojfffgiejibaaGreatDoorQs19
import Derived.Test.YtiojfffgiejibaaGreatDoorQs20
import Derived.Test.YtiojfffgiejibaaGreatDoorQs21
import Derived.Test.YtiojfffgiejibaaGreatDoorQs22
import Derived.Test.YtiojfffgiejibaaGreatDoorQs25
import Derived.Test.YtiojfffgiejibaaGreatDoorQs26
import Derived.Test.YtiojfffgiejibaaGreatDoorQs27
import Derived.Test.YtiojfffgiejibaaGreatDoorQs29
import Derived.Test.YtiojfffgiejibaaGreatDoorQs30
import Derived.Test.YtiojfffgiejibaaGreatDoorQs33
import Derived.Test.YtiojfffgiejibaaGreatDoorQs35
import Derived.Test.YtiojfffgiejibaaGreatDoorQs36
import Derived.Test.YtiojfffgiejibaaGreatDoorQs39
namespace Go.Proofs.YtiojfffgiejibaaGreatDoor
open Go.RowKit
theorem set0R_o (w:World) (base:Nat) (p:BS):SetO w base ⟨p,[],⟨none,0,0,[]⟩,⟨none,0,0,[]⟩,⟨none,0,0,[]⟩⟩ :=
 ⟨⟨rfl,rfl,.inl ⟨rfl,rfl⟩⟩,⟨rfl,rfl,.inl ⟨rfl,rfl⟩⟩,fun y hy=>absurd hy tZ3,⟨rfl,rfl,.inl ⟨rfl,rfl⟩⟩⟩
set_option maxRecDepth 100000 in
set_option maxHeartbeats 4000000 in
theorem create_any (t:TenR) (p:BS) (w:World) (B:Nat) (hB:B≤w.heap.size) (hr:t.rd w B) (hz:t.sz) (hp:p.length≤4000000000) (hmx:HasMax w) :
  Calls Tryz.prog 7 #[t.val,.string ⟨p.toArray⟩] w (TenPost w (t.con.create p)):=by
 have h3:t.con.ask p=0∨t.con.ask p=9∨t.con.ask p=31:=tZ57
 obtain ⟨V,hV⟩:∃ V,V=t.con.create p:=⟨_,rfl⟩
 have hVe:V=if t.con.ask p≠0 then (t.con.ask p,t.con) else if 0≤findS t.sets.l p then (6,t.con) else if findS t.sets.l (upL p)<0 then (71,t.con) else if t.sets.l.length=32 then (3,t.con) else (t.con.withS (set0C p)).settle:=by
  rw [hV,findS_con,findS_con]
  unfold TenC.create
  rw [show t.con.sets.length=t.sets.l.length from List.length_map ..]
 rw [← hV]
 have hask:=askP_con t p
 have hord:t.con.ask p=0→t.sets.l.length≤32∧SignAsc (fun s:SetR=>cmpS s.path p) t.sets.l∧pathB p=true:=fun h=>by
  have h0:tenE t=0:=by
   rcases tenE_09 t with h1 | h1
   ·exact h1
   ·rw [← hask] at h
    unfold askP at h
    rw [if_pos h1] at h
    cases h
  have h1:=tenE_ord t h0
  refine ⟨h1.1,pairs_asc _ h1.2 p,?_⟩
  rw [← hask] at h
  unfold askP at h
  rw [if_neg (by rw [h0];decide)] at h
  cases hpb:pathB p with
  | true=>rfl
  | false=>rw [if_pos hpb] at h;cases h
 have hcz:=TenC.sz_of hr hz
 obtain ⟨nm,qu,nx,⟨s1,sn,s3,sl⟩,⟨u1,un,u3,ul⟩,⟨t1,tn,t3,tl⟩,⟨l1,ln,l3,ll⟩⟩:=t
 show Calls Tryz.prog 7 #[.agg #[.string ⟨nm.toArray⟩,.int .i64 qu,.int .i64 nx,.slice s1 sn s3,.slice u1 un u3,.slice t1 tn t3,.slice l1 ln l3],.string ⟨p.toArray⟩] w _
 have hb:=(((Below.refl w.heap.size w).alloc (Nat.le_refl _) (.cells #[.string ⟨nm.toArray⟩,.int .i64 qu,.int .i64 nx,.slice s1 sn s3,.slice u1 un u3,.slice t1 tn t3,.slice l1 ln l3] 27)).alloc tZ3 (.cells #[.string ⟨#[]⟩,.int .i64 0,.int .i64 0,.slice none 0 0,.slice none 0 0,.slice none 0 0,.slice none 0 0] 27))
 have kt:=Blk.new w 27 #[.string ⟨nm.toArray⟩,.int .i64 qu,.int .i64 nx,.slice s1 sn s3,.slice u1 un u3,.slice t1 tn t3,.slice l1 ln l3]
 replace kt:=kt.alloc (.cells #[.string ⟨#[]⟩,.int .i64 0,.int .i64 0,.slice none 0 0,.slice none 0 0,.slice none 0 0,.slice none 0 0] 27)
 have kz:=Blk.new (w.alloc (.cells #[.string ⟨nm.toArray⟩,.int .i64 qu,.int .i64 nx,.slice s1 sn s3,.slice u1 un u3,.slice t1 tn t3,.slice l1 ln l3] 27)) 27 #[.string ⟨#[]⟩,.int .i64 0,.int .i64 0,.slice none 0 0,.slice none 0 0,.slice none 0 0,.slice none 0 0]
 rw [show (w.alloc (.cells #[.string ⟨nm.toArray⟩,.int .i64 qu,.int .i64 nx,.slice s1 sn s3,.slice u1 un u3,.slice t1 tn t3,.slice l1 ln l3] 27)).heap.size=w.heap.size+1 by simp] at kz
 have hsz:((w.alloc (.cells #[.string ⟨nm.toArray⟩,.int .i64 qu,.int .i64 nx,.slice s1 sn s3,.slice u1 un u3,.slice t1 tn t3,.slice l1 ln l3] 27)).alloc (.cells #[.string ⟨#[]⟩,.int .i64 0,.int .i64 0,.slice none 0 0,.slice none 0 0,.slice none 0 0,.slice none 0 0] 27)).heap.size=w.heap.size+2:=tZ3
 obtain ⟨W1,hW1⟩:∃ W,W=((w.alloc (.cells #[.string ⟨nm.toArray⟩,.int .i64 qu,.int .i64 nx,.slice s1 sn s3,.slice u1 un u3,.slice t1 tn t3,.slice l1 ln l3] 27)).alloc (.cells #[.string ⟨#[]⟩,.int .i64 0,.int .i64 0,.slice none 0 0,.slice none 0 0,.slice none 0 0,.slice none 0 0] 27)):=⟨_,rfl⟩
 rw [← hW1] at hb hsz kt kz
 have hKt:Hid (∀ W,Below W1.heap.size W1 W→Blk W w.heap.size 27 #[.string ⟨nm.toArray⟩,.int .i64 qu,.int .i64 nx,.slice s1 sn s3,.slice u1 un u3,.slice t1 tn t3,.slice l1 ln l3]):=fun W h=>kt.below h tZ1
 have hKz:Hid (∀ W,Below W1.heap.size W1 W→Blk W (w.heap.size+1) 27 #[.string ⟨#[]⟩,.int .i64 0,.int .i64 0,.slice none 0 0,.slice none 0 0,.slice none 0 0,.slice none 0 0]):=fun W h=>kz.below h tZ1
 have hBW:Hid (∀ W,Below W1.heap.size W1 W→Below w.heap.size w W):=fun W h=>hb.trans (h.mono tZ1)
 have hSZ:Hid (∀ W,Below W1.heap.size W1 W→w.heap.size+2≤W.heap.size):=fun W h=>by have:=h.size;omega
 have hW0:Hid (Below W1.heap.size W1 W1):=Below.refl _ _
 have hrw:Hid (∀ W,Below W1.heap.size W1 W→TenR.rd W B ⟨nm,qu,nx,⟨s1,sn,s3,sl⟩,⟨u1,un,u3,ul⟩,⟨t1,tn,t3,tl⟩,⟨l1,ln,l3,ll⟩⟩∧B≤W.heap.size∧HasMax W):=fun W h =>
  ⟨TenR.rd.below hr ((hBW.out W h).mono hB),by have:=hSZ.out W h;omega,hmx.below (hBW.out W h)⟩
 obtain ⟨C,hC⟩:∃ C,C=TenR.con ⟨nm,qu,nx,⟨s1,sn,s3,sl⟩,⟨u1,un,u3,ul⟩,⟨t1,tn,t3,tl⟩,⟨l1,ln,l3,ll⟩⟩:=⟨_,rfl⟩
 have hHC:=Lib.hid hC
 rw [← hC] at h3 hVe hask hord hcz
 have hAS:Hid (∀ W,Below W1.heap.size W1 W→Calls Tryz.prog 40 #[.agg #[.string ⟨nm.toArray⟩,.int .i64 qu,.int .i64 nx,.slice s1 sn s3,.slice u1 un u3,.slice t1 tn t3,.slice l1 ln l3],.string ⟨p.toArray⟩] W fun e w'=>e=.returned (.int .i64 (C.ask p))∧Below W.heap.size W w'):=fun W h=>by
  rw [← hask]
  exact shAsked_any ⟨nm,qu,nx,⟨s1,sn,s3,sl⟩,⟨u1,un,u3,ul⟩,⟨t1,tn,t3,tl⟩,⟨l1,ln,l3,ll⟩⟩ p W B (hrw.out W h).2.1 (hrw.out W h).1 hz hp (hrw.out W h).2.2
 have hPA:Hid (C.ask p=0→∀ W,Below W1.heap.size W1 W→Calls Tryz.prog 41 #[.string ⟨p.toArray⟩] W fun e w'=>(∃ b,e=.returned (.tuple #[.string ⟨(upL p).toArray⟩,.bool b]))∧Below W.heap.size W w'):=fun h0 W h =>
  (parent_any ⟨p.toArray⟩ W tZ59 (hrw.out W h).2.2).mono (by
   rintro e w' ⟨h1,⟨h2,rfl⟩ | ⟨h2,h3,rfl⟩⟩
   ·rcases h2 with h2 | h2
    ·have h2:p=[]:=h2
     subst h2
     exact ⟨⟨false,rfl⟩,h1⟩
    ·have h2:pathB p=false:=h2
     rw [(hord h0).2.2] at h2
     cases h2
   ·exact ⟨⟨true,rfl⟩,h1⟩)
 have hFD:Hid (∀ q:BS,∀ W,Below W1.heap.size W1 W→Calls Tryz.prog 42 #[.agg #[.string ⟨nm.toArray⟩,.int .i64 qu,.int .i64 nx,.slice s1 sn s3,.slice u1 un u3,.slice t1 tn t3,.slice l1 ln l3],.string ⟨q.toArray⟩] W fun e w'=>e=.returned (.int .i64 (findS sl q))∧Below W.heap.size W w'):=fun q W h =>
  find_any _ _ _ _ _ _ sl sn hr.sets.1 s1 s3 q W B (hrw.out W h).1.sets.2.2 (hrw.out W h).2.1 tZ17
 have hWI:Hid (C.ask p=0→∀ W,Below W1.heap.size W1 W→Calls Tryz.prog 43 #[.agg #[.string ⟨nm.toArray⟩,.int .i64 qu,.int .i64 nx,.slice s1 sn s3,.slice u1 un u3,.slice t1 tn t3,.slice l1 ln l3],.agg #[.string ⟨p.toArray⟩,.string ⟨#[]⟩,.slice none 0 0,.slice none 0 0,.slice none 0 0]] W fun e w'=>∃ y:TenR,e=.returned y.val∧TenO w' W.heap.size y∧y.con=C.withS (set0C p)∧Below W.heap.size W w'):=fun h0 W h=>by
  rw [hC]
  exact with_any ⟨nm,qu,nx,⟨s1,sn,s3,sl⟩,⟨u1,un,u3,ul⟩,⟨t1,tn,t3,tl⟩,⟨l1,ln,l3,ll⟩⟩ ⟨p,[],⟨none,0,0,[]⟩,⟨none,0,0,[]⟩,⟨none,0,0,[]⟩⟩ W B W.heap.size (hrw.out W h).2.1 (hrw.out W h).1 hz (set0R_o _ _ p) (Nat.le_refl _) (by have h1:=(hord h0).1;have h2:=hr.sets.1;simp only at h1 h2 ⊢;omega) (hord h0).2.1
 have hSE:Hid (C.ask p=0→∀ y:TenR,y.con=C.withS (set0C p)→∀ W,TenO W W1.heap.size y→Below W1.heap.size W1 W→Calls Tryz.prog 11 #[y.val] W (TenPost W (C.withS (set0C p)).settle)):=fun h0 y hy W ho h=>by
  rw [← hy]
  refine settleT_any y W W.heap.size (Nat.le_refl _) ho.rd (TenR.sz_of ho.rd ?_) (hrw.out W h).2.2
  rw [hy]
  exact hcz.withS (set0C_sz p hp) (by have h1:=(hord h0).1;rw [hC];show (List.map _ _).length≤_;rw [List.length_map];simp only at h1 ⊢;omega)
 have HSL:=Lib.hid (show (sn:Int)=(sl.length:Int) by have:=hr.sets.1;simp only at this;omega)
 obtain ⟨E0,hE0⟩:∃ E,E=C.ask p:=⟨_,rfl⟩
 have hE0':Hid (E0=0→C.ask p=0):=fun h=>by rw [← hE0];exact h
 rw [← hE0] at h3 hVe hAS
 have HV:=Lib.hid hVe
 clear hb hsz kt kz hr hz hp hmx hVe hV hask hord hcz hC hE0
 go_enter Tryz.func7,Tryz.ntmps7
 have hc:=hAS.out  W1 hW0.out
 have kk:=hKt.out W1 hW0.out
 obtain ⟨c0,c1,c2,c3,c4,c5,c6⟩:=(⟨kk.cell 0,kk.cell 1,kk.cell 2,kk.cell 3,kk.cell 4,kk.cell 5,kk.cell 6⟩:_∧_∧_∧_∧_∧_∧_)
 simp only [zF,zD,zE] at c0 c1 c2 c3 c4 c5 c6
 clear kk
 go_wp2_with fail
 rw [← hW1]
 clear hW1
 refine hc.mono ?_
 clear hc c0 c1 c2 c3 c4 c5 c6
 rintro e w2 ⟨rfl,hb⟩
 have HW2:=Lib.hid (hW0.out.trans (hb.mono hW0.out.size))
 clear hb
 rcases h3 with rfl | rfl | rfl
 ·have hA0:=hE0'.out rfl
  have HA0:=Lib.hid hA0
  clear hE0' hA0
  have HV:=Lib.hid (HV.out.trans (if_neg tZ4))
  have hc:=hPA.out HA0.out w2 HW2.out
  go_wp2_with fail
  refine hc.mono ?_
  clear hc
  rintro e w3 ⟨⟨b,rfl⟩,hb⟩
  have HW3:=Lib.hid (HW2.out.trans (hb.mono HW2.out.size))
  clear hb
  have hc:=hFD.out p w3 HW3.out
  have kk:=hKt.out w3 HW3.out
  obtain ⟨c0,c1,c2,c3,c4,c5,c6⟩:=(⟨kk.cell 0,kk.cell 1,kk.cell 2,kk.cell 3,kk.cell 4,kk.cell 5,kk.cell 6⟩:_∧_∧_∧_∧_∧_∧_)
  simp only [zF,zD,zE] at c0 c1 c2 c3 c4 c5 c6
  clear kk
  go_wp2_with fail
  refine hc.mono ?_
  clear hc c0 c1 c2 c3 c4 c5 c6
  rintro e w4 ⟨rfl,hb⟩
  have HW4:=Lib.hid (HW3.out.trans (hb.mono HW3.out.size))
  clear hb
  obtain ⟨F1,hF1⟩:∃ F,F=findS sl p:=⟨_,rfl⟩
  rw [← hF1] at HV ⊢
  clear hF1
  by_cases hf:0≤F1
  ·have HX:=Lib.hid (HV.out.trans (if_pos hf))
   clear HV
   have KZ:=Lib.hid (hKz.out w4 HW4.out)
   have HB:=Lib.hid (hBW.out w4 HW4.out)
   obtain ⟨WR,hW4,hth,HL,HBW,hgw⟩:=res7 (g:=(w.heap.size+1)) [.string ⟨#[]⟩,.int .i64 0,.int .i64 0,.slice none 0 0,.slice none 0 0,.slice none 0 0,.slice none 0 0] KZ.out HB.out tZ1
   clear hgw
   go_wp2_with (refine wpList_store_mid rfl 27 (.tmp 4) (.tmp 26) rfl ((w.heap.size+1)) 0 #[.string ⟨#[]⟩,.int .i64 0,.int .i64 0,.slice none 0 0,.slice none 0 0,.slice none 0 0,.slice none 0 0] rfl rfl hth.out tZ2 tZ5 ?_;rw [← hW4];clear hW4)
   exact bodyPost_ret (v:=.tuple #[.agg #[.string ⟨#[]⟩,.int .i64 0,.int .i64 0,.slice none 0 0,.slice none 0 0,.slice none 0 0,.slice none 0 0],.int .i64 6]) (results_cell_tmp rfl rfl HL.out) rfl (tenPost_err HX.out tZ4 HBW.out)
  ·have HV:=Lib.hid (HV.out.trans (if_neg hf))
   have hc:=hFD.out (upL p) w4 HW4.out
   have kk:=hKt.out w4 HW4.out
   obtain ⟨c0,c1,c2,c3,c4,c5,c6⟩:=(⟨kk.cell 0,kk.cell 1,kk.cell 2,kk.cell 3,kk.cell 4,kk.cell 5,kk.cell 6⟩:_∧_∧_∧_∧_∧_∧_)
   simp only [zF,zD,zE] at c0 c1 c2 c3 c4 c5 c6
   clear kk
   go_wp2_with fail
   refine hc.mono ?_
   clear hc c0 c1 c2 c3 c4 c5 c6
   rintro e w5 ⟨rfl,hb⟩
   have HW5:=Lib.hid (HW4.out.trans (hb.mono HW4.out.size))
   clear hb
   obtain ⟨F2,hF2⟩:∃ F,F=findS sl (upL p):=⟨_,rfl⟩
   rw [← hF2] at HV ⊢
   clear hF2 hf
   by_cases hf:F2<0
   ·have HX:=Lib.hid (HV.out.trans (if_pos hf))
    clear HV
    have KZ:=Lib.hid (hKz.out w5 HW5.out)
    have HB:=Lib.hid (hBW.out w5 HW5.out)
    obtain ⟨WR,hW4,hth,HL,HBW,hgw⟩:=res7 (g:=(w.heap.size+1)) [.string ⟨#[]⟩,.int .i64 0,.int .i64 0,.slice none 0 0,.slice none 0 0,.slice none 0 0,.slice none 0 0] KZ.out HB.out tZ1
    clear hgw
    go_wp2_with (refine wpList_store_mid rfl 27 (.tmp 4) (.tmp 32) rfl ((w.heap.size+1)) 0 #[.string ⟨#[]⟩,.int .i64 0,.int .i64 0,.slice none 0 0,.slice none 0 0,.slice none 0 0,.slice none 0 0] rfl rfl hth.out tZ2 tZ5 ?_;rw [← hW4];clear hW4)
    exact mZ186
   ·have HV:=Lib.hid (HV.out.trans (if_neg hf))
    by_cases hl:(sn:Int)=32
    ·have HX:=Lib.hid (HV.out.trans (if_pos (by have:=HSL.out;show sl.length=32;omega)))
     have hl1:((sn:Int) == 32)=true:=tZ68
     have kk:=hKt.out w5 HW5.out
     obtain ⟨c0,c1,c2,c3,c4,c5,c6⟩:=(⟨kk.cell 0,kk.cell 1,kk.cell 2,kk.cell 3,kk.cell 4,kk.cell 5,kk.cell 6⟩:_∧_∧_∧_∧_∧_∧_)
     simp only [zF,zD,zE] at c0 c1 c2 c3 c4 c5 c6
     clear kk
     clear HV
     have KZ:=Lib.hid (hKz.out w5 HW5.out)
     have HB:=Lib.hid (hBW.out w5 HW5.out)
     obtain ⟨WR,hW4,hth,HL,HBW,hgw⟩:=res7 (g:=(w.heap.size+1)) [.string ⟨#[]⟩,.int .i64 0,.int .i64 0,.slice none 0 0,.slice none 0 0,.slice none 0 0,.slice none 0 0] KZ.out HB.out tZ1
     clear hgw
     go_wp2_with (refine wpList_store_mid rfl 27 (.tmp 4) (.tmp 38) rfl ((w.heap.size+1)) 0 #[.string ⟨#[]⟩,.int .i64 0,.int .i64 0,.slice none 0 0,.slice none 0 0,.slice none 0 0,.slice none 0 0] rfl rfl hth.out tZ2 tZ5 ?_;rw [← hW4];clear hW4)
     exact bodyPost_ret (v:=.tuple #[.agg #[.string ⟨#[]⟩,.int .i64 0,.int .i64 0,.slice none 0 0,.slice none 0 0,.slice none 0 0,.slice none 0 0],.int .i64 3]) (results_cell_tmp rfl rfl HL.out) rfl (tenPost_err HX.out tZ4 HBW.out)
    ·have HV:=Lib.hid (HV.out.trans (if_neg (by have:=HSL.out;show ¬ sl.length=32;omega)))
     have hl1:((sn:Int) == 32)=false:=tZ68
     have hc:=hWI.out HA0.out w5 HW5.out
     have kk:=hKt.out w5 HW5.out
     obtain ⟨c0,c1,c2,c3,c4,c5,c6⟩:=(⟨kk.cell 0,kk.cell 1,kk.cell 2,kk.cell 3,kk.cell 4,kk.cell 5,kk.cell 6⟩:_∧_∧_∧_∧_∧_∧_)
     simp only [zF,zD,zE] at c0 c1 c2 c3 c4 c5 c6
     clear kk
     go_wp2_with fail
     refine hc.mono ?_
     clear hc c0 c1 c2 c3 c4 c5 c6
     rintro e w6 ⟨y,rfl,ho,hy,hb⟩
     have HW6:=Lib.hid (HW5.out.trans (hb.mono HW5.out.size))
     clear hb
     have ho6:=ho.mono HW5.out.size
     have hc:=hSE.out HA0.out y hy w6 ho6 HW6.out
     obtain ⟨⟨E,C2⟩,hV2⟩:∃ V2:Int×TenC,V2=(C.withS (set0C p)).settle:=⟨_,rfl⟩
     rw [← hV2] at hc
     have HX:=Lib.hid (HV.out.trans hV2.symm)
     clear ho hy ho6 hV2
     obtain ⟨yv,hyv⟩:∃ v,v=y.val:=⟨_,rfl⟩
     rw [← hyv] at hc ⊢
     clear hyv
     go_wp2_with fail
     refine hc.mono ?_
     clear hc
     rintro e w7 ⟨v,rfl,hb,hcs⟩
     have HW7:=Lib.hid (HW6.out.trans (hb.mono HW6.out.size))
     clear hb
     rcases hcs with ⟨h1,rfl⟩ | ⟨h1,z,rfl,ho,hy⟩
     ·simp only at h1
      have HE:=Lib.hid h1
      clear h1
      unfold ZEROT
      have KZ:=Lib.hid (hKz.out w7 HW7.out)
      have HB:=Lib.hid (hBW.out w7 HW7.out)
      obtain ⟨WR,hW4,hth,HL,HBW,hgw⟩:=res7 (g:=(w.heap.size+1)) [.string ⟨#[]⟩,.int .i64 0,.int .i64 0,.slice none 0 0,.slice none 0 0,.slice none 0 0,.slice none 0 0] KZ.out HB.out tZ1
      clear hgw
      go_wp2_with (refine wpList_store_mid rfl 27 (.tmp 4) (.tmp 44) rfl ((w.heap.size+1)) 0 #[.string ⟨#[]⟩,.int .i64 0,.int .i64 0,.slice none 0 0,.slice none 0 0,.slice none 0 0,.slice none 0 0] rfl rfl hth.out tZ2 tZ5 ?_;rw [← hW4];clear hW4)
      exact bodyPost_ret (v:=.tuple #[.agg #[.string ⟨#[]⟩,.int .i64 0,.int .i64 0,.slice none 0 0,.slice none 0 0,.slice none 0 0,.slice none 0 0],.int .i64 E]) (results_cell_tmp rfl rfl HL.out) rfl (tenPost_err HX.out HE.out HBW.out)
     ·simp only at h1
      subst h1
      have HO:=Lib.hid (ho.mono (base':=w.heap.size) (by have:=hSZ.out w6 HW6.out;omega))
      have HY:=Lib.hid hy
      clear ho hy
      obtain ⟨mm,mq,mx,⟨m1,m2,m3,ml⟩,⟨n1,n2,n3,nl⟩,⟨p1,p2,p3,pl⟩,⟨q1,q2,q3,ql⟩⟩:=z
      simp only [TenR.val,TenR.cells,FS.val,strV]
      have KZ:=Lib.hid (hKz.out w7 HW7.out)
      have HB:=Lib.hid (hBW.out w7 HW7.out)
      obtain ⟨WR,hW4,hth,HL,HBW,hgw⟩:=res7 (g:=(w.heap.size+1)) [.string ⟨mm.toArray⟩,.int .i64 mq,.int .i64 mx,.slice m1 m2 m3,.slice n1 n2 n3,.slice p1 p2 p3,.slice q1 q2 q3] KZ.out HB.out tZ1
      have HOO:=Lib.hid (TenO.keptT HO.out hgw KZ.out offT_ten)
      clear hgw
      go_wp2_with (refine wpList_store_mid rfl 27 (.tmp 4) (.tmp 44) rfl ((w.heap.size+1)) 0 #[.string ⟨mm.toArray⟩,.int .i64 mq,.int .i64 mx,.slice m1 m2 m3,.slice n1 n2 n3,.slice p1 p2 p3,.slice q1 q2 q3] rfl rfl hth.out tZ2 tZ5 ?_;rw [← hW4];clear hW4)
      exact bodyPost_ret (v:=.tuple #[.agg #[.string ⟨mm.toArray⟩,.int .i64 mq,.int .i64 mx,.slice m1 m2 m3,.slice n1 n2 n3,.slice p1 p2 p3,.slice q1 q2 q3],.int .i64 0]) (results_cell_tmp rfl rfl HL.out) rfl (tenPost_ok HX.out HBW.out ⟨mm,mq,mx,⟨m1,m2,m3,ml⟩,⟨n1,n2,n3,nl⟩,⟨p1,p2,p3,pl⟩,⟨q1,q2,q3,ql⟩⟩ HOO.out HY.out)
 ·have HX:=Lib.hid (HV.out.trans (if_pos tZ4))
  clear HV hE0'
  have KZ:=Lib.hid (hKz.out w2 HW2.out)
  have HB:=Lib.hid (hBW.out w2 HW2.out)
  obtain ⟨WR,hW4,hth,HL,HBW,hgw⟩:=res7 (g:=(w.heap.size+1)) [.string ⟨#[]⟩,.int .i64 0,.int .i64 0,.slice none 0 0,.slice none 0 0,.slice none 0 0,.slice none 0 0] KZ.out HB.out tZ1
  clear hgw
  go_wp2_with (refine wpList_store_mid rfl 27 (.tmp 4) (.tmp 14) rfl ((w.heap.size+1)) 0 #[.string ⟨#[]⟩,.int .i64 0,.int .i64 0,.slice none 0 0,.slice none 0 0,.slice none 0 0,.slice none 0 0] rfl rfl hth.out tZ2 tZ5 ?_;rw [← hW4];clear hW4)
  exact mZ164
 ·have HX:=Lib.hid (HV.out.trans (if_pos tZ4))
  clear HV hE0'
  have KZ:=Lib.hid (hKz.out w2 HW2.out)
  have HB:=Lib.hid (hBW.out w2 HW2.out)
  obtain ⟨WR,hW4,hth,HL,HBW,hgw⟩:=res7 (g:=(w.heap.size+1)) [.string ⟨#[]⟩,.int .i64 0,.int .i64 0,.slice none 0 0,.slice none 0 0,.slice none 0 0,.slice none 0 0] KZ.out HB.out tZ1
  clear hgw
  go_wp2_with (refine wpList_store_mid rfl 27 (.tmp 4) (.tmp 14) rfl ((w.heap.size+1)) 0 #[.string ⟨#[]⟩,.int .i64 0,.int .i64 0,.slice none 0 0,.slice none 0 0,.slice none 0 0,.slice none 0 0] rfl rfl hth.out tZ2 tZ5 ?_;rw [← hW4];clear hW4)
  exact mZ163
end Go.Proofs.YtiojfffgiejibaaGreatDoor
namespace Go.Proofs.YtiojfffgiejibaaGreatDoor
open Go.RowKit
/-- a new set's errors -/
def TenC.room (c:TenC) (p:BS):Int:=if 0≤c.find p then 6 else if c.find (upL p)<0 then 71 else if c.sets.length=32 then 3 else 0
set_option maxRecDepth 100000 in
set_option maxHeartbeats 4000000 in
theorem rroom_any (t:TenR) (p:BS) (w:World) (B:Nat) (hB:B≤w.heap.size) (hr:t.rd w B) (hz:t.sz) (hp:p.length≤4000000000) (hpb:pathB p=true) :
  Calls Tryz.prog 45 #[t.val,.string ⟨p.toArray⟩] w fun e w'=>e=.returned (.int .i64 (t.con.room p))∧Below w.heap.size w w':=by
 obtain ⟨V,hV⟩:∃ V,V=t.con.room p:=⟨_,rfl⟩
 have hVe:V=if 0≤findS t.sets.l p then 6 else if findS t.sets.l (upL p)<0 then 71 else if t.sets.l.length=32 then 3 else 0:=by
  rw [hV,findS_con,findS_con]
  unfold TenC.room
  rw [show t.con.sets.length=t.sets.l.length from List.length_map ..]
 rw [← hV]
 obtain ⟨nm,qu,nx,⟨s1,sn,s3,sl⟩,⟨u1,un,u3,ul⟩,⟨t1,tn,t3,tl⟩,⟨l1,ln,l3,ll⟩⟩:=t
 show Calls Tryz.prog 45 #[.agg #[.string ⟨nm.toArray⟩,.int .i64 qu,.int .i64 nx,.slice s1 sn s3,.slice u1 un u3,.slice t1 tn t3,.slice l1 ln l3],.string ⟨p.toArray⟩] w _
 have hb:=((Below.refl w.heap.size w).alloc (Nat.le_refl _) (.cells #[.string ⟨nm.toArray⟩,.int .i64 qu,.int .i64 nx,.slice s1 sn s3,.slice u1 un u3,.slice t1 tn t3,.slice l1 ln l3] 27))
 have kt:=Blk.new w 27 #[.string ⟨nm.toArray⟩,.int .i64 qu,.int .i64 nx,.slice s1 sn s3,.slice u1 un u3,.slice t1 tn t3,.slice l1 ln l3]
 have hsz:(w.alloc (.cells #[.string ⟨nm.toArray⟩,.int .i64 qu,.int .i64 nx,.slice s1 sn s3,.slice u1 un u3,.slice t1 tn t3,.slice l1 ln l3] 27)).heap.size=w.heap.size+1:=tZ3
 obtain ⟨W1,hW1⟩:∃ W,W=(w.alloc (.cells #[.string ⟨nm.toArray⟩,.int .i64 qu,.int .i64 nx,.slice s1 sn s3,.slice u1 un u3,.slice t1 tn t3,.slice l1 ln l3] 27)):=⟨_,rfl⟩
 rw [← hW1] at hb hsz kt
 have hKt:Hid (∀ W,Below W1.heap.size W1 W→Blk W w.heap.size 27 #[.string ⟨nm.toArray⟩,.int .i64 qu,.int .i64 nx,.slice s1 sn s3,.slice u1 un u3,.slice t1 tn t3,.slice l1 ln l3]):=fun W h=>kt.below h tZ1
 have hBW:Hid (∀ W,Below W1.heap.size W1 W→Below w.heap.size w W):=fun W h=>hb.trans (h.mono tZ1)
 have hSZ:Hid (∀ W,Below W1.heap.size W1 W→w.heap.size+1≤W.heap.size):=fun W h=>by have:=h.size;omega
 have hW0:Hid (Below W1.heap.size W1 W1):=Below.refl _ _
 have hrw:Hid (∀ W,Below W1.heap.size W1 W→TenR.rd W B ⟨nm,qu,nx,⟨s1,sn,s3,sl⟩,⟨u1,un,u3,ul⟩,⟨t1,tn,t3,tl⟩,⟨l1,ln,l3,ll⟩⟩∧B≤W.heap.size):=fun W h =>
  ⟨TenR.rd.below hr ((hBW.out W h).mono hB),by have:=hSZ.out W h;omega⟩
 have hPA:Hid (∀ W,Below W1.heap.size W1 W→Calls Tryz.prog 92 #[.string ⟨p.toArray⟩] W fun e w'=>(∃ b,e=.returned (.tuple #[.string ⟨(upL p).toArray⟩,.bool b]))∧Below W.heap.size W w'):=fun W h =>
  (refParent_any ⟨p.toArray⟩ W tZ59).mono (by
   rintro e w' ⟨h1,⟨h2,rfl⟩ | ⟨h2,h3,rfl⟩⟩
   ·rcases h2 with h2 | h2
    ·have h2:p=[]:=h2
     subst h2
     exact ⟨⟨false,rfl⟩,h1⟩
    ·have h2:pathB p=false:=h2
     rw [hpb] at h2
     cases h2
   ·exact ⟨⟨true,rfl⟩,h1⟩)
 have hFD:Hid (∀ q:BS,∀ W,Below W1.heap.size W1 W→Calls Tryz.prog 33 #[.agg #[.string ⟨nm.toArray⟩,.int .i64 qu,.int .i64 nx,.slice s1 sn s3,.slice u1 un u3,.slice t1 tn t3,.slice l1 ln l3],.string ⟨q.toArray⟩] W fun e w'=>e=.returned (.int .i64 (findS sl q))∧Below W.heap.size W w'):=fun q W h =>
  refFind_any _ _ _ _ _ _ sl sn hr.sets.1 s1 s3 q W B (hrw.out W h).1.sets.2.2 (hrw.out W h).2 tZ17
 have HSL:=Lib.hid (show (sn:Int)=(sl.length:Int) by have:=hr.sets.1;simp only at this;omega)
 simp only at hVe
 have HV:=Lib.hid hVe
 clear hb hsz kt hr hz hp hpb hV hVe
 go_enter Tryz.func45,Tryz.ntmps45
 have hc:=hPA.out  W1 hW0.out
 go_wp2_with fail
 rw [← hW1]
 clear hW1
 refine hc.mono ?_
 clear hc
 rintro e w2 ⟨⟨b,rfl⟩,hb⟩
 have HW2:=Lib.hid (hW0.out.trans (hb.mono hW0.out.size))
 clear hb
 have hc:=hFD.out p w2 HW2.out
 have kk:=hKt.out w2 HW2.out
 obtain ⟨c0,c1,c2,c3,c4,c5,c6⟩:=(⟨kk.cell 0,kk.cell 1,kk.cell 2,kk.cell 3,kk.cell 4,kk.cell 5,kk.cell 6⟩:_∧_∧_∧_∧_∧_∧_)
 simp only [zF,zD,zE] at c0 c1 c2 c3 c4 c5 c6
 clear kk
 go_wp2_with fail
 refine hc.mono ?_
 clear hc c0 c1 c2 c3 c4 c5 c6
 rintro e w3 ⟨rfl,hb⟩
 have HW3:=Lib.hid (HW2.out.trans (hb.mono HW2.out.size))
 clear hb
 obtain ⟨F1,hF1⟩:∃ F,F=findS sl p:=⟨_,rfl⟩
 rw [← hF1] at HV ⊢
 clear hF1
 by_cases hf:0≤F1
 ·have HX:=Lib.hid (HV.out.trans (if_pos hf))
  clear HV
  go_wp2_with fail
  go_ret
  exact ⟨by rw [HX.out];rfl,hBW.out _ HW3.out⟩
 ·have HV:=Lib.hid (HV.out.trans (if_neg hf))
  have hc:=hFD.out (upL p) w3 HW3.out
  have kk:=hKt.out w3 HW3.out
  obtain ⟨c0,c1,c2,c3,c4,c5,c6⟩:=(⟨kk.cell 0,kk.cell 1,kk.cell 2,kk.cell 3,kk.cell 4,kk.cell 5,kk.cell 6⟩:_∧_∧_∧_∧_∧_∧_)
  simp only [zF,zD,zE] at c0 c1 c2 c3 c4 c5 c6
  clear kk
  go_wp2_with fail
  refine hc.mono ?_
  clear hc c0 c1 c2 c3 c4 c5 c6
  rintro e w4 ⟨rfl,hb⟩
  have HW4:=Lib.hid (HW3.out.trans (hb.mono HW3.out.size))
  clear hb
  obtain ⟨F2,hF2⟩:∃ F,F=findS sl (upL p):=⟨_,rfl⟩
  rw [← hF2] at HV ⊢
  clear hF2 hf
  by_cases hf:F2<0
  ·have HX:=Lib.hid (HV.out.trans (if_pos hf))
   exact mZ221
  ·have HV:=Lib.hid (HV.out.trans (if_neg hf))
   have kk:=hKt.out w4 HW4.out
   obtain ⟨c0,c1,c2,c3,c4,c5,c6⟩:=(⟨kk.cell 0,kk.cell 1,kk.cell 2,kk.cell 3,kk.cell 4,kk.cell 5,kk.cell 6⟩:_∧_∧_∧_∧_∧_∧_)
   simp only [zF,zD,zE] at c0 c1 c2 c3 c4 c5 c6
   clear kk
   by_cases hl:(sn:Int)=32
   ·have HX:=Lib.hid (HV.out.trans (if_pos tZ98))
    have hl1:((sn:Int) == 32)=true:=tZ68
    exact mZ221
   ·have HX:=Lib.hid (HV.out.trans (if_neg tZ98))
    have hl1:((sn:Int) == 32)=false:=tZ68
    exact mZ221
end Go.Proofs.YtiojfffgiejibaaGreatDoor
namespace Go.Proofs.YtiojfffgiejibaaGreatDoor
open Go.RowKit
theorem withS_form (c:TenC) (s:SetC):∃ A B,c.sets=A++B∧(c.withS s).sets=A++s :: B∧(∀ x∈A,Op.bytesLess x.path s.path=true)∧∀ b B',B=b :: B'→Op.bytesLess b.path s.path=false:=by
 refine ⟨c.sets.takeWhile fun x=>decide (cmpS x.path s.path<0),c.sets.dropWhile fun x=>decide (cmpS x.path s.path<0),List.takeWhile_append_dropWhile.symm,?_,fun x hx=>?_,fun b B' h=>?_⟩
 ·have hp:posF (fun x:SetC=>cmpS x.path s.path) c.sets=(c.sets.takeWhile fun x=>decide (cmpS x.path s.path<0)).length:=rfl
  unfold TenC.withS
  simp only [hp]
  conv =>
   lhs
   rw [show c.sets=(c.sets.takeWhile fun x=>decide (cmpS x.path s.path<0))++(c.sets.dropWhile fun x=>decide (cmpS x.path s.path<0)) from List.takeWhile_append_dropWhile.symm]
  rw [List.take_left' tZ114,List.drop_left' tZ114,List.append_assoc]
  rfl
 ·exact mZ205
 ·have h1:¬ (decide (cmpS b.path s.path<0))=true:=by
   have h2:=List.head_dropWhile_not (fun x:SetC=>decide (cmpS x.path s.path<0)) (l:=c.sets) (by rw [h];exact List.cons_ne_nil _ _)
   simp only [h,List.head_cons] at h2
   rw [h2]
   decide
  exact mZ204
theorem withS_ok (c:TenC) (s:SetC) (h:c.Ok) (hp:pathB s.path=true) (hf:c.find s.path<0) (hu:¬ c.find (upL s.path)<0) (hl:c.sets.length≠32) (hw:propsB s.own=true) (hb:okL s.body=true) (hs:snapsB (s.snaps.map SnapC.r)=true)
  (horg:s.org=[]∨∃ a b,splitL s.org=some (a,b)∧a≠s.path∧∃ x∈c.sets,x.path=a∧∃ y∈x.snaps,y.nm=b):(c.withS s).Ok:=by
 obtain ⟨g1,g2,g3,g4,g5,g6,g7⟩:=h
 refine ⟨g1,g2,g3,?_,g5,g6,g7⟩
 have hold:∀ x∈c.sets,x∈(c.withS s).sets:=fun x hx=>withS_old c s x hx
 have hlen:=withS_len c s
 have hmem:∀ z∈(c.withS s).sets,z=s∨z∈c.sets:=by
  obtain ⟨i,-,hwi⟩:=c.withS_at s
  intro z hz
  rw [hwi] at hz
  exact mem_at hz
 have hasc:(c.withS s).sets.Pairwise fun a b=>Op.bytesLess a.path b.path=true:=by
  obtain ⟨A,B,e1,e2,h2,h3⟩:=withS_form c s
  have hn:=c.find_lt s.path hf
  have ha:=g4.asc
  rw [e1,List.pairwise_append] at ha
  have hgB:∀ b∈B,Op.bytesLess s.path b.path=true:=by
   cases hB:B with
   | nil=>intro b hb;cases hb
   | cons b0 B' =>
    have h5:=h3 b0 B' hB
    have h8:Op.bytesLess s.path b0.path=true:=bl_tri _ _ h5 (hn b0 (by rw [e1,hB];simp))
    intro b hb
    rcases List.mem_cons.1 hb with rfl | hb
    ·exact h8
    ·have:=ha.2.1
     rw [hB] at this
     exact bl_trans h8 ((List.pairwise_cons.1 this).1 b hb)
  rw [e2,List.pairwise_append]
  refine ⟨ha.1,List.pairwise_cons.2 ⟨hgB,ha.2.1⟩,fun a hA b hB=>?_⟩
  rcases List.mem_cons.1 hB with rfl | hB
  ·exact h2 a hA
  ·exact ha.2.2 a hA b hB
 refine ⟨by have:=g4.len;omega,?_,fun z hz=>?_,hasc⟩
 ·obtain ⟨x,hx,e⟩:=g4.root
  exact ⟨x,hold x hx,e⟩
 ·rcases hmem z hz with rfl | hz
  ·refine ⟨hp,fun u hpu=>?_,hw,hb,hs,?_⟩
   ·obtain ⟨x,hx,e⟩:=c.find_ge _ hu
    exact ⟨x,hold x hx,e.trans (parB_len0 hpu).2.2.2.symm⟩
   ·rcases horg with h | ⟨a,b,h1,h2,x,hx,rfl,hy⟩
    ·exact .inl h
    ·exact .inr ⟨x.path,b,h1,h2,x,find_of_mem hasc (hold x hx),hy⟩
  ·refine (g4.each z hz).congr (fun x hx=>⟨x,hold x hx,rfl⟩) (fun a x hx=>⟨x,?_,rfl⟩)
   have hxa:x.path=a:=by simpa using List.find?_some hx
   rw [← hxa]
   exact find_of_mem hasc (hold x (List.mem_of_find?_eq_some hx))
/-- what fits, settled or in place -/
theorem settle_settled (c:TenC) (h:c.E=0):c.settle=if c.quota<(c.charge:Int) then (42,c) else (0,c):=by
 unfold TenC.settle
 rw [if_neg (by rw [h];decide)]
/-- an empty set more -/
theorem create_E (c:TenC) (p:BS) (h1:c.ask p=0) (h2:¬ 0≤c.find p) (h3:¬ c.find (upL p)<0) (h4:c.sets.length≠32):(c.withS (set0C p)).E=0:=by
 have hE:c.E=0:=by
  unfold TenC.ask at h1
  rcases c.E_two with h | h
  ·exact h
  ·rw [if_pos h] at h1;cases h1
 have hp:pathB p=true:=by
  unfold TenC.ask at h1
  rw [if_neg (by rw [hE];decide)] at h1
  cases hpb:pathB p with
  | true=>rfl
  | false=>rw [if_pos hpb] at h1;cases h1
 exact (TenC.E_ok _).2 (withS_ok c (set0C p) ((TenC.E_ok c).1 hE) hp (by show c.find p<0;omega) h3 h4 tZ2 tZ2 tZ2 (.inl rfl))
end Go.Proofs.YtiojfffgiejibaaGreatDoor
