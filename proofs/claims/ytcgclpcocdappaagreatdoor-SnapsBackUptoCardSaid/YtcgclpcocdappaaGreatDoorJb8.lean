/-
  The page's Turn, kind 1.
-/
import Derived.WalkKit
import Derived.WalkSpells
import Derived.Below
import Derived.Laws.OwnMore
import Derived.Deep.AppendLies
import Derived.Deep.Draws
import Derived.Laws.Rows
import Derived.Maps.AppendAt
import Derived.RegionTactic
import Derived.OwnWalk
import Derived.Deep.QuietTactic
import Derived.BigQuiet
import Derived.Lib.Hide
import Derived.Laws.CopyOwn
import Derived.IntWalk
import Derived.Test.YtcgclpcocdappaaGreatDoorRows
import Derived.Handy
import Derived.Lib.AppendZeros
import Derived.ProofKit
import Derived.Deep.Quiet
import Derived.OpenShut
import Derived.ShutString
import Derived.ChangeOld
import Derived.Carry
import Derived.SizedLaws
import Derived.JoinedCond
import Derived.Deep.CondSized
import Derived.Deep.Slices
import Derived.Deep.Fields
import Derived.Lib.SmallJoins
import Derived.Orders
import Derived.Lib.SplitLaws
import Derived.Lib.LastIndexByte
import Derived.Lib.Strings
import Derived.Deep.RegionLaw
import Derived.Sort.Walk0
import Derived.Sort.KeysCollected
import Derived.Shelf.SlIter.Nil
import Derived.Shelf.SortM.Plain
import Derived.Shelf.SortM.SortNone
import Derived.Maps.OwnSet
import Derived.Maps.StringElems
import Derived.Deep.MidRow
import Derived.Shelf.Strings.Search1
import Derived.Shelf.Strings.Search2
import Derived.Shelf.Strings.Search3
import Derived.Shelf.Strings.Cut
import Derived.Shelf.Strings.Count
import Derived.Shelf.LaysM
import Derived.Shelf.Strings.Shaped
import Derived.Shelf.Strings.LastIndex
import Derived.Shelf.Strings.Split
import Derived.Shelf.Strings.SplitShaped
import Derived.Shelf.Unicode.Decode
import Derived.Shelf.Strings.RuneCount
import Derived.Shelf.Strings.Explode
import Derived.Shelf.Unicode.DecodeSlow
import Derived.Test.YtcgclpcocdappaaGreatDoorProg
import Derived.Lib.Overlaps
import Derived.Lib.AppendZerosOnto
import Derived.Laws.BytesString
import Derived.Laws.IdiomStrings
import Derived.Lib.ConvBytes
import Derived.Deep.DeepCutAuto
import Derived.Great.BuildSlice
import Derived.Test.YtcgclpcocdappaaGreatDoorJ0
import Derived.Test.YtcgclpcocdappaaGreatDoorJbkv1
import Derived.Test.YtcgclpcocdappaaGreatDoorJbkv3
import Derived.Test.YtcgclpcocdappaaGreatDoorJbkv4
import Derived.Test.YtcgclpcocdappaaGreatDoorJbkv5
import Derived.Test.YtcgclpcocdappaaGreatDoorJbkv7
import Derived.Test.YtcgclpcocdappaaGreatDoorJbkv8
import Derived.Test.YtcgclpcocdappaaGreatDoorJbkv10
import Derived.Test.YtcgclpcocdappaaGreatDoorJbkv14
import Derived.Test.YtcgclpcocdappaaGreatDoorJbkv15
import Derived.Test.YtcgclpcocdappaaGreatDoorJbkv16
import Derived.Test.YtcgclpcocdappaaGreatDoorJbkv17
import Derived.Test.YtcgclpcocdappaaGreatDoorJbkv19
import Derived.Test.YtcgclpcocdappaaGreatDoorJbkv20
import Derived.Test.YtcgclpcocdappaaGreatDoorJbkv21
import Derived.Test.YtcgclpcocdappaaGreatDoorJbkv22
import Derived.Test.YtcgclpcocdappaaGreatDoorJbkv25
import Derived.Test.YtcgclpcocdappaaGreatDoorJbkv27
import Derived.Test.YtcgclpcocdappaaGreatDoorJbk1
import Derived.Test.YtcgclpcocdappaaGreatDoorJbk2
import Derived.Test.YtcgclpcocdappaaGreatDoorJbv1
import Derived.Test.YtcgclpcocdappaaGreatDoorJbv2
import Derived.Test.YtcgclpcocdappaaGreatDoorJb4
import Derived.Test.YtcgclpcocdappaaGreatDoorJb5
import Derived.Test.YtcgclpcocdappaaGreatDoorJb6
namespace Go.Proofs.YtcgclpcocdappaaGreatDoor
open Go.RowKit
/-- what was turned, if it fits -/
def changeQ (r:Int×TenC):Int×TenC:=if r.1≠0 then r else r.2.settled
theorem changed_in {c c2:TenC} {p:BS} {F:SetC→Int×SetC} (h:(0,c2)=c.changed p F):c.E=0∧∃ k:Nat,∃ hk:k<c.sets.length,(F (c.sets[k]'hk)).1=0∧c2=c.putS k (F (c.sets[k]'hk)).2:=by
 unfold TenC.changed at h
 by_cases h1:c.ask p≠0
 ·rw [if_pos h1] at h
  injection h with h _
  exact absurd h.symm h1
 rw [if_neg h1] at h
 by_cases h2:c.find p<0
 ·rw [if_pos h2] at h
  injection h with h _
  cases h
 rw [if_neg h2] at h
 have hE:c.E=0:=by
  unfold TenC.ask at h1
  rcases c.E_two with h6 | h6
  ·exact h6
  ·rw [if_pos h6] at h1
   exact absurd (by decide) h1
 refine ⟨hE,(c.find p).toNat,?_⟩
 cases hs:c.sets[(c.find p).toNat]? with
 | none=>rw [hs] at h;injection h with h _;cases h
 | some s =>
  rw [hs] at h
  simp only at h
  obtain ⟨hk,e⟩:=List.getElem?_eq_some_iff.1 hs
  by_cases h3:(F s).1≠0
  ·rw [if_pos h3] at h
   injection h with h _
   exact absurd h.symm h3
  rw [if_neg h3] at h
  injection h with _ h
  exact ⟨hk,by rw [e];omega,by rw [e];exact h⟩
theorem writeF_ok {c c2:TenC} {p:BS} {i:Int} {d:BS} (h:(0,c2)=c.changed p (writeF i d)):c2.E=0:=by
 obtain ⟨hE,k,hk,h1,rfl⟩:=changed_in h
 have hc:=(TenC.E_ok c).1 hE
 have hs:=hc.sets.each _ (List.getElem_mem hk)
 refine (TenC.E_ok _).2 (putS_ok c k hk _ hc rfl rfl rfl ?_ hs.own)
 have h1:putE (c.sets[k]'hk).body i d=0:=h1
 unfold putE at h1
 rw [if_pos hs.body] at h1
 by_cases hi:0≤i∧i<1024
 ·rw [if_pos hi] at h1
  by_cases hd:d.length=16
  ·exact okL_of _ (ok_put _ (OkP.of _ hs.body) i d hi hd)
  ·rw [if_neg hd] at h1;cases h1
 ·rw [if_neg hi] at h1;cases h1
set_option maxRecDepth 100000 in
set_option maxHeartbeats 8000000 in
theorem rturn1_any (t:TenR) (p:BS) (i:Int) (d:BS) (w:World) (B:Nat) (hB:B≤w.heap.size) (hr:t.rd w B) (hz:t.sz) (hst:t.stages.n≤500000000000) (hp:p.length≤4000000000) :
  Calls Tryz.prog 11 #[t.val,.string ⟨p.toArray⟩,.int .i64 1,.int .i64 i,.int .i64 0,.string ⟨#[]⟩,.string ⟨d.toArray⟩] w (TenPost w (changeQ (t.con.changed p (writeF i d)))):=by
 have h3:t.con.ask p=0∨t.con.ask p=9∨t.con.ask p=31:=by rw [← askP_con];exact askP_in t p
 obtain ⟨V,hV⟩:∃ V,V=changeQ (t.con.changed p (writeF i d)):=⟨_,rfl⟩
 obtain ⟨V0,hV0⟩:∃ V,V=t.con.changed p (writeF i d):=⟨_,rfl⟩
 have hV1:V=changeQ V0:=by rw [hV,hV0]
 have hVe:V0=if t.con.ask p≠0 then (t.con.ask p,t.con) else if t.con.find p<0 then (71,t.con) else match t.con.sets[(t.con.find p).toNat]? with
  | none=>(71,t.con)
  | some s=>if (writeF i d s).1≠0 then ((writeF i d s).1,t.con) else (0,t.con.putS (t.con.find p).toNat (writeF i d s).2):=hV0
 rw [← hV]
 have hcz:=TenC.sz_of hr hz
 have hfk:∀ k:Nat,t.con.find p=(k:Int)→k<t.sets.l.length:=fun k hk=>by
  rw [← findS_con] at hk
  rcases firstI_cases (fun s:SetR=>s.path == p) t.sets.l with ⟨h1,h2⟩ | ⟨j,hj,h1,h2⟩
  ·have h1:findS t.sets.l p=-1:=h1
   omega
  ·have h1:findS t.sets.l p=(j:Int):=h1
   omega
 have hfk2:t.con.find p<0∨∃ k:Nat,t.con.find p=(k:Int):=by
  by_cases h:t.con.find p<0
  ·exact .inl h
  ·exact .inr ⟨(t.con.find p).toNat,by omega⟩
 have hfs:=findS_con t p
 obtain ⟨nm,qu,nx,⟨s1,sn,s3,sl⟩,⟨gA,gN,gC,gL⟩,⟨t1,tn,t3,tl⟩,⟨l1,ln,l3,ll⟩⟩:=t
 show Calls Tryz.prog 11 #[.agg #[.string ⟨nm.toArray⟩,.int .i64 qu,.int .i64 nx,.slice s1 sn s3,.slice gA gN gC,.slice t1 tn t3,.slice l1 ln l3],.string ⟨p.toArray⟩,.int .i64 1,.int .i64 i,.int .i64 0,.string ⟨#[]⟩,.string ⟨d.toArray⟩] w _
 have hb:=(((Below.refl w.heap.size w).alloc (Nat.le_refl _) (.cells #[.string ⟨nm.toArray⟩,.int .i64 qu,.int .i64 nx,.slice s1 sn s3,.slice gA gN gC,.slice t1 tn t3,.slice l1 ln l3] 27)).alloc (by simp) (.cells #[.string ⟨#[]⟩,.int .i64 0,.int .i64 0,.slice none 0 0,.slice none 0 0,.slice none 0 0,.slice none 0 0] 27))
 have kt:=Blk.new w 27 #[.string ⟨nm.toArray⟩,.int .i64 qu,.int .i64 nx,.slice s1 sn s3,.slice gA gN gC,.slice t1 tn t3,.slice l1 ln l3]
 replace kt:=kt.alloc (.cells #[.string ⟨#[]⟩,.int .i64 0,.int .i64 0,.slice none 0 0,.slice none 0 0,.slice none 0 0,.slice none 0 0] 27)
 have kz:=Blk.new (w.alloc (.cells #[.string ⟨nm.toArray⟩,.int .i64 qu,.int .i64 nx,.slice s1 sn s3,.slice gA gN gC,.slice t1 tn t3,.slice l1 ln l3] 27)) 27 #[.string ⟨#[]⟩,.int .i64 0,.int .i64 0,.slice none 0 0,.slice none 0 0,.slice none 0 0,.slice none 0 0]
 rw [show (w.alloc (.cells #[.string ⟨nm.toArray⟩,.int .i64 qu,.int .i64 nx,.slice s1 sn s3,.slice gA gN gC,.slice t1 tn t3,.slice l1 ln l3] 27)).heap.size=w.heap.size+1 by simp] at kz
 have hsz:((w.alloc (.cells #[.string ⟨nm.toArray⟩,.int .i64 qu,.int .i64 nx,.slice s1 sn s3,.slice gA gN gC,.slice t1 tn t3,.slice l1 ln l3] 27)).alloc (.cells #[.string ⟨#[]⟩,.int .i64 0,.int .i64 0,.slice none 0 0,.slice none 0 0,.slice none 0 0,.slice none 0 0] 27)).heap.size=w.heap.size+2:=by simp
 obtain ⟨W1,hW1⟩:∃ W,W=((w.alloc (.cells #[.string ⟨nm.toArray⟩,.int .i64 qu,.int .i64 nx,.slice s1 sn s3,.slice gA gN gC,.slice t1 tn t3,.slice l1 ln l3] 27)).alloc (.cells #[.string ⟨#[]⟩,.int .i64 0,.int .i64 0,.slice none 0 0,.slice none 0 0,.slice none 0 0,.slice none 0 0] 27)):=⟨_,rfl⟩
 rw [← hW1] at hb hsz kt kz
 have hKt:Hid (∀ W,Below W1.heap.size W1 W→Blk W w.heap.size 27 #[.string ⟨nm.toArray⟩,.int .i64 qu,.int .i64 nx,.slice s1 sn s3,.slice gA gN gC,.slice t1 tn t3,.slice l1 ln l3]):=fun W h=>kt.below h (by omega)
 have hKz:Hid (∀ W,Below W1.heap.size W1 W→Blk W (w.heap.size+1) 27 #[.string ⟨#[]⟩,.int .i64 0,.int .i64 0,.slice none 0 0,.slice none 0 0,.slice none 0 0,.slice none 0 0]):=fun W h=>kz.below h (by omega)
 have hBW:Hid (∀ W,Below W1.heap.size W1 W→Below w.heap.size w W):=fun W h=>hb.trans (h.mono (by omega))
 have hSZ:Hid (∀ W,Below W1.heap.size W1 W→w.heap.size+2≤W.heap.size):=fun W h=>by have:=h.size;omega
 have hW0:Hid (Below W1.heap.size W1 W1):=Below.refl _ _
 have hrw:Hid (∀ W,Below W1.heap.size W1 W→TenR.rd W B ⟨nm,qu,nx,⟨s1,sn,s3,sl⟩,⟨gA,gN,gC,gL⟩,⟨t1,tn,t3,tl⟩,⟨l1,ln,l3,ll⟩⟩∧B≤W.heap.size):=fun W h =>
  ⟨TenR.rd.below hr ((hBW.out W h).mono hB),by have:=hSZ.out W h;omega⟩
 obtain ⟨C,hC⟩:∃ C,C=TenR.con ⟨nm,qu,nx,⟨s1,sn,s3,sl⟩,⟨gA,gN,gC,gL⟩,⟨t1,tn,t3,tl⟩,⟨l1,ln,l3,ll⟩⟩:=⟨_,rfl⟩
 have hHC:=Lib.hid hC
 rw [← hC] at h3 hVe hfk hfk2 hcz hfs
 obtain ⟨E0,hE0⟩:∃ E,E=C.ask p:=⟨_,rfl⟩
 obtain ⟨F0,hF0⟩:∃ F,F=C.find p:=⟨_,rfl⟩
 have hAS:Hid (∀ W,Below W1.heap.size W1 W→Calls Tryz.prog 48 #[.agg #[.string ⟨nm.toArray⟩,.int .i64 qu,.int .i64 nx,.slice s1 sn s3,.slice gA gN gC,.slice t1 tn t3,.slice l1 ln l3],.string ⟨p.toArray⟩] W fun e w'=>e=.returned (.int .i64 E0)∧Below W.heap.size W w'):=fun W h=>by
  rw [hE0,hC]
  exact rasked_any ⟨nm,qu,nx,⟨s1,sn,s3,sl⟩,⟨gA,gN,gC,gL⟩,⟨t1,tn,t3,tl⟩,⟨l1,ln,l3,ll⟩⟩ p W B (hrw.out W h).2 (hrw.out W h).1 hz hp
 have hFD:Hid (∀ W,Below W1.heap.size W1 W→Calls Tryz.prog 10 #[.agg #[.string ⟨nm.toArray⟩,.int .i64 qu,.int .i64 nx,.slice s1 sn s3,.slice gA gN gC,.slice t1 tn t3,.slice l1 ln l3],.string ⟨p.toArray⟩] W fun e w'=>e=.returned (.int .i64 F0)∧Below W.heap.size W w'):=fun W h=>by
  rw [hF0,← hfs]
  exact refFind_any _ _ _ _ _ _ sl sn hr.sets.1 s1 s3 p W B (hrw.out W h).1.sets.2.2 (hrw.out W h).2 (by have:=hz.sets;simp only at this;omega)
 rw [← hE0,← hF0] at hVe
 rw [← hE0] at h3
 rw [← hF0] at hfk hfk2
 have hCP:Hid (∀ W,Below W1.heap.size W1 W→Calls Tryz.prog 49 #[.agg #[.string ⟨nm.toArray⟩,.int .i64 qu,.int .i64 nx,.slice s1 sn s3,.slice gA gN gC,.slice t1 tn t3,.slice l1 ln l3]] W fun e w'=>∃ y:TenR,e=.returned y.val∧TenO w' W.heap.size y∧TenR.eqv ⟨nm,qu,nx,⟨s1,sn,s3,sl⟩,⟨gA,gN,gC,gL⟩,⟨t1,tn,t3,tl⟩,⟨l1,ln,l3,ll⟩⟩ y∧Below W.heap.size W w'):=fun W h =>
  own14_any ⟨nm,qu,nx,⟨s1,sn,s3,sl⟩,⟨gA,gN,gC,gL⟩,⟨t1,tn,t3,tl⟩,⟨l1,ln,l3,ll⟩⟩ W B (hrw.out W h).2 (hrw.out W h).1 hz hst
 have hSN:=Lib.hid (show sn=sl.length from hr.sets.1)
 have HFK:=Lib.hid hfk
 have HCZ:=Lib.hid hcz
 have HZZ:=Lib.hid hz
 have HV:=Lib.hid hVe
 have HV1:=Lib.hid hV1
 have HZS:=Lib.hid (show sn≤1000000000000 from hz.sets)
 have HVQ:=Lib.hid (show V0=C.changed p (writeF i d) by rw [hV0,hC])
 clear hb hsz kt kz hr hp hVe hV hV0 hV1 hfk hC hE0 hF0 hz hcz hfs hst
 go_enter Tryz.func11,Tryz.ntmps11
 have hc:=hAS.out  W1 hW0.out
 have kk:=hKt.out W1 hW0.out
 obtain ⟨c0,c1,c2,c3,c4,c5,c6⟩:=(⟨kk.cell 0,kk.cell 1,kk.cell 2,kk.cell 3,kk.cell 4,kk.cell 5,kk.cell 6⟩:_∧_∧_∧_∧_∧_∧_)
 simp only [zF,zD,zE] at c0 c1 c2 c3 c4 c5 c6
 clear kk
 go_wp2_with fail
 rw [← hW1]
 clear hW1
 refine hc.mono ?_
 clear hc c0 c1 c2 c3 c4 c5 c6
 rintro e w2 ⟨rfl,hb⟩
 have HW2:=Lib.hid (hW0.out.trans (hb.mono hW0.out.size))
 clear hb
 rcases h3 with rfl | rfl | rfl
 ·have HV:=Lib.hid (HV.out.trans (if_neg (by decide)))
  have hc:=hFD.out  w2 HW2.out
  have kk:=hKt.out w2 HW2.out
  obtain ⟨c0,c1,c2,c3,c4,c5,c6⟩:=(⟨kk.cell 0,kk.cell 1,kk.cell 2,kk.cell 3,kk.cell 4,kk.cell 5,kk.cell 6⟩:_∧_∧_∧_∧_∧_∧_)
  simp only [zF,zD,zE] at c0 c1 c2 c3 c4 c5 c6
  clear kk
  go_wp2_with fail
  refine hc.mono ?_
  clear hc c0 c1 c2 c3 c4 c5 c6
  rintro e w3 ⟨rfl,hb⟩
  have HW3:=Lib.hid (HW2.out.trans (hb.mono HW2.out.size))
  clear hb
  by_cases hf0:F0<0
  ·have HV:=Lib.hid (HV.out.trans (if_pos hf0))
   have HX:Hid (V=(71,C)):=by show _=_;rw [HV1.out,HV.out];rfl
   clear HV HV1
   have KZ:=Lib.hid (hKz.out w3 HW3.out)
   have HB:=Lib.hid (hBW.out w3 HW3.out)
   obtain ⟨WR,hW4,hth,HL,HBW,hgw⟩:=res7 (g:=(w.heap.size+1)) [.string ⟨#[]⟩,.int .i64 0,.int .i64 0,.slice none 0 0,.slice none 0 0,.slice none 0 0,.slice none 0 0] KZ.out HB.out (by omega)
   clear hgw
   go_wp2_with (refine wpList_store_mid rfl 27 (.tmp 14) (.tmp 32) rfl ((w.heap.size+1)) 0 #[.string ⟨#[]⟩,.int .i64 0,.int .i64 0,.slice none 0 0,.slice none 0 0,.slice none 0 0,.slice none 0 0] rfl rfl hth.out (by kernel_rfl) (by simp [Value.oneCell']) ?_;rw [← hW4];clear hW4)
   exact bodyPost_ret (v:=.tuple #[.agg #[.string ⟨#[]⟩,.int .i64 0,.int .i64 0,.slice none 0 0,.slice none 0 0,.slice none 0 0,.slice none 0 0],.int .i64 71]) (results_cell_tmp rfl rfl HL.out) rfl (tenPost_err HX.out (by decide) HBW.out)
  ·have HV:=Lib.hid (HV.out.trans (if_neg hf0))
   have hFDk:∃ k:Nat,F0=(k:Int):=by
    rcases hfk2 with h | h
    ·omega
    ·exact h
   obtain ⟨k,rfl⟩:=hFDk
   have HKL:=Lib.hid (HFK.out k rfl)
   clear hfk2 hf0 HFK
   have hc:=hCP.out w3 HW3.out
   have kk:=hKt.out w3 HW3.out
   obtain ⟨c0,c1,c2,c3,c4,c5,c6⟩:=(⟨kk.cell 0,kk.cell 1,kk.cell 2,kk.cell 3,kk.cell 4,kk.cell 5,kk.cell 6⟩:_∧_∧_∧_∧_∧_∧_)
   simp only [zF,zD,zE] at c0 c1 c2 c3 c4 c5 c6
   clear kk
   clear hCP
   go_wp2_with fail
   refine hc.mono ?_
   clear hc c0 c1 c2 c3 c4 c5 c6
   rintro e w6 ⟨y,rfl,ho6,he6,hb6⟩
   have HW6:=Lib.hid (HW3.out.trans (hb6.mono HW3.out.size))
   have HCON:=Lib.hid ((TenR.eqv_iff _ _).1 he6)
   have hlen:y.sets.n=sn:=by
    have h1:=he6.lenS
    have h2:=ho6.sets.1
    have:=hSN.out
    simp only at h1
    omega
   obtain ⟨mm,mq,mx,⟨m1,m2,m3,ml⟩,⟨n1,n2,n3,nl⟩,⟨p1,p2,p3,pl⟩,⟨q1,q2,q3,ql⟩⟩:=y
   replace hlen:m2=sn:=hlen
   have hms:m2=ml.length:=ho6.sets.1
   have hkm:k<m2:=by have:=HKL.out;have:=hSN.out;omega
   have hkml:k<ml.length:=by omega
   obtain ⟨gS,csS,hA,hbg,hblk⟩:=ho6.sets.blk (by show 0<m2;omega)
   replace hA:m1=some ⟨gS,0,none⟩:=hA
   subst hA
   have hgS6:=hblk.lt
   simp only [TenR.val,TenR.cells,FS.val,strV]
   have hsz3:=hSZ.out w3 HW3.out
   have hsz6:=hSZ.out w6 HW6.out
   have hks:k<sn:=by omega
   have hB6:=(hrw.out w6 HW6.out).2
   have hb67:=(Below.refl w6.heap.size w6).alloc (Nat.le_refl _) (.cells #[.string ⟨mm.toArray⟩,.int .i64 mq,.int .i64 mx,.slice (some ⟨gS,0,none⟩) m2 m3,.slice n1 n2 n3,.slice p1 p2 p3,.slice q1 q2 q3] 27)
   have ho7:=ho6.below hb67
   have k7:=Blk.new w6 27 #[.string ⟨mm.toArray⟩,.int .i64 mq,.int .i64 mx,.slice (some ⟨gS,0,none⟩) m2 m3,.slice n1 n2 n3,.slice p1 p2 p3,.slice q1 q2 q3]
   have kz7:=(hKz.out w6 HW6.out).alloc (.cells #[.string ⟨mm.toArray⟩,.int .i64 mq,.int .i64 mx,.slice (some ⟨gS,0,none⟩) m2 m3,.slice n1 n2 n3,.slice p1 p2 p3,.slice q1 q2 q3] 27)
   have hbw7:=(hBW.out w6 HW6.out).alloc (by omega) (.cells #[.string ⟨mm.toArray⟩,.int .i64 mq,.int .i64 mx,.slice (some ⟨gS,0,none⟩) m2 m3,.slice n1 n2 n3,.slice p1 p2 p3,.slice q1 q2 q3] 27)
   have kt7:=(hKt.out w6 HW6.out).alloc (.cells #[.string ⟨mm.toArray⟩,.int .i64 mq,.int .i64 mx,.slice (some ⟨gS,0,none⟩) m2 m3,.slice n1 n2 n3,.slice p1 p2 p3,.slice q1 q2 q3] 27)
   have hr7:=(hrw.out w6 HW6.out).1.below (hb67.mono hB6)
   have hsz7:(w6.alloc (.cells #[.string ⟨mm.toArray⟩,.int .i64 mq,.int .i64 mx,.slice (some ⟨gS,0,none⟩) m2 m3,.slice n1 n2 n3,.slice p1 p2 p3,.slice q1 q2 q3] 27)).heap.size=w6.heap.size+1:=by simp
   obtain ⟨g5,hg5⟩:∃ g,g=w6.heap.size:=⟨_,rfl⟩
   obtain ⟨w7,hW7⟩:∃ W,W=w6.alloc (.cells #[.string ⟨mm.toArray⟩,.int .i64 mq,.int .i64 mx,.slice (some ⟨gS,0,none⟩) m2 m3,.slice n1 n2 n3,.slice p1 p2 p3,.slice q1 q2 q3] 27):=⟨_,rfl⟩
   rw [← hW7] at ho7 k7 kz7 hbw7 kt7 hr7 hsz7
   rw [← hg5] at k7 hsz7
   have hB7:B≤w7.heap.size:=by omega
   obtain ⟨ad,hsa,-,fq0,fq1,fq2,fq3,fq4⟩:=set_at hr7.sets.2.2 hSN.out hks
   simp only at hsa
   have hrb:=hr7.eachS _ (List.getElem_mem HKL.out)
   have hzx:=HZZ.out.eachS _ (List.getElem_mem HKL.out)
   obtain ⟨x,hxx⟩:∃ x,x=sl[k]'HKL.out:=⟨_,rfl⟩
   obtain ⟨xk,hxk⟩:∃ x,x=ml[k]'hkml:=⟨_,rfl⟩
   have hcon:xk.con=x.con:=by
    rw [hxk,hxx]
    have h:=congrArg (fun c:TenC=>c.sets[k]?) HCON.out
    simp only [TenR.con,List.getElem?_map,List.getElem?_eq_getElem HKL.out,List.getElem?_eq_getElem hkml,Option.map_some,Option.some.injEq] at h
    exact h.symm
   have hyc:Hid (TenR.con ⟨mm,mq,mx,⟨some ⟨gS,0,none⟩,m2,m3,ml⟩,⟨n1,n2,n3,nl⟩,⟨p1,p2,p3,pl⟩,⟨q1,q2,q3,ql⟩⟩=C):=by show _=_;rw [hHC.out];exact HCON.out.symm
   have HGET:Hid (C.sets[((k:Nat):Int).toNat]?=some x.con):=by
    show _=_
    rw [Int.toNat_natCast,← hyc.out,← hcon,hxk]
    show (ml.map SetR.con)[k]?=_
    rw [List.getElem?_map,List.getElem?_eq_getElem hkml]
    rfl
   have HV:=Lib.hid (HV.out.trans (by rw [HGET.out]))
   simp only [← hxx] at fq0 fq1 fq2 fq3 fq4 hrb hzx
   have hnc:x.body.n≤x.body.c:=hrb.body.2.1
   have HXN:Hid (x.body.n=x.body.l.length):=hrb.body.1
   have hxz:x.body.n≤1000000000000:=hzx.body
   have HCO:=Lib.hid hcon
   replace hrb:=hrb.body.2.2
   obtain ⟨pa,og,⟨bA,bn,bc,bl⟩,⟨zA,zn,zc,zl⟩,⟨oA,on,oc,ol⟩⟩:=x
   simp only at fq0 fq1 fq2 fq3 fq4 hrb hnc hxz
   have HXN:Hid (bn=bl.length):=HXN
   subst hsa
   have hb78:=(Below.refl w7.heap.size w7).alloc (Nat.le_refl _) (.cells #[.string ⟨pa.toArray⟩,.string ⟨og.toArray⟩,.slice bA bn bc,.slice zA zn zc,.slice oA on oc] 42)
   have ho8:=ho7.below hb78
   have k8:=k7.alloc (.cells #[.string ⟨pa.toArray⟩,.string ⟨og.toArray⟩,.slice bA bn bc,.slice zA zn zc,.slice oA on oc] 42)
   have ks8:=Blk.new w7 42 #[.string ⟨pa.toArray⟩,.string ⟨og.toArray⟩,.slice bA bn bc,.slice zA zn zc,.slice oA on oc]
   have kz8:=kz7.alloc (.cells #[.string ⟨pa.toArray⟩,.string ⟨og.toArray⟩,.slice bA bn bc,.slice zA zn zc,.slice oA on oc] 42)
   have hbw8:=hbw7.alloc hbw7.size (.cells #[.string ⟨pa.toArray⟩,.string ⟨og.toArray⟩,.slice bA bn bc,.slice zA zn zc,.slice oA on oc] 42)
   have hrb8:=hrb.below (hb78.mono hB7)
   have hsz8:(w7.alloc (.cells #[.string ⟨pa.toArray⟩,.string ⟨og.toArray⟩,.slice bA bn bc,.slice zA zn zc,.slice oA on oc] 42)).heap.size=w7.heap.size+1:=by simp
   obtain ⟨w8,hW8⟩:∃ W,W=w7.alloc (.cells #[.string ⟨pa.toArray⟩,.string ⟨og.toArray⟩,.slice bA bn bc,.slice zA zn zc,.slice oA on oc] 42):=⟨_,rfl⟩
   rw [← hW8] at ho8 k8 ks8 kz8 hbw8 hrb8 hsz8
   rw [hsz7] at ks8
   have hB8:B≤w8.heap.size:=by omega
   obtain ⟨hltS,hfzS,hcS2,hcS4⟩:=set_cells ho8 hkml rfl
   simp only [← hxk] at hcS2 hcS4
   have HG5:=Lib.hid (show gS<g5∧w.heap.size+2≤gS∧g5<w8.heap.size∧w3.heap.size≤w8.heap.size∧w.heap.size+2≤w3.heap.size by omega)
   have hfS:=hfzS (k*5+2)
   have hki:(k:Int)<(m2:Int):=by omega
   have hki2:(k:Int)<(sn:Int):=by omega
   have hk0:(0:Int)≤(k:Int):=by omega
   have hcl:Hid (∀ W,Below w8.heap.size w8 W→Calls Tryz.prog 50 #[.slice bA bn bc,.int .i64 i,.string ⟨d.toArray⟩] W fun e w'=>∃ A1 n1 c1,e=.returned (.tuple #[.slice A1 n1 c1,.int .i64 (putE bl i d)])∧Below W.heap.size W w'∧(putE bl i d=0→w'.ownsRow w8.heap.size 75 2 (.slice A1 n1 c1) (putL11 bl i d).length (cellsK encB (putL11 bl i d)))):=fun W hW=>by
    have hsW:=hW.size
    refine (rput2_any bl bn HXN.out bA bc hnc i d W B (hrb8.below (hW.mono hB8)) (by omega) (by omega)).mono ?_
    rintro e w' ⟨v,rfl,h1,h2⟩
    have hv:∃ A1 n1 c1,v=.slice A1 n1 c1:=by
     split at h1
     ·obtain ⟨A1,c1,rfl,_⟩:=own_form h1
      exact ⟨_,_,_,rfl⟩
     ·exact ⟨_,_,_,h1⟩
    obtain ⟨A1,n1,c1,rfl⟩:=hv
    exact ⟨A1,n1,c1,rfl,h2,fun h=>by rw [if_pos h] at h1;exact own_mono h1 hsW⟩
   obtain ⟨EF,hEF⟩:∃ E,E=putE bl i d:=⟨_,rfl⟩
   obtain ⟨L1,hL1⟩:∃ L,L=putL11 bl i d:=⟨_,rfl⟩
   rw [← hEF,← hL1] at hcl
   have HVF:Hid (V0=if EF≠0 then (EF,C) else (0,C.putS k ⟨pa,og,L1,zl.map SnapR.con,ol⟩)):=by
    show _=_
    rw [HV.out,hEF,hL1,Int.toNat_natCast]
    rfl
   have d3:=k8.cell 3
   have d0:=ks8.cell 2
   have dt:=kt7.cell 3
   simp only [zF,zD,zE] at d3 d0 dt
   have K8:=Lib.hid k8
   have KZ8:=Lib.hid kz8
   have HB8:=Lib.hid hbw8
   have HO8:=Lib.hid ho8
   have HC2:Hid (w8.cell? ⟨gS,k*5+2,none⟩=some (.slice xk.body.A xk.body.n xk.body.c)):=hcS2
   have HFS:=Lib.hid hfS
   have HLT:=Lib.hid hltS
   have hSf:Hid (∀ W,Below w8.heap.size w8 W→W.cell? ⟨g5,3,none⟩=some (.slice (some ⟨gS,0,none⟩) m2 m3)∧W.cell? ⟨g5+1,2,none⟩=some (.slice bA bn bc)∧W.cell? ⟨gS,k*5+2,none⟩=some (.slice xk.body.A xk.body.n xk.body.c)∧W.frozen? ⟨gS,k*5+2,none⟩=false):=fun W h=>⟨(h.cell (p:=⟨g5,3,none⟩) (by have:=HG5.out;simp only;omega)).trans d3,(h.cell (p:=⟨g5+1,2,none⟩) (by show g5+1<w8.heap.size;omega)).trans d0,(h.cell (p:=⟨gS,k*5+2,none⟩) hltS).trans HC2.out,(World.frozen?_of_block (a:=⟨gS,k*5+2,none⟩) (h.block gS hltS)).trans HFS.out⟩
   have HXK:Hid (ml[k]?=some xk):=by show _=_;rw [hxk];exact List.getElem?_eq_getElem hkml
   have HKM:=Lib.hid hkml
   clear HV hEF hL1 hfzS hcS2 hcS4 hltS hfS kt7 ho6 ho7 ho8 k7 k8 ks8 kz7 kz8 hbw7 hbw8 hrb hrb8 hr7 hb67 hb78 hxx hzx hcon hsz3 hsz6 hsz8 hlen hms hbg hblk hgS6 he6 hb6 hxk hB6 hB7 hB8 hKt hKz hBW hSZ hrw hAS hFD hkm hks hnc hxz
   go_upto_block 0 with ((refine wpList_store_new w6 rfl 27 (.tmp 18) (.tmp 34) rfl 27 [.string ⟨#[]⟩,.int .i64 0,.int .i64 0,.slice none 0 0,.slice none 0 0,.slice none 0 0,.slice none 0 0] [.string ⟨mm.toArray⟩,.int .i64 mq,.int .i64 mx,.slice (some ⟨gS,0,none⟩) m2 m3,.slice n1 n2 n3,.slice p1 p2 p3,.slice q1 q2 q3] rfl rfl rfl (by kernel_rfl) (by simp [Value.oneCell']) ?_;rw [show ([.string ⟨mm.toArray⟩,.int .i64 mq,.int .i64 mx,.slice (some ⟨gS,0,none⟩) m2 m3,.slice n1 n2 n3,.slice p1 p2 p3,.slice q1 q2 q3]:List Value).toArray=#[.string ⟨mm.toArray⟩,.int .i64 mq,.int .i64 mx,.slice (some ⟨gS,0,none⟩) m2 m3,.slice n1 n2 n3,.slice p1 p2 p3,.slice q1 q2 q3] from rfl,← hW7,← hg5];clear hW7 hg5))
   rw [← hW8]
   clear hW8 hsz7
   clear fq0 fq1 fq2 fq3 fq4 dt
   go_cut [2,14,16,18] from 0 to 108 (fun s2 s14 s16 s18 wx=>s2=.int .i64 1∧s14=.pointer (some ⟨w.heap.size+1,0,none⟩)∧s16=.int .i64 EF∧s18=.pointer (some ⟨g5,0,none⟩)∧∃ w9 A1 n1 c1,Hid (Below w8.heap.size w8 w9)∧Hid (EF=0→w9.ownsRow w8.heap.size 75 2 (.slice A1 n1 c1) L1.length (cellsK encB L1))∧wx=w9.setCell ⟨gS,k*5+2,none⟩ (.slice A1 n1 c1))
   case first =>
    go_upto_region 12 with (fail)
    refine wp_region_store 13 [10,14] (by kernel_rfl) (by kernel_rfl) [(fun v _=>v=.pointer (some ⟨g5,3,none⟩)),
      (fun v _=>v=.slice (some ⟨gS,0,none⟩) m2 m3),
      (fun v _=>v=.int .i64 (k:Int)),
      (fun v _=>v=.pointer (some ⟨g5+1,2,none⟩)),
      (fun v _=>v=.slice bA bn bc),
      (fun v _=>v=.int .i64 i),
      (fun v _=>v=.string ⟨d.toArray⟩),
      (fun v W=>∃ A n c,v=.tuple #[.slice A n c,.int .i64 EF]∧(EF=0→W.ownsRow w8.heap.size 75 2 (.slice A n c) L1.length (cellsK encB L1))),
      (fun v W=>∃ A n c,v=.tuple #[.slice A n c,.int .i64 EF]∧(EF=0→W.ownsRow w8.heap.size 75 2 (.slice A n c) L1.length (cellsK encB L1))),
      (fun v W=>∃ A n c,v=.slice A n c∧(EF=0→W.ownsRow w8.heap.size 75 2 (.slice A n c) L1.length (cellsK encB L1))),
      (fun v _=>v=.int .i64 EF),
      (fun v _=>v=.pointer (some ⟨gS,k*5,none⟩)),
      (fun v _=>v=.pointer (some ⟨gS,k*5+2,none⟩)),
      (fun _ _=>True),
      (fun v _=>v=.int .i64 EF)] ?_ (early1 (by kernel_rfl)) ?_ ?_ (fun W W'=>∃ A n c,W'=W.setCell ⟨gS,k*5+2,none⟩ (.slice A n c)∧(EF=0→W.ownsRow w8.heap.size 75 2 (.slice A n c) L1.length (cellsK encB L1))) ?_ (by decide) (fun _ _=>trivial) ?_
    ·repeat' (first | exact stays_nil | refine stays_cons ?_ ?_ | exact Stays.pure | exact (fun v W W' h hb=>let ⟨A,n,c,h1,h2⟩:=h;⟨A,n,c,h1,fun h0=>own_below (h2 h0) hb⟩))
    ·intro i oo ho hiS hil mf W hb0 hmi hcl hdeps AA KK hA hK
     rcases i with _ | _ | _ | _ | _ | _ | _ | _ | _ | _ | _ | _ | _ | _ | _ | i
     ·injection ho with ho;subst ho
      have ef18:AA.tmps[18]?.getD undef=.pointer (some ⟨g5,0,none⟩):=tF hA
      exact zP
     ·injection ho with ho;subst ho
      have e0:=eD hdeps hA 0 56
      obtain ⟨r1,r2,r3,r4⟩:=hSf.out W hb0
      exact zP
     ·injection ho with ho;subst ho
      have ef17:AA.tmps[17]?.getD undef=.int .i64 (k:Int):=tF hA
      exact zP
     ·injection ho with ho;subst ho
      have ef19:AA.tmps[19]?.getD undef=.pointer (some ⟨g5+1,0,none⟩):=tF hA
      exact zP
     ·injection ho with ho;subst ho
      have e3:=eD hdeps hA 3 59
      obtain ⟨r1,r2,r3,r4⟩:=hSf.out W hb0
      exact zP
     ·injection ho with ho;subst ho
      have ef3:AA.tmps[3]?.getD undef=.int .i64 i:=tF hA
      exact zP
     ·injection ho with ho;subst ho
      have ef6:AA.tmps[6]?.getD undef=.string ⟨d.toArray⟩:=tF hA
      exact zP
     ·injection ho with ho;subst ho
      have e4:=eD hdeps hA 4 60
      have e5:=eD hdeps hA 5 61
      have e6:=eD hdeps hA 6 62
      clear hA hdeps hcl hmi hiS hil
      have hKK:=hK
      clear hK
      go_simp
      refine (hcl.out W hb0).mono ?_
      rintro e w5 ⟨A5,n5,c5,rfl,hbn,how⟩
      exact hKK _ _ hbn ⟨A5,n5,c5,rfl,how⟩
     ·injection ho with ho;subst ho
      obtain ⟨x7,hx7,hg7⟩:=hdeps ⟨7,.data⟩ (by simp) rfl
      have hg7:∃ A n c,x7=.tuple #[.slice A n c,.int .i64 EF]∧(EF=0→W.ownsRow w8.heap.size 75 2 (.slice A n c) L1.length (cellsK encB L1)):=hg7
      have hk7:=hg7
      obtain ⟨A7,n7,c7,rfl,how7⟩:=hg7
      have e7:AA.tmps[63]?.getD undef=.tuple #[.slice A7 n7 c7,.int .i64 EF]:=tO hA hx7
      clear hA hdeps hcl hmi hiS hil hx7
      have hK0:KK (AA.put (some 55) _) _:=hK (.tuple #[.slice A7 n7 c7,.int .i64 EF]) _ (Below.refl _ _) ⟨A7,n7,c7,rfl,how7⟩
      clear hK
      go_simp
      exact hK0
     ·injection ho with ho;subst ho
      obtain ⟨x8,hx8,hg8⟩:=hdeps ⟨8,.data⟩ (by simp) rfl
      have hg8:∃ A n c,x8=.tuple #[.slice A n c,.int .i64 EF]∧(EF=0→W.ownsRow w8.heap.size 75 2 (.slice A n c) L1.length (cellsK encB L1)):=hg8
      have hk8:=hg8
      obtain ⟨A8,n8,c8,rfl,how8⟩:=hg8
      have e8:AA.tmps[55]?.getD undef=.tuple #[.slice A8 n8 c8,.int .i64 EF]:=tO hA hx8
      clear hA hdeps hcl hmi hiS hil hx8
      have hK0:KK (AA.put (some 64) _) _:=hK (.slice A8 n8 c8) _ (Below.refl _ _) ⟨A8,n8,c8,rfl,how8⟩
      clear hK
      go_simp
      exact hK0
     ·exact absurd (by decide) hil
     ·injection ho with ho;subst ho
      have e1:=eD hdeps hA 1 57
      have e2:=eD hdeps hA 2 58
      exact zP
     ·injection ho with ho;subst ho
      have e11:=eD hdeps hA 11 66
      exact zP
     ·exact absurd rfl hiS
     ·exact absurd (by decide) hil
     ·simp at ho
    ·intro i oo ho hil mf W W9 hmi hdeps AA KK hA hK
     rcases i with _ | _ | _ | _ | _ | _ | _ | _ | _ | _ | _ | _ | _ | _ | _ | i
     ·exact absurd hil (by decide)
     ·exact absurd hil (by decide)
     ·exact absurd hil (by decide)
     ·exact absurd hil (by decide)
     ·exact absurd hil (by decide)
     ·exact absurd hil (by decide)
     ·exact absurd hil (by decide)
     ·exact absurd hil (by decide)
     ·exact absurd hil (by decide)
     ·exact absurd hil (by decide)
     ·injection ho with ho;subst ho
      obtain ⟨x8,hx8,hg8⟩:=hdeps ⟨8,.data⟩ (by simp) rfl (by decide)
      have hg8:∃ A n c,x8=.tuple #[.slice A n c,.int .i64 EF]∧(EF=0→W9.ownsRow w8.heap.size 75 2 (.slice A n c) L1.length (cellsK encB L1)):=hg8
      obtain ⟨A8,n8,c8,rfl,how8⟩:=hg8
      have e8:AA.tmps[55]?.getD undef=.tuple #[.slice A8 n8 c8,.int .i64 EF]:=tO hA hx8
      clear hA hdeps hmi
      have hK0:KK (AA.put (some 65) _) _:=hK (.int .i64 EF) (fun _=>Eq.refl _)
      clear hK
      go_simp
      exact hK0
     ·exact absurd hil (by decide)
     ·exact absurd hil (by decide)
     ·exact absurd hil (by decide)
     ·injection ho with ho;subst ho
      have e10:=eL hdeps hA 10 65
      clear hA hdeps hmi
      have hK0:KK (AA.put (some 16) _) _:=hK (.int .i64 EF) (fun _=>Eq.refl _)
      clear hK
      go_simp
      exact hK0
     ·exact absurd hil (by simp)
    ·intro oo ho mf W hb0 hmi hdeps AA KK hA hK
     injection ho with ho;subst ho
     obtain ⟨x9,hx9,hg9⟩:=hdeps ⟨9,.data⟩ (by simp) rfl
     have hg9:∃ A n c,x9=.slice A n c∧(EF=0→W.ownsRow w8.heap.size 75 2 (.slice A n c) L1.length (cellsK encB L1)):=hg9
     obtain ⟨A9,n9,c9,rfl,how9⟩:=hg9
     have e9:AA.tmps[64]?.getD undef=.slice A9 n9 c9:=tO hA hx9
     have e12:=eD hdeps hA 12 67
     clear hA hdeps hmi
     obtain ⟨r1,r2,r3,r4⟩:=hSf.out W hb0
     have hK0:KK (AA.put none undef) _:=hK (W.setCell ⟨gS,k*5+2,none⟩ (.slice A9 n9 c9)) ⟨A9,n9,c9,rfl,how9⟩
     clear hK
     go_simp
     exact hK0
    ·intro mf W9 W hb9 hR hall hSm
     have zm0:=dV (hall 0 (by simp) (by decide))
     have zm1:=dV (hall 1 (by simp) (by decide))
     have zm2:=dV (hall 2 (by simp) (by decide))
     have zm3:=dV (hall 3 (by simp) (by decide))
     have zm4:=dV (hall 4 (by simp) (by decide))
     have zm5:=dV (hall 5 (by simp) (by decide))
     have zm6:=dV (hall 6 (by simp) (by decide))
     obtain ⟨x7,zm7,hg7⟩:=hall 7 (by simp) (by decide)
     have hg7:∃ A n c,x7=.tuple #[.slice A n c,.int .i64 EF]∧(EF=0→W9.ownsRow w8.heap.size 75 2 (.slice A n c) L1.length (cellsK encB L1)):=hg7
     obtain ⟨x8,zm8,hg8⟩:=hall 8 (by simp) (by decide)
     have hg8:∃ A n c,x8=.tuple #[.slice A n c,.int .i64 EF]∧(EF=0→W9.ownsRow w8.heap.size 75 2 (.slice A n c) L1.length (cellsK encB L1)):=hg8
     obtain ⟨x9,zm9,hg9⟩:=hall 9 (by simp) (by decide)
     have hg9:∃ A n c,x9=.slice A n c∧(EF=0→W9.ownsRow w8.heap.size 75 2 (.slice A n c) L1.length (cellsK encB L1)):=hg9
     have zm10:=dV (hall 10 (by simp) (by decide))
     have zm11:=dV (hall 11 (by simp) (by decide))
     have zm12:=dV (hall 12 (by simp) (by decide))
     have zm14:=dV (hall 14 (by simp) (by decide))
     rw [frameM_all (by kernel_rfl) [.pointer (some ⟨g5,3,none⟩),.slice (some ⟨gS,0,none⟩) m2 m3,.int .i64 (k:Int),.pointer (some ⟨g5+1,2,none⟩),.slice bA bn bc,.int .i64 i,.string ⟨d.toArray⟩,x7,x8,x9,.int .i64 EF,.pointer (some ⟨gS,k*5,none⟩),.pointer (some ⟨gS,k*5+2,none⟩),undef,.int .i64 EF] rfl (fun i hi=>by rcases i with _ | _ | _ | _ | _ | _ | _ | _ | _ | _ | _ | _ | _ | _ | _ | i <;> first | assumption | (simp at hi;omega))]
     clear hall hSm zm0 zm1 zm2 zm3 zm4 zm5 zm6 zm7 zm8 zm9 zm10 zm11 zm12 zm14
     simp only [putAll,Act.put,List.setIfInBounds_toArray,zC,zB]
     obtain ⟨A1,n1,c1,hW,hown⟩:=hR
     go_wp2_with fail
     go_meet
     exact ⟨rfl,rfl,rfl,rfl,W9,A1,n1,c1,Lib.hid hb9,Lib.hid hown,rfl⟩
   case rest =>
    obtain ⟨rfl,rfl,rfl,rfl,w9,A1,n1,c1,hb9,hown,hW10⟩:=hcut
    obtain ⟨w10,h10⟩:∃ W,W=wc:=⟨_,rfl⟩
    subst h10
    have hb9:=hb9.out
    have hown:=hown.out
    clear d3 d0
    have k10:=(K8.out.below hb9 K8.out.lt).far (p:=⟨gS,k*5+2,none⟩) (by have:=HG5.out;simp only;omega) (.slice A1 n1 c1)
    have kz10:=(KZ8.out.below hb9 KZ8.out.lt).far (p:=⟨gS,k*5+2,none⟩) (by have:=HG5.out;simp only;omega) (.slice A1 n1 c1)
    have hb10:=(HB8.out.trans (hb9.mono HB8.out.size)).setCell (p:=⟨gS,k*5+2,none⟩) (by have:=HG5.out;simp only;omega) (.slice A1 n1 c1)
    have hset:=TenO.setF (HO8.out.below hb9) k 2 HKM.out (by decide)
    have ho9:=HO8.out.below hb9
    have hb9s:=hb9.size
    rw [← hW10] at k10 kz10 hb10
    have K10:=Lib.hid k10
    have KZ10:=Lib.hid kz10
    have HB10:=Lib.hid hb10
    by_cases hE0:EF=0
    ·have hown:=hown hE0
     have hn1:n1=L1.length:=by
      obtain ⟨A3,c3,e3,_⟩:=own_form hown
      injection e3
     subst hn1
     have hSx:=ho9.eachS _ (List.getElem_mem HKM.out)
     have hxk2:ml[k]'HKM.out=xk:=by have:=HXK.out;rw [List.getElem?_eq_getElem HKM.out] at this;exact Option.some.inj this
     have hSx:SetO w9 w3.heap.size xk:=by rw [← hxk2];exact hSx
     obtain ⟨gg,hgg,_,hTO,_⟩:=hset ⟨xk.path,xk.org,⟨A1,L1.length,c1,L1⟩,xk.snaps,xk.own⟩ (.slice A1 L1.length c1) (fun z hz=>by have h1:=HXK.out;rw [h1] at hz;cases hz;rfl) ⟨⟨rfl,own_mono hown (by have:=HG5.out;omega)⟩,hSx.snaps,hSx.each,hSx.own⟩
     have hgg:some (⟨gS,0,none⟩:Addr)=some ⟨gg,0,none⟩:=hgg
     injection hgg with hgg
     injection hgg with hgg
     subst hgg
     rw [← hW10] at hTO
     have HO10:=Lib.hid hTO
     have HC10:Hid (TenR.con (TenR.putS ⟨mm,mq,mx,⟨some ⟨gS,0,none⟩,m2,m3,ml⟩,⟨n1,n2,n3,nl⟩,⟨p1,p2,p3,pl⟩,⟨q1,q2,q3,ql⟩⟩ k ⟨xk.path,xk.org,⟨A1,L1.length,c1,L1⟩,xk.snaps,xk.own⟩)=C.putS k ⟨pa,og,L1,zl.map SnapR.con,ol⟩):=by
      show _=_
      rw [TenR.con_putS,hyc.out]
      have:=HCO.out
      simp only [SetR.con,SetC.mk.injEq] at this
      obtain ⟨e1,e2,e3,e4,e5⟩:=this
      simp only [SetR.con,e1,e2,e4,e5]
     subst hE0
     have HV0:=Lib.hid (HVF.out.trans (if_neg (by decide)))
     obtain ⟨d0,d1,d2,d3,d4,d5,d6⟩:=(⟨K10.out.cell 0,K10.out.cell 1,K10.out.cell 2,K10.out.cell 3,K10.out.cell 4,K10.out.cell 5,K10.out.cell 6⟩:_∧_∧_∧_∧_∧_∧_)
     simp only [zF,zD,zE] at d0 d1 d2 d3 d4 d5 d6
     clear k10 kz10 hb10 hset ho9 hb9s hown hSx hxk2 hTO hb9
     have HC2:Hid ((C.putS k ⟨pa,og,L1,zl.map SnapR.con,ol⟩).E=0∧(C.putS k ⟨pa,og,L1,zl.map SnapR.con,ol⟩).sz):=⟨writeF_ok (HV0.out.symm.trans HVQ.out),changed_sz HCZ.out (HV0.out.symm.trans HVQ.out) (writeF_sz i d)⟩
     have hSE:=rsettled_any (TenR.putS ⟨mm,mq,mx,⟨some ⟨gS,0,none⟩,m2,m3,ml⟩,⟨n1,n2,n3,nl⟩,⟨p1,p2,p3,pl⟩,⟨q1,q2,q3,ql⟩⟩ k ⟨xk.path,xk.org,⟨A1,L1.length,c1,L1⟩,xk.snaps,xk.own⟩) w10 w3.heap.size HO10.out (TenR.sz_of HO10.out.rd (by rw [HC10.out];exact HC2.out.2)) (by rw [tenE_con,HC10.out];exact HC2.out.1)
     rw [HC10.out] at hSE
     obtain ⟨C2,hC2⟩:∃ c,c=(C.putS k ⟨pa,og,L1,zl.map SnapR.con,ol⟩):=⟨_,rfl⟩
     rw [← hC2] at hSE HV0 HC10
     have HSE:Hid (Calls Tryz.prog 54 #[.agg #[.string ⟨mm.toArray⟩,.int .i64 mq,.int .i64 mx,.slice (some ⟨gS,0,none⟩) m2 m3,.slice n1 n2 n3,.slice p1 p2 p3,.slice q1 q2 q3]] w10 (SettledPost C2.quota (C2.charge:Int) (.agg #[.string ⟨mm.toArray⟩,.int .i64 mq,.int .i64 mx,.slice (some ⟨gS,0,none⟩) m2 m3,.slice n1 n2 n3,.slice p1 p2 p3,.slice q1 q2 q3]) w10)):=hSE
     clear hSE hC2 HC2
     clear hW10
     go_wp2_with fail
     refine HSE.out.mono ?_
     clear HSE d0 d1 d2 d3 d4 d5 d6
     rintro e w11 ⟨hb,hcs⟩
     have KZ11:=Lib.hid (KZ10.out.below hb KZ10.out.lt)
     have HB11:=Lib.hid (HB10.out.trans (hb.mono HB10.out.size))
     have HO11:=Lib.hid (HO10.out.below hb)
     clear hb
     rcases hcs with ⟨hq,rfl⟩ | ⟨hq,rfl⟩
     ·have HX:Hid (V=(42,C2)):=by show _=_;rw [HV1.out,HV0.out];unfold changeQ TenC.settled;rw [if_neg (show ¬ (0:Int)≠0 by decide),if_pos hq]
      clear hq
      unfold ZEROT
      obtain ⟨WR,hW4,hth,HL,HBW,hgw⟩:=res7 (g:=(w.heap.size+1)) [.string ⟨#[]⟩,.int .i64 0,.int .i64 0,.slice none 0 0,.slice none 0 0,.slice none 0 0,.slice none 0 0] KZ11.out HB11.out (by omega)
      clear hgw
      go_wp2_with (refine wpList_store_mid rfl 27 (.tmp 14) (.tmp 106) rfl ((w.heap.size+1)) 0 #[.string ⟨#[]⟩,.int .i64 0,.int .i64 0,.slice none 0 0,.slice none 0 0,.slice none 0 0,.slice none 0 0] rfl rfl hth.out (by kernel_rfl) (by simp [Value.oneCell']) ?_;rw [← hW4];clear hW4)
      exact bodyPost_ret (v:=.tuple #[.agg #[.string ⟨#[]⟩,.int .i64 0,.int .i64 0,.slice none 0 0,.slice none 0 0,.slice none 0 0,.slice none 0 0],.int .i64 42]) (results_cell_tmp rfl rfl HL.out) rfl (tenPost_err HX.out (by decide) HBW.out)
     ·have HX:Hid (V=(0,C2)):=by show _=_;rw [HV1.out,HV0.out];unfold changeQ TenC.settled;rw [if_neg (show ¬ (0:Int)≠0 by decide),if_neg hq]
      clear hq
      obtain ⟨WR,hW4,hth,HL,HBW,hgw⟩:=res7 (g:=(w.heap.size+1)) [.string ⟨mm.toArray⟩,.int .i64 mq,.int .i64 mx,.slice (some ⟨gS,0,none⟩) m2 m3,.slice n1 n2 n3,.slice p1 p2 p3,.slice q1 q2 q3] KZ11.out HB11.out (by omega)
      have HOO:=Lib.hid ((TenO.keptT HO11.out hgw KZ11.out offT_ten).mono (base':=w.heap.size) (by have:=HG5.out;omega))
      clear hgw
      go_wp2_with (refine wpList_store_mid rfl 27 (.tmp 14) (.tmp 106) rfl ((w.heap.size+1)) 0 #[.string ⟨mm.toArray⟩,.int .i64 mq,.int .i64 mx,.slice (some ⟨gS,0,none⟩) m2 m3,.slice n1 n2 n3,.slice p1 p2 p3,.slice q1 q2 q3] rfl rfl hth.out (by kernel_rfl) (by simp [Value.oneCell']) ?_;rw [← hW4];clear hW4)
      exact bodyPost_ret (v:=.tuple #[.agg #[.string ⟨mm.toArray⟩,.int .i64 mq,.int .i64 mx,.slice (some ⟨gS,0,none⟩) m2 m3,.slice n1 n2 n3,.slice p1 p2 p3,.slice q1 q2 q3],.int .i64 0]) (results_cell_tmp rfl rfl HL.out) rfl (tenPost_ok HX.out HBW.out (TenR.putS ⟨mm,mq,mx,⟨some ⟨gS,0,none⟩,m2,m3,ml⟩,⟨n1,n2,n3,nl⟩,⟨p1,p2,p3,pl⟩,⟨q1,q2,q3,ql⟩⟩ k ⟨xk.path,xk.org,⟨A1,L1.length,c1,L1⟩,xk.snaps,xk.own⟩) HOO.out HC10.out)
    ·have HX:Hid (V=(EF,C)):=by show _=_;rw [HV1.out,HVF.out,if_pos hE0];unfold changeQ;rw [if_pos hE0]
     have HNE:=Lib.hid hE0
     have hEb:(EF == 0)=false:=by simpa using hE0
     clear k10 kz10 hb10 hset ho9 hb9s hown hb9
     clear hW10
     obtain ⟨WR,hW4,hth,HL,HBW,hgw⟩:=res7 (g:=(w.heap.size+1)) [.string ⟨#[]⟩,.int .i64 0,.int .i64 0,.slice none 0 0,.slice none 0 0,.slice none 0 0,.slice none 0 0] KZ10.out HB10.out (by omega)
     clear hgw
     go_wp2_with (refine wpList_store_mid rfl 27 (.tmp 14) (.tmp 100) rfl ((w.heap.size+1)) 0 #[.string ⟨#[]⟩,.int .i64 0,.int .i64 0,.slice none 0 0,.slice none 0 0,.slice none 0 0,.slice none 0 0] rfl rfl hth.out (by kernel_rfl) (by simp [Value.oneCell']) ?_;rw [← hW4];clear hW4)
     exact bodyPost_ret (v:=.tuple #[.agg #[.string ⟨#[]⟩,.int .i64 0,.int .i64 0,.slice none 0 0,.slice none 0 0,.slice none 0 0,.slice none 0 0],.int .i64 EF]) (results_cell_tmp rfl rfl HL.out) rfl (tenPost_err HX.out HNE.out HBW.out)
 ·have HV:=Lib.hid (HV.out.trans (if_pos (by decide)))
  have HX:Hid (V=(9,C)):=by show _=_;rw [HV1.out,HV.out];rfl
  clear HV HV1
  have KZ:=Lib.hid (hKz.out w2 HW2.out)
  have HB:=Lib.hid (hBW.out w2 HW2.out)
  obtain ⟨WR,hW4,hth,HL,HBW,hgw⟩:=res7 (g:=(w.heap.size+1)) [.string ⟨#[]⟩,.int .i64 0,.int .i64 0,.slice none 0 0,.slice none 0 0,.slice none 0 0,.slice none 0 0] KZ.out HB.out (by omega)
  clear hgw
  go_wp2_with (refine wpList_store_mid rfl 27 (.tmp 14) (.tmp 25) rfl ((w.heap.size+1)) 0 #[.string ⟨#[]⟩,.int .i64 0,.int .i64 0,.slice none 0 0,.slice none 0 0,.slice none 0 0,.slice none 0 0] rfl rfl hth.out (by kernel_rfl) (by simp [Value.oneCell']) ?_;rw [← hW4];clear hW4)
  exact bodyPost_ret (v:=.tuple #[.agg #[.string ⟨#[]⟩,.int .i64 0,.int .i64 0,.slice none 0 0,.slice none 0 0,.slice none 0 0,.slice none 0 0],.int .i64 9]) (results_cell_tmp rfl rfl HL.out) rfl (tenPost_err HX.out (by decide) HBW.out)
 ·have HV:=Lib.hid (HV.out.trans (if_pos (by decide)))
  have HX:Hid (V=(31,C)):=by show _=_;rw [HV1.out,HV.out];rfl
  clear HV HV1
  have KZ:=Lib.hid (hKz.out w2 HW2.out)
  have HB:=Lib.hid (hBW.out w2 HW2.out)
  obtain ⟨WR,hW4,hth,HL,HBW,hgw⟩:=res7 (g:=(w.heap.size+1)) [.string ⟨#[]⟩,.int .i64 0,.int .i64 0,.slice none 0 0,.slice none 0 0,.slice none 0 0,.slice none 0 0] KZ.out HB.out (by omega)
  clear hgw
  go_wp2_with (refine wpList_store_mid rfl 27 (.tmp 14) (.tmp 25) rfl ((w.heap.size+1)) 0 #[.string ⟨#[]⟩,.int .i64 0,.int .i64 0,.slice none 0 0,.slice none 0 0,.slice none 0 0,.slice none 0 0] rfl rfl hth.out (by kernel_rfl) (by simp [Value.oneCell']) ?_;rw [← hW4];clear hW4)
  exact bodyPost_ret (v:=.tuple #[.agg #[.string ⟨#[]⟩,.int .i64 0,.int .i64 0,.slice none 0 0,.slice none 0 0,.slice none 0 0,.slice none 0 0],.int .i64 31]) (results_cell_tmp rfl rfl HL.out) rfl (tenPost_err HX.out (by decide) HBW.out)
end Go.Proofs.YtcgclpcocdappaaGreatDoor
