/-
  shape.Destroy: a set is gone.
-/
import Derived.Test.YtiojfffgiejibaaGreatDoorQsM1
import Derived.WalkKit
import Derived.WalkSpells
import Derived.Below
import Derived.Laws.OwnMore
import Derived.Deep.AppendLies
import Derived.Deep.Draws
import Derived.Laws.Rows
import Derived.Maps.AppendAt
import Derived.RegionTactic
import Derived.OwnWalk
import Derived.Deep.QuietTactic
import Derived.BigQuiet
import Derived.Lib.Hide
import Derived.Laws.CopyOwn
import Derived.IntWalk
import Derived.Test.YtiojfffgiejibaaGreatDoorRows
import Derived.Handy
import Derived.Deep.Quiet
import Derived.ProofKit
import Derived.OpenShut
import Derived.ShutString
import Derived.ChangeOld
import Derived.Carry
import Derived.SizedLaws
import Derived.JoinedCond
import Derived.Deep.CondSized
import Derived.Deep.Slices
import Derived.Deep.Fields
import Derived.Lib.SmallJoins
import Derived.Orders
import Derived.Lib.SplitLaws
import Derived.Lib.LastIndexByte
import Derived.Lib.Strings
import Derived.Sort.Walk0
import Derived.Sort.KeysCollected
import Derived.Deep.MidRow
import Derived.Deep.RegionLaw
import Derived.Lib.AppendZeros
import Derived.Shelf.Strings.Search1
import Derived.Shelf.Strings.Search2
import Derived.Shelf.Strings.Search3
import Derived.Shelf.Strings.Cut
import Derived.Shelf.Strings.Count
import Derived.Shelf.LaysM
import Derived.Shelf.Strings.Shaped
import Derived.Shelf.Strings.LastIndex
import Derived.Shelf.Strings.Split
import Derived.Shelf.Strings.SplitShaped
import Derived.Shelf.Unicode.Decode
import Derived.Shelf.Strings.RuneCount
import Derived.Shelf.Strings.Explode
import Derived.Shelf.Unicode.DecodeSlow
import Derived.Shelf.Slices.Turned
import Derived.Test.YtiojfffgiejibaaGreatDoorProg
import Derived.Lib.Overlaps
import Derived.Lib.AppendZerosOnto
import Derived.Laws.BytesString
import Derived.Laws.IdiomStrings
import Derived.Lib.ConvBytes
import Derived.Deep.DeepCutAuto
import Derived.Great.BuildSlice
import Derived.Test.YtiojfffgiejibaaGreatDoorQ0
import Derived.Test.YtiojfffgiejibaaGreatDoorQs1
import Derived.Test.YtiojfffgiejibaaGreatDoorQs5
import Derived.Test.YtiojfffgiejibaaGreatDoorQs7
import Derived.Test.YtiojfffgiejibaaGreatDoorQs10
import Derived.Test.YtiojfffgiejibaaGreatDoorQs11
import Derived.Test.YtiojfffgiejibaaGreatDoorQs12
import Derived.Test.YtiojfffgiejibaaGreatDoorQs15
import Derived.Test.YtiojfffgiejibaaGreatDoorQs16
import Derived.Test.YtiojfffgiejibaaGreatDoorQs17
import Derived.Test.YtiojfffgiejibaaGreatDoorQs19
import Derived.Test.YtiojfffgiejibaaGreatDoorQs20
import Derived.Test.YtiojfffgiejibaaGreatDoorQs21
import Derived.Test.YtiojfffgiejibaaGreatDoorQs26
import Derived.Test.YtiojfffgiejibaaGreatDoorQs27
import Derived.Test.YtiojfffgiejibaaGreatDoorQs29
import Derived.Test.YtiojfffgiejibaaGreatDoorQs30
import Derived.Test.YtiojfffgiejibaaGreatDoorQs31
namespace Go.Proofs.YtiojfffgiejibaaGreatDoor
open Go.RowKit
theorem any_congr_mem {α:Type} {p q:α→Bool} (l:List α) (h:∀ y∈l,p y=q y):l.any p=l.any q:=by
 induction l with
 | nil=>rfl
 | cons x r ih=>rw [List.any_cons,List.any_cons,h x List.mem_cons_self,ih fun y hy=>h y (List.mem_cons_of_mem _ hy)]
def TenC.clones (c:TenC) (p q:BS):Nat:=(c.sets.filter fun s=>clP p q s.org).length
theorem clones_con (t:TenR) (p q:BS):(clonesL t.sets.l p q).length=t.con.clones p q:=by
 unfold clonesL TenC.clones
 exact mZ155
/-- a set is gone -/
def TenC.destroy (c:TenC) (p:BS):Int×TenC:=if c.ask p≠0 then (c.ask p,c) else if c.find p<0 then (71,c) else if p=[]∨0<c.kids p+c.clones p []∨(c.stages.any fun s=>s.into == p)=true then (44,c) else if c.heldAt (c.find p).toNat=true then (43,c) else (0,c.dropS (c.find p).toNat)
theorem any_stages (t:TenR) (p:BS):(t.con.stages.any fun s=>s.into == p)=t.stages.l.any fun s=>s.into == p:=by
 show (t.stages.l.map StageR.con).any _=_
 rw [List.any_map]
 rfl
theorem placeP_con (t:TenR) (p:BS):placeP t p=if t.con.ask p≠0 then (0,t.con.ask p) else if t.con.find p<0 then (0,71) else (t.con.find p,0):=by
 unfold placeP
 rw [askP_con,← findS_con]
 by_cases h:t.con.ask p≠0
 ·rw [if_pos h,if_pos h]
 ·rw [if_neg h,if_neg h]
  rcases firstI_cases (fun s:SetR=>s.path == p) t.sets.l with ⟨h1,h2⟩ | ⟨k,hk,h1,h2⟩
  ·have h1:findS t.sets.l p=-1:=h1
   simp only [h2,h1]
   rfl
  ·have h1:findS t.sets.l p=(k:Int):=h1
   simp only [h2,h1]
   rw [if_neg tZ1]
set_option maxRecDepth 100000 in
set_option maxHeartbeats 8000000 in
theorem destroy_any (t:TenR) (p:BS) (w:World) (B:Nat) (hB:B≤w.heap.size) (hr:t.rd w B) (hz:t.sz) (hp:p.length≤4000000000) (hmx:HasMax w) :
  Calls Tryz.prog 9 #[t.val,.string ⟨p.toArray⟩] w (TenPost w (t.con.destroy p)):=by
 have h3:t.con.ask p=0∨t.con.ask p=9∨t.con.ask p=31:=tZ57
 obtain ⟨V,hV⟩:∃ V,V=t.con.destroy p:=⟨_,rfl⟩
 have hVe:V=if t.con.ask p≠0 then (t.con.ask p,t.con) else if t.con.find p<0 then (71,t.con) else if p=[]∨0<(kidsL t.sets.l p).length+(clonesL t.sets.l p []).length∨(t.stages.l.any fun s=>s.into == p)=true then (44,t.con) else if t.con.heldAt (t.con.find p).toNat=true then (43,t.con) else (0,t.con.dropS (t.con.find p).toNat):=by
  rw [hV,kids_con,clones_con,← any_stages]
  rfl
 rw [← hV]
 have hpl:=placeP_con t p
 have hfk:∀ k:Nat,t.con.find p=(k:Int)→∃ h:k<t.sets.l.length,t.con.heldAt k=(t.sets.l[k]'h).snaps.l.any fun y=>decide (0<y.tags.n):=fun k hk=>by
  exact mZ187
 have hfk2:t.con.find p<0∨∃ k:Nat,t.con.find p=(k:Int):=by
  by_cases h:t.con.find p<0
  ·exact .inl h
  ·exact .inr ⟨(t.con.find p).toNat,by omega⟩
 obtain ⟨nm,qu,nx,⟨s1,sn,s3,sl⟩,⟨u1,un,u3,ul⟩,⟨t1,tn,t3,tl⟩,⟨l1,ln,l3,ll⟩⟩:=t
 show Calls Tryz.prog 9 #[.agg #[.string ⟨nm.toArray⟩,.int .i64 qu,.int .i64 nx,.slice s1 sn s3,.slice u1 un u3,.slice t1 tn t3,.slice l1 ln l3],.string ⟨p.toArray⟩] w _
 have hb:=((((Below.refl w.heap.size w).alloc (Nat.le_refl _) (.cells #[.string ⟨nm.toArray⟩,.int .i64 qu,.int .i64 nx,.slice s1 sn s3,.slice u1 un u3,.slice t1 tn t3,.slice l1 ln l3] 27)).alloc tZ3 (.cells #[.string ⟨p.toArray⟩] 9)).alloc tZ7 (.cells #[.string ⟨#[]⟩,.int .i64 0,.int .i64 0,.slice none 0 0,.slice none 0 0,.slice none 0 0,.slice none 0 0] 27))
 have kt:=Blk.new w 27 #[.string ⟨nm.toArray⟩,.int .i64 qu,.int .i64 nx,.slice s1 sn s3,.slice u1 un u3,.slice t1 tn t3,.slice l1 ln l3]
 replace kt:=kt.alloc (.cells #[.string ⟨p.toArray⟩] 9)
 replace kt:=kt.alloc (.cells #[.string ⟨#[]⟩,.int .i64 0,.int .i64 0,.slice none 0 0,.slice none 0 0,.slice none 0 0,.slice none 0 0] 27)
 have kp:=Blk.new (w.alloc (.cells #[.string ⟨nm.toArray⟩,.int .i64 qu,.int .i64 nx,.slice s1 sn s3,.slice u1 un u3,.slice t1 tn t3,.slice l1 ln l3] 27)) 9 #[.string ⟨p.toArray⟩]
 rw [show (w.alloc (.cells #[.string ⟨nm.toArray⟩,.int .i64 qu,.int .i64 nx,.slice s1 sn s3,.slice u1 un u3,.slice t1 tn t3,.slice l1 ln l3] 27)).heap.size=w.heap.size+1 by simp] at kp
 replace kp:=kp.alloc (.cells #[.string ⟨#[]⟩,.int .i64 0,.int .i64 0,.slice none 0 0,.slice none 0 0,.slice none 0 0,.slice none 0 0] 27)
 have kz:=Blk.new ((w.alloc (.cells #[.string ⟨nm.toArray⟩,.int .i64 qu,.int .i64 nx,.slice s1 sn s3,.slice u1 un u3,.slice t1 tn t3,.slice l1 ln l3] 27)).alloc (.cells #[.string ⟨p.toArray⟩] 9)) 27 #[.string ⟨#[]⟩,.int .i64 0,.int .i64 0,.slice none 0 0,.slice none 0 0,.slice none 0 0,.slice none 0 0]
 rw [show ((w.alloc (.cells #[.string ⟨nm.toArray⟩,.int .i64 qu,.int .i64 nx,.slice s1 sn s3,.slice u1 un u3,.slice t1 tn t3,.slice l1 ln l3] 27)).alloc (.cells #[.string ⟨p.toArray⟩] 9)).heap.size=w.heap.size+2 by simp] at kz
 have hsz:(((w.alloc (.cells #[.string ⟨nm.toArray⟩,.int .i64 qu,.int .i64 nx,.slice s1 sn s3,.slice u1 un u3,.slice t1 tn t3,.slice l1 ln l3] 27)).alloc (.cells #[.string ⟨p.toArray⟩] 9)).alloc (.cells #[.string ⟨#[]⟩,.int .i64 0,.int .i64 0,.slice none 0 0,.slice none 0 0,.slice none 0 0,.slice none 0 0] 27)).heap.size=w.heap.size+3:=tZ3
 obtain ⟨W1,hW1⟩:∃ W,W=(((w.alloc (.cells #[.string ⟨nm.toArray⟩,.int .i64 qu,.int .i64 nx,.slice s1 sn s3,.slice u1 un u3,.slice t1 tn t3,.slice l1 ln l3] 27)).alloc (.cells #[.string ⟨p.toArray⟩] 9)).alloc (.cells #[.string ⟨#[]⟩,.int .i64 0,.int .i64 0,.slice none 0 0,.slice none 0 0,.slice none 0 0,.slice none 0 0] 27)):=⟨_,rfl⟩
 rw [← hW1] at hb hsz kt kp kz
 have hKt:Hid (∀ W,Below W1.heap.size W1 W→Blk W w.heap.size 27 #[.string ⟨nm.toArray⟩,.int .i64 qu,.int .i64 nx,.slice s1 sn s3,.slice u1 un u3,.slice t1 tn t3,.slice l1 ln l3]):=fun W h=>kt.below h tZ1
 have hKp:Hid (∀ W,Below W1.heap.size W1 W→Blk W (w.heap.size+1) 9 #[.string ⟨p.toArray⟩]):=fun W h=>kp.below h tZ1
 have hKz:Hid (∀ W,Below W1.heap.size W1 W→Blk W (w.heap.size+2) 27 #[.string ⟨#[]⟩,.int .i64 0,.int .i64 0,.slice none 0 0,.slice none 0 0,.slice none 0 0,.slice none 0 0]):=fun W h=>kz.below h tZ1
 have hBW:Hid (∀ W,Below W1.heap.size W1 W→Below w.heap.size w W):=fun W h=>hb.trans (h.mono tZ1)
 have hSZ:Hid (∀ W,Below W1.heap.size W1 W→w.heap.size+3≤W.heap.size):=fun W h=>by have:=h.size;omega
 have hW0:Hid (Below W1.heap.size W1 W1):=Below.refl _ _
 have hrw:Hid (∀ W,Below W1.heap.size W1 W→TenR.rd W B ⟨nm,qu,nx,⟨s1,sn,s3,sl⟩,⟨u1,un,u3,ul⟩,⟨t1,tn,t3,tl⟩,⟨l1,ln,l3,ll⟩⟩∧B≤W.heap.size∧HasMax W):=fun W h =>
  ⟨TenR.rd.below hr ((hBW.out W h).mono hB),by have:=hSZ.out W h;omega,hmx.below (hBW.out W h)⟩
 obtain ⟨C,hC⟩:∃ C,C=TenR.con ⟨nm,qu,nx,⟨s1,sn,s3,sl⟩,⟨u1,un,u3,ul⟩,⟨t1,tn,t3,tl⟩,⟨l1,ln,l3,ll⟩⟩:=⟨_,rfl⟩
 have hHC:=Lib.hid hC
 rw [← hC] at h3 hVe hpl hfk hfk2
 obtain ⟨E0,hE0⟩:∃ E,E=C.ask p:=⟨_,rfl⟩
 obtain ⟨F0,hF0⟩:∃ F,F=C.find p:=⟨_,rfl⟩
 have hPL:Hid (∀ W,Below W1.heap.size W1 W→Calls Tryz.prog 48 #[.agg #[.string ⟨nm.toArray⟩,.int .i64 qu,.int .i64 nx,.slice s1 sn s3,.slice u1 un u3,.slice t1 tn t3,.slice l1 ln l3],.string ⟨p.toArray⟩] W fun e w'=>e=.returned (.tuple #[.int .i64 (if E0≠0 then (0,E0) else if F0<0 then (0,71) else (F0,0)).1,.int .i64 (if E0≠0 then (0,E0) else if F0<0 then (0,71) else (F0,0)).2])∧Below W.heap.size W w'):=fun W h=>by
  rw [hE0,hF0,← hpl]
  exact place_any ⟨nm,qu,nx,⟨s1,sn,s3,sl⟩,⟨u1,un,u3,ul⟩,⟨t1,tn,t3,tl⟩,⟨l1,ln,l3,ll⟩⟩ p W B (hrw.out W h).2.1 (hrw.out W h).1 hz hp (hrw.out W h).2.2
 rw [← hE0,← hF0] at hVe
 rw [← hE0] at h3
 rw [← hF0] at hfk hfk2
 have hSG:Hid (∀ W,Below W1.heap.size W1 W→Calls Tryz.prog 49 #[.slice t1 tn t3,.func (.func 50) #[] #[.pointer (some ⟨w.heap.size+1,0,none⟩)]] W fun e w'=>e=.returned (.bool (tl.any fun x=>x.into == p))∧Below W.heap.size W w'):=fun W h =>
  staged_any tl tn hr.stages.1 t1 t3 ⟨w.heap.size+1,0,none⟩ p W B (hrw.out W h).1.stages.2.2 (hrw.out W h).2.1 tZ104 ((hKp.out W h).cell 0) (by have:=hSZ.out W h;simp only;omega)
 obtain ⟨TV,hTV⟩:∃ v,v=Value.agg #[.string ⟨nm.toArray⟩,.int .i64 qu,.int .i64 nx,.slice s1 sn s3,.slice u1 un u3,.slice t1 tn t3,.slice l1 ln l3]:=⟨_,rfl⟩
 have HTV:=Lib.hid hTV
 have hKD:Hid (∀ W,Below W1.heap.size W1 W→Calls Tryz.prog 51 #[TV,.string ⟨p.toArray⟩] W fun e w'=>(∃ A1 c1,e=.returned (.slice A1 (kidsL sl p).length c1))∧Below W.heap.size W w'):=fun W h=>by
  rw [hTV]
  exact (kids_any _ _ _ _ _ _ sl sn hr.sets.1 s1 s3 p W B (hrw.out W h).1.sets.2.2 (hrw.out W h).2.1 tZ17 (fun y hy=>(hz.eachS y hy).path) (hrw.out W h).2.2).mono (by rintro e w' ⟨A1,c1,rfl,-,hb⟩;exact ⟨⟨A1,c1,rfl⟩,hb⟩)
 have hCN:Hid (∀ W,Below W1.heap.size W1 W→Calls Tryz.prog 52 #[TV,.string ⟨p.toArray⟩,.string ⟨#[]⟩] W fun e w'=>(∃ A1 c1,e=.returned (.slice A1 (clonesL sl p []).length c1))∧Below W.heap.size W w'):=fun W h=>by
  rw [hTV]
  exact (clones_any _ _ _ _ _ _ sl sn hr.sets.1 s1 s3 p [] W B (hrw.out W h).1.sets.2.2 (hrw.out W h).2.1 tZ17 (fun y hy=>(hz.eachS y hy).org) (hrw.out W h).2.2).mono (by rintro e w' ⟨A1,c1,rfl,-,hb⟩;exact ⟨⟨A1,c1,rfl⟩,hb⟩)
 have hCP:Hid (∀ W,Below W1.heap.size W1 W→Calls Tryz.prog 54 #[.agg #[.string ⟨nm.toArray⟩,.int .i64 qu,.int .i64 nx,.slice s1 sn s3,.slice u1 un u3,.slice t1 tn t3,.slice l1 ln l3]] W fun e w'=>∃ y:TenR,e=.returned y.val∧TenO w' W.heap.size y∧TenR.eqv ⟨nm,qu,nx,⟨s1,sn,s3,sl⟩,⟨u1,un,u3,ul⟩,⟨t1,tn,t3,tl⟩,⟨l1,ln,l3,ll⟩⟩ y∧Below W.heap.size W w'):=fun W h =>
  tcopy_any ⟨nm,qu,nx,⟨s1,sn,s3,sl⟩,⟨u1,un,u3,ul⟩,⟨t1,tn,t3,tl⟩,⟨l1,ln,l3,ll⟩⟩ W B (hrw.out W h).2.1 (hrw.out W h).1 hz
 have hSN:=Lib.hid (show sn=sl.length from hr.sets.1)
 have hln:kidsL sl p=kidsL sl p∧(kidsL sl p).length≤1000000000000∧(clonesL sl p []).length≤1000000000000:=by
  have h1:=hz.sets
  have h2:=hr.sets.1
  simp only at h1 h2
  have h4:=List.length_filter_le (fun s:SetR=>parB s.path == some p) sl
  have h5:=List.length_filter_le (fun s:SetR=>clP p [] s.org) sl
  unfold kidsL clonesL
  rw [List.length_map,List.length_map]
  exact ⟨rfl,by omega,by omega⟩
 obtain ⟨kN,hkN⟩:∃ k,k=(kidsL sl p).length:=⟨_,rfl⟩
 obtain ⟨cN,hcN⟩:∃ k,k=(clonesL sl p []).length:=⟨_,rfl⟩
 obtain ⟨sB,hsB⟩:∃ b,b=tl.any fun x=>x.into == p:=⟨_,rfl⟩
 rw [← hkN,← hcN] at hln
 simp only [← hkN,← hcN,← hsB] at hVe
 rw [← hkN] at hKD
 rw [← hcN] at hCN
 rw [← hsB] at hSG
 obtain ⟨sU,hsU⟩:∃ s:Int,s=(kN:Int)+(cN:Int):=⟨_,rfl⟩
 have hwr:IntKind.i64.wrap ((kN:Int)+(cN:Int))=sU:=tZ21
 have HFK:=Lib.hid hfk
 have HSU:=Lib.hid hsU
 have HZ:=Lib.hid hz
 have HV:=Lib.hid hVe
 clear hTV hb hsz kt kp kz hr hp hmx hVe hV hpl hfk hC hE0 hF0 hkN hcN hsB hln hsU hz
 go_enter Tryz.func9,Tryz.ntmps9
 obtain ⟨pv,hpv⟩:∃ v,v=(if E0≠0 then ((0:Int),E0) else if F0<0 then (0,71) else (F0,0)):=⟨_,rfl⟩
 rw [← hpv] at hPL
 have HPV:=Lib.hid hpv
 clear hpv
 obtain ⟨pv1,pv2⟩:=pv
 have hc:=hPL.out  W1 hW0.out
 have kk:=hKt.out W1 hW0.out
 obtain ⟨c0,c1,c2,c3,c4,c5,c6⟩:=(⟨kk.cell 0,kk.cell 1,kk.cell 2,kk.cell 3,kk.cell 4,kk.cell 5,kk.cell 6⟩:_∧_∧_∧_∧_∧_∧_)
 simp only [zF,zD,zE] at c0 c1 c2 c3 c4 c5 c6
 clear kk
 have kk:=hKp.out W1 hW0.out
 have d0:=kk.cell 0
 simp only [zF,zE] at d0
 clear kk
 go_wp2_with fail
 rw [← hW1]
 clear hW1
 refine hc.mono ?_
 clear hc c0 c1 c2 c3 c4 c5 c6 d0
 rintro e w2 ⟨rfl,hb⟩
 have HW2:=Lib.hid (hW0.out.trans (hb.mono hW0.out.size))
 clear hb
 have hc:=hSG.out  w2 HW2.out
 have kk:=hKt.out w2 HW2.out
 obtain ⟨c0,c1,c2,c3,c4,c5,c6⟩:=(⟨kk.cell 0,kk.cell 1,kk.cell 2,kk.cell 3,kk.cell 4,kk.cell 5,kk.cell 6⟩:_∧_∧_∧_∧_∧_∧_)
 simp only [zF,zD,zE] at c0 c1 c2 c3 c4 c5 c6
 clear kk
 go_wp2_with fail
 refine hc.mono ?_
 clear hc c0 c1 c2 c3 c4 c5 c6
 rintro e w3 ⟨rfl,hb⟩
 have HW3:=Lib.hid (HW2.out.trans (hb.mono HW2.out.size))
 clear hb
 rcases h3 with rfl | rfl | rfl
 ·have HV:=Lib.hid (HV.out.trans (if_neg tZ4))
  by_cases hf0:F0<0
  ·have hpv:pv1=0∧pv2=71:=by have h:=HPV.out;rw [if_neg tZ4,if_pos hf0] at h;injection h with h1 h2;exact ⟨h1,h2⟩
   obtain ⟨rfl,rfl⟩:=hpv
   have HX:=Lib.hid (HV.out.trans (if_pos hf0))
   clear HV HPV
   have KZ:=Lib.hid (hKz.out w3 HW3.out)
   have HB:=Lib.hid (hBW.out w3 HW3.out)
   obtain ⟨WR,hW4,hth,HL,HBW,hgw⟩:=res7 (g:=(w.heap.size+2)) [.string ⟨#[]⟩,.int .i64 0,.int .i64 0,.slice none 0 0,.slice none 0 0,.slice none 0 0,.slice none 0 0] KZ.out HB.out tZ1
   clear hgw
   go_wp2_with (refine wpList_store_mid rfl 27 (.tmp 4) (.tmp 23) rfl ((w.heap.size+2)) 0 #[.string ⟨#[]⟩,.int .i64 0,.int .i64 0,.slice none 0 0,.slice none 0 0,.slice none 0 0,.slice none 0 0] rfl rfl hth.out tZ2 tZ5 ?_;rw [← hW4];clear hW4)
   exact mZ186
  ·have hpv:F0=pv1∧pv2=0:=by have h:=HPV.out;rw [if_neg tZ4,if_neg hf0] at h;injection h with h1 h2;exact ⟨h1.symm,h2⟩
   obtain ⟨rfl,rfl⟩:=hpv
   have HV:=Lib.hid (HV.out.trans (if_neg hf0))
   clear HPV
   have hS:Hid (∀ W,Below w3.heap.size w3 W→W.cell? ⟨w.heap.size,0,none⟩=some (.string ⟨nm.toArray⟩)∧W.cell? ⟨w.heap.size,1,none⟩=some (.int .i64 qu)∧W.cell? ⟨w.heap.size,2,none⟩=some (.int .i64 nx)∧W.cell? ⟨w.heap.size,3,none⟩=some (.slice s1 sn s3)∧W.cell? ⟨w.heap.size,4,none⟩=some (.slice u1 un u3)∧W.cell? ⟨w.heap.size,5,none⟩=some (.slice t1 tn t3)∧W.cell? ⟨w.heap.size,6,none⟩=some (.slice l1 ln l3)∧W.cell? ⟨w.heap.size+1,0,none⟩=some (.string ⟨p.toArray⟩)):=fun W h=>by
    have h2:=HW3.out.trans (h.mono HW3.out.size)
    have k1:=hKt.out W h2
    have k2:=hKp.out W h2
    exact ⟨k1.cell 0,k1.cell 1,k1.cell 2,k1.cell 3,k1.cell 4,k1.cell 5,k1.cell 6,k2.cell 0⟩
   go_wp2_with fail
   by_cases hpe:p=[]
   ·have hpe1:List.isEmpty p=true:=by rw [hpe];rfl
    have HX:=Lib.hid (HV.out.trans (if_pos (.inl hpe)))
    clear HV hpe
    refine wp_region_good2 tZ2 tZ2 [(fun v _=>v=.string ⟨p.toArray⟩),
     (fun v _=>v=.bool true),
     (fun v _=>v=.bool true),
     (fun v _=>v=undef),
     (fun v _=>v=undef),
     (fun v _=>v=undef),
     (fun v _=>v=undef),
     (fun v _=>v=undef),
     (fun v _=>v=undef),
     (fun v _=>v=undef),
     (fun v _=>v=undef),
     (fun v _=>v=undef),
     (fun v _=>v=undef),
     (fun v _=>v=.bool true),
     (fun v _=>v=.bool true),
     (fun v _=>v=undef),
     (fun v _=>v=.bool true),
     (fun v _=>v=.bool true)] ?_ ?_ ?_
    ·exact mZ181
    ·intro i oo ho m2 W hb0 hmi hcl hdeps AA KK hA hK
     rcases i with _ | _ | _ | _ | _ | _ | _ | _ | _ | _ | _ | _ | _ | _ | _ | _ | _ | _ | i
     ·exact mZ180
     ·exact mZ179
     ·exact mZ178
     ·exact mZ185
     ·exact mZ184
     ·injection ho with ho;subst ho
      have e2:=eD hdeps hA 2 28
      have e3:=eD hdeps hA 3 29
      have e4:=eD hdeps hA 4 30
      exact mZ183
     ·injection ho with ho;subst ho
      have e2:=eD hdeps hA 2 28
      have e5:=eD hdeps hA 5 31
      exact mZ183
     ·exact mZ185
     ·exact mZ184
     ·injection ho with ho;subst ho
      have e2:=eD hdeps hA 2 28
      have e7:=eD hdeps hA 7 33
      have e8:=eD hdeps hA 8 34
      exact mZ183
     ·injection ho with ho;subst ho
      have e2:=eD hdeps hA 2 28
      have e9:=eD hdeps hA 9 35
      exact mZ183
     ·injection ho with ho;subst ho
      have e2:=eD hdeps hA 2 28
      have e6:=eD hdeps hA 6 32
      have e10:=eD hdeps hA 10 36
      exact mZ183
     ·injection ho with ho;subst ho
      have e2:=eD hdeps hA 2 28
      have e11:=eD hdeps hA 11 37
      exact mZ183
     ·exact mZ168
     ·injection ho with ho;subst ho
      have e13:=eD hdeps hA 13 39
      exact zP
     ·injection ho with ho;subst ho
      have e14:=eD hdeps hA 14 40
      have ef8:AA.tmps[8]?.getD undef=.bool sB:=tF hA
      clear hA hdeps hcl hmi
      rw [if_neg (unwanted_of (b:=false) (k:=40) rfl rfl (.inl e14))]
      exact hK undef _ (Below.refl _ _) (Eq.refl _)
     ·injection ho with ho;subst ho
      have e14:=eD hdeps hA 14 40
      have e15:=eD hdeps hA 15 41
      exact zP
     ·injection ho with ho;subst ho
      have e16:=eD hdeps hA 16 42
      exact zP
     ·simp at ho
    ·intro m W hbx hall
     have m0:=dV (hall 0 tZ3)
     have m1:=dV (hall 1 tZ3)
     have m2:=dV (hall 2 tZ3)
     have m3:=dV (hall 3 tZ3)
     have m4:=dV (hall 4 tZ3)
     have m5:=dV (hall 5 tZ3)
     have m6:=dV (hall 6 tZ3)
     have m7:=dV (hall 7 tZ3)
     have m8:=dV (hall 8 tZ3)
     have m9:=dV (hall 9 tZ3)
     have m10:=dV (hall 10 tZ3)
     have m11:=dV (hall 11 tZ3)
     have m12:=dV (hall 12 tZ3)
     have m13:=dV (hall 13 tZ3)
     have m14:=dV (hall 14 tZ3)
     have m15:=dV (hall 15 tZ3)
     have m16:=dV (hall 16 tZ3)
     have m17:=dV (hall 17 tZ3)
     rw [frameM_all tZ2 [.string ⟨p.toArray⟩,.bool true,.bool true,undef,undef,undef,undef,undef,undef,undef,undef,undef,undef,.bool true,.bool true,undef,.bool true,.bool true] rfl (fun i hi=>by rcases i with _ | _ | _ | _ | _ | _ | _ | _ | _ | _ | _ | _ | _ | _ | _ | _ | _ | _ | i <;> first | assumption | (simp at hi;omega))]
     exact mZ182
   ·have hpe1:List.isEmpty p=false:=by simpa using hpe
    by_cases hkc:0<kN+cN
    ·have hsu:(0:Int)<sU:=by have:=HSU.out;omega
     have HX:=Lib.hid (HV.out.trans (if_pos (.inr (.inl hkc))))
     clear HV hpe hkc
     refine wp_region_good2 tZ2 tZ2 [(fun v _=>v=.string ⟨p.toArray⟩),
      (fun v _=>v=.bool false),
      (fun v _=>v=.bool false),
      (fun v _=>v=TV),
      (fun v _=>v=.string ⟨p.toArray⟩),
      (fun v _=>∃ A c,v=.slice A kN c),
      (fun v _=>v=.int .i64 (kN:Int)),
      (fun v _=>v=TV),
      (fun v _=>v=.string ⟨p.toArray⟩),
      (fun v _=>∃ A c,v=.slice A cN c),
      (fun v _=>v=.int .i64 (cN:Int)),
      (fun v _=>v=.int .i64 sU),
      (fun v _=>v=.bool true),
      (fun v _=>v=.bool true),
      (fun v _=>v=.bool true),
      (fun v _=>v=undef),
      (fun v _=>v=.bool true),
      (fun v _=>v=.bool true)] ?_ ?_ ?_
     ·exact mZ181
     ·intro i oo ho m2 W hb0 hmi hcl hdeps AA KK hA hK
      rcases i with _ | _ | _ | _ | _ | _ | _ | _ | _ | _ | _ | _ | _ | _ | _ | _ | _ | _ | i
      ·exact mZ180
      ·exact mZ179
      ·exact mZ178
      ·exact mZ177
      ·exact mZ176
      ·exact mZ175
      ·exact mZ174
      ·exact mZ173
      ·exact mZ172
      ·exact mZ171
      ·exact mZ170
      ·exact mZ169
      ·injection ho with ho;subst ho
       have e2:=eD hdeps hA 2 28
       have e11:=eD hdeps hA 11 37
       clear hA hdeps hcl hmi
       rw [if_pos (wanted_of (k:=28) rfl rfl e2)]
       have hK0:KK (AA.put (some 38) _) _:=hK (.bool true) _ (Below.refl _ _) (Eq.refl _)
       exact mZ84
      ·exact mZ168
      ·injection ho with ho;subst ho
       have e13:=eD hdeps hA 13 39
       exact zP
      ·injection ho with ho;subst ho
       have e14:=eD hdeps hA 14 40
       have ef8:AA.tmps[8]?.getD undef=.bool sB:=tF hA
       clear hA hdeps hcl hmi
       rw [if_neg (unwanted_of (b:=false) (k:=40) rfl rfl (.inl e14))]
       exact hK undef _ (Below.refl _ _) (Eq.refl _)
      ·injection ho with ho;subst ho
       have e14:=eD hdeps hA 14 40
       have e15:=eD hdeps hA 15 41
       exact zP
      ·injection ho with ho;subst ho
       have e16:=eD hdeps hA 16 42
       exact zP
      ·simp at ho
     ·intro m W hbx hall
      have m0:=dV (hall 0 tZ3)
      have m1:=dV (hall 1 tZ3)
      have m2:=dV (hall 2 tZ3)
      have m3:=dV (hall 3 tZ3)
      have m4:=dV (hall 4 tZ3)
      obtain ⟨x5,m5,g5⟩:=hall 5 tZ3
      replace g5:∃ A c,x5=.slice A kN c:=g5
      have m6:=dV (hall 6 tZ3)
      have m7:=dV (hall 7 tZ3)
      have m8:=dV (hall 8 tZ3)
      obtain ⟨x9,m9,g9⟩:=hall 9 tZ3
      replace g9:∃ A c,x9=.slice A cN c:=g9
      have m10:=dV (hall 10 tZ3)
      have m11:=dV (hall 11 tZ3)
      have m12:=dV (hall 12 tZ3)
      have m13:=dV (hall 13 tZ3)
      have m14:=dV (hall 14 tZ3)
      have m15:=dV (hall 15 tZ3)
      have m16:=dV (hall 16 tZ3)
      have m17:=dV (hall 17 tZ3)
      rw [frameM_all tZ2 [.string ⟨p.toArray⟩,.bool false,.bool false,TV,.string ⟨p.toArray⟩,x5,.int .i64 (kN:Int),TV,.string ⟨p.toArray⟩,x9,.int .i64 (cN:Int),.int .i64 sU,.bool true,.bool true,.bool true,undef,.bool true,.bool true] rfl (fun i hi=>by rcases i with _ | _ | _ | _ | _ | _ | _ | _ | _ | _ | _ | _ | _ | _ | _ | _ | _ | _ | i <;> first | assumption | (simp at hi;omega))]
      exact mZ182
    ·have hsu:¬ (0:Int)<sU:=by have:=HSU.out;omega
     refine wp_region_good2 tZ2 tZ2 [(fun v _=>v=.string ⟨p.toArray⟩),
      (fun v _=>v=.bool false),
      (fun v _=>v=.bool false),
      (fun v _=>v=TV),
      (fun v _=>v=.string ⟨p.toArray⟩),
      (fun v _=>∃ A c,v=.slice A kN c),
      (fun v _=>v=.int .i64 (kN:Int)),
      (fun v _=>v=TV),
      (fun v _=>v=.string ⟨p.toArray⟩),
      (fun v _=>∃ A c,v=.slice A cN c),
      (fun v _=>v=.int .i64 (cN:Int)),
      (fun v _=>v=.int .i64 sU),
      (fun v _=>v=.bool false),
      (fun v _=>v=.bool false),
      (fun v _=>v=.bool false),
      (fun v _=>v=.bool sB),
      (fun v _=>v=.bool sB),
      (fun v _=>v=.bool sB)] ?_ ?_ ?_
     ·exact mZ181
     ·intro i oo ho m2 W hb0 hmi hcl hdeps AA KK hA hK
      rcases i with _ | _ | _ | _ | _ | _ | _ | _ | _ | _ | _ | _ | _ | _ | _ | _ | _ | _ | i
      ·exact mZ180
      ·exact mZ179
      ·exact mZ178
      ·exact mZ177
      ·exact mZ176
      ·exact mZ175
      ·exact mZ174
      ·exact mZ173
      ·exact mZ172
      ·exact mZ171
      ·exact mZ170
      ·exact mZ169
      ·injection ho with ho;subst ho
       have e2:=eD hdeps hA 2 28
       have e11:=eD hdeps hA 11 37
       clear hA hdeps hcl hmi
       rw [if_pos (wanted_of (k:=28) rfl rfl e2)]
       have hK0:KK (AA.put (some 38) _) _:=hK (.bool false) _ (Below.refl _ _) (Eq.refl _)
       exact mZ84
      ·exact mZ168
      ·injection ho with ho;subst ho
       have e13:=eD hdeps hA 13 39
       exact zP
      ·injection ho with ho;subst ho
       have e14:=eD hdeps hA 14 40
       have ef8:AA.tmps[8]?.getD undef=.bool sB:=tF hA
       clear hA hdeps hcl hmi
       rw [if_pos (wanted_of (k:=40) rfl rfl e14)]
       have hK0:KK (AA.put (some 41) _) _:=hK (.bool sB) _ (Below.refl _ _) (Eq.refl _)
       exact mZ84
      ·injection ho with ho;subst ho
       have e14:=eD hdeps hA 14 40
       have e15:=eD hdeps hA 15 41
       exact zP
      ·injection ho with ho;subst ho
       have e16:=eD hdeps hA 16 42
       exact zP
      ·simp at ho
     ·intro m W hbx hall
      have m0:=dV (hall 0 tZ3)
      have m1:=dV (hall 1 tZ3)
      have m2:=dV (hall 2 tZ3)
      have m3:=dV (hall 3 tZ3)
      have m4:=dV (hall 4 tZ3)
      obtain ⟨x5,m5,g5⟩:=hall 5 tZ3
      replace g5:∃ A c,x5=.slice A kN c:=g5
      have m6:=dV (hall 6 tZ3)
      have m7:=dV (hall 7 tZ3)
      have m8:=dV (hall 8 tZ3)
      obtain ⟨x9,m9,g9⟩:=hall 9 tZ3
      replace g9:∃ A c,x9=.slice A cN c:=g9
      have m10:=dV (hall 10 tZ3)
      have m11:=dV (hall 11 tZ3)
      have m12:=dV (hall 12 tZ3)
      have m13:=dV (hall 13 tZ3)
      have m14:=dV (hall 14 tZ3)
      have m15:=dV (hall 15 tZ3)
      have m16:=dV (hall 16 tZ3)
      have m17:=dV (hall 17 tZ3)
      rw [frameM_all tZ2 [.string ⟨p.toArray⟩,.bool false,.bool false,TV,.string ⟨p.toArray⟩,x5,.int .i64 (kN:Int),TV,.string ⟨p.toArray⟩,x9,.int .i64 (cN:Int),.int .i64 sU,.bool false,.bool false,.bool false,.bool sB,.bool sB,.bool sB] rfl (fun i hi=>by rcases i with _ | _ | _ | _ | _ | _ | _ | _ | _ | _ | _ | _ | _ | _ | _ | _ | _ | _ | i <;> first | assumption | (simp at hi;omega))]
      clear hall m0 m1 m2 m3 m4 m5 m6 m7 m8 m9 m10 m11 m12 m13 m14 m15 m16 m17
      simp only [putAll,Act.put,List.setIfInBounds_toArray,zC,zB]
      have HW4:=Lib.hid (HW3.out.trans (hbx.mono HW3.out.size))
      obtain ⟨w4,hw4⟩:∃ w4,w4=W:=⟨_,rfl⟩
      subst hw4
      clear hbx hS
      cases sB with
      | true =>
       have HX:=Lib.hid (HV.out.trans (if_pos (.inr (.inr rfl))))
       clear HV hpe hkc
       exact mZ166
      | false =>
       have hN:¬ (p=[]∨0<kN+cN∨false=true):=by simp [hpe];omega
       have HX0:=Lib.hid (HV.out.trans (if_neg hN))
       clear HV
       have hFD:∃ k:Nat,F0=(k:Int):=by
        rcases hfk2 with h | h
        ·omega
        ·exact h
       obtain ⟨k,rfl⟩:=hFD
       obtain ⟨hkl,hheld⟩:=HFK.out k rfl
       have hrk:=(hrw.out w4 HW4.out).1
       have hks:k<sn:=tZ140
       have hki:(k:Int)<(sn:Int):=tZ1
       have hk0:(0:Int)≤(k:Int):=tZ1
       obtain ⟨ad,hsa,-,q0,q1,q2,q3,q4⟩:=set_at hrk.sets.2.2 hSN.out hks
       simp only at hsa
       have hx:=hrk.eachS _ (List.getElem_mem hkl)
       have hzx:=HZ.out.eachS _ (List.getElem_mem hkl)
       obtain ⟨x,hxx⟩:∃ x,x=sl[k]'hkl:=⟨_,rfl⟩
       simp only [← hxx] at q0 q1 q2 q3 q4 hx hzx hheld
       have hH:=Lib.hid (shHeld_any x w4 B hx.snaps.2.2 hx.snaps.1 (hrw.out w4 HW4.out).2.1 (by have:=hzx.snaps;omega))
       have HHE:=Lib.hid hheld
       obtain ⟨hb0,hhb0⟩:∃ b,b=x.snaps.l.any fun y=>decide (0<y.tags.n):=⟨_,rfl⟩
       rw [← hhb0] at hH HHE
       obtain ⟨pa,og,⟨bA,bnn,bc,bl⟩,⟨zA,zn,zc,zl⟩,⟨oA,on,oc,ol⟩⟩:=x
       simp only at q0 q1 q2 q3 q4 hH
       have hHc:=hH.out
       subst hsa
       clear hx hzx hxx hheld hhb0 hfk2 hrk hH
       have hc:=hHc
       have kk:=hKt.out w4 HW4.out
       obtain ⟨c0,c1,c2,c3,c4,c5,c6⟩:=(⟨kk.cell 0,kk.cell 1,kk.cell 2,kk.cell 3,kk.cell 4,kk.cell 5,kk.cell 6⟩:_∧_∧_∧_∧_∧_∧_)
       simp only [zF,zD,zE] at c0 c1 c2 c3 c4 c5 c6
       clear kk
       go_wp2_with fail
       refine hc.mono ?_
       clear hc hHc q0 q1 q2 q3 q4 c0 c1 c2 c3 c4 c5 c6
       rintro e w5 ⟨rfl,hb⟩
       have HW5:=Lib.hid (HW4.out.trans (hb.mono HW4.out.size))
       clear hb
       have hkt:((k:Int)).toNat=k:=tZ1
       cases hb0 with
       | true =>
        have HX:=Lib.hid (HX0.out.trans (if_pos (by rw [hkt];exact HHE.out)))
        clear HX0 hkt
        have KZ:=Lib.hid (hKz.out w5 HW5.out)
        have HB:=Lib.hid (hBW.out w5 HW5.out)
        obtain ⟨WR,hW4,hth,HL,HBW,hgw⟩:=res7 (g:=(w.heap.size+2)) [.string ⟨#[]⟩,.int .i64 0,.int .i64 0,.slice none 0 0,.slice none 0 0,.slice none 0 0,.slice none 0 0] KZ.out HB.out tZ1
        clear hgw
        go_wp2_with (refine wpList_store_mid rfl 27 (.tmp 4) (.tmp 51) rfl ((w.heap.size+2)) 0 #[.string ⟨#[]⟩,.int .i64 0,.int .i64 0,.slice none 0 0,.slice none 0 0,.slice none 0 0,.slice none 0 0] rfl rfl hth.out tZ2 tZ5 ?_;rw [← hW4];clear hW4)
        exact mZ167
       | false =>
        have HX:=Lib.hid (HX0.out.trans (if_neg (by rw [hkt,HHE.out];decide)))
        rw [hkt] at HX
        clear HX0 hkt
        have hc:=hCP.out w5 HW5.out
        have kk:=hKt.out w5 HW5.out
        obtain ⟨c0,c1,c2,c3,c4,c5,c6⟩:=(⟨kk.cell 0,kk.cell 1,kk.cell 2,kk.cell 3,kk.cell 4,kk.cell 5,kk.cell 6⟩:_∧_∧_∧_∧_∧_∧_)
        simp only [zF,zD,zE] at c0 c1 c2 c3 c4 c5 c6
        clear kk
        clear hCP
        go_wp2_with fail
        refine hc.mono ?_
        clear hc c0 c1 c2 c3 c4 c5 c6
        rintro e w6 ⟨y,rfl,ho6,he6,hb6⟩
        have HW6:=Lib.hid (HW5.out.trans (hb6.mono HW5.out.size))
        have HCON:=Lib.hid ((TenR.eqv_iff _ _).1 he6)
        have hlen:y.sets.n=sn:=by
         have h1:=he6.lenS
         have h2:=ho6.sets.1
         have:=hSN.out
         simp only at h1
         omega
        have hszs:sn≤1000000000000:=HZ.out.sets
        obtain ⟨mm,mq,mx,⟨m1,m2,m3,ml⟩,⟨n1,n2,n3,nl⟩,⟨p1,p2,p3,pl⟩,⟨q1,q2,q3,ql⟩⟩:=y
        replace hlen:m2=sn:=hlen
        simp only [TenR.val,TenR.cells,FS.val,strV]
        have hsz3:=hSZ.out w5 HW5.out
        have hsz6:=hSZ.out w6 HW6.out
        have hset:∀ g,(FS.val (⟨m1,m2,m3,ml⟩:FS SetR)).ownBlock=some g→w.heap.size+3≤g∧g<w6.heap.size:=fun g e=>by
         have:=ho6.sets.2.lt _ e
         omega
        have HSET:=Lib.hid hset
        have ho7:=ho6.below ((Below.refl w6.heap.size w6).alloc (Nat.le_refl _) (.cells #[.string ⟨mm.toArray⟩,.int .i64 mq,.int .i64 mx,.slice m1 m2 m3,.slice n1 n2 n3,.slice p1 p2 p3,.slice q1 q2 q3] 27))
        have k7:=Blk.new w6 27 #[.string ⟨mm.toArray⟩,.int .i64 mq,.int .i64 mx,.slice m1 m2 m3,.slice n1 n2 n3,.slice p1 p2 p3,.slice q1 q2 q3]
        have kz7:=(hKz.out w6 HW6.out).alloc (.cells #[.string ⟨mm.toArray⟩,.int .i64 mq,.int .i64 mx,.slice m1 m2 m3,.slice n1 n2 n3,.slice p1 p2 p3,.slice q1 q2 q3] 27)
        have hbw7:=(hBW.out w6 HW6.out).alloc tZ1 (.cells #[.string ⟨mm.toArray⟩,.int .i64 mq,.int .i64 mx,.slice m1 m2 m3,.slice n1 n2 n3,.slice p1 p2 p3,.slice q1 q2 q3] 27)
        obtain ⟨g5,hg5⟩:∃ g,g=w6.heap.size:=⟨_,rfl⟩
        have HG5:=Lib.hid (show g5=w6.heap.size∧w.heap.size+3≤g5∧w.heap.size+3≤w5.heap.size by omega)
        obtain ⟨k1,hk1⟩:∃ k1:Int,k1=(k:Int)+1:=⟨_,rfl⟩
        have hwk:IntKind.i64.wrap ((k:Int)+1)=k1:=tZ21
        have HKM:=Lib.hid (show k<m2∧m2≤1000000000000 by omega)
        clear hset hsz3 hsz6 he6 hb6 hlen hszs HFK
        obtain ⟨W7,hW7⟩:∃ W,W=w6.alloc (.cells #[.string ⟨mm.toArray⟩,.int .i64 mq,.int .i64 mx,.slice m1 m2 m3,.slice n1 n2 n3,.slice p1 p2 p3,.slice q1 q2 q3] 27):=⟨_,rfl⟩
        rw [← hW7] at ho7 k7 kz7 hbw7
        rw [← hg5] at k7
        have HO7:=Lib.hid ho7
        have K7:=Lib.hid k7
        have KZ7:=Lib.hid kz7
        have HB7:=Lib.hid hbw7
        have d3:=k7.cell 3
        simp only [zF,zD,zE] at d3
        have hcS:=Lib.hid (delSet_any (cellsK encSet ml) (cells_one encSet_one ml) m2 k m3 w5.heap.size m1 W7 HKM.out.1 (by have:=HKM.out.2;omega) ho7.sets.2)
        rw [← hk1] at hcS
        clear hk1 ho6 ho7 k7 kz7 hbw7 hrw hKD hCN hSG hPL hKt hKp hBW hSZ
        go_wp2_with (refine wpList_store_new w6 rfl 27 (.tmp 9) (.tmp 53) rfl 27 [.string ⟨#[]⟩,.int .i64 0,.int .i64 0,.slice none 0 0,.slice none 0 0,.slice none 0 0,.slice none 0 0] [.string ⟨mm.toArray⟩,.int .i64 mq,.int .i64 mx,.slice m1 m2 m3,.slice n1 n2 n3,.slice p1 p2 p3,.slice q1 q2 q3] rfl rfl rfl tZ2 tZ5 ?_;rw [show ([.string ⟨mm.toArray⟩,.int .i64 mq,.int .i64 mx,.slice m1 m2 m3,.slice n1 n2 n3,.slice p1 p2 p3,.slice q1 q2 q3]:List Value).toArray=#[.string ⟨mm.toArray⟩,.int .i64 mq,.int .i64 mx,.slice m1 m2 m3,.slice n1 n2 n3,.slice p1 p2 p3,.slice q1 q2 q3] from rfl,← hW7,← hg5];clear hW7 hg5)
        refine hcS.out.mono ?_
        clear hcS
        rintro e w8 ⟨v,rfl,hv8,hg8⟩
        obtain ⟨v1,v3,rfl,_⟩:=own_form hv8
        have hne5:some g5≠(Value.slice m1 m2 m3).ownBlock:=fun e=>by have:=(HSET.out g5 e.symm).2;have:=HG5.out;omega
        have hneZ:some (w.heap.size+2)≠(Value.slice m1 m2 m3).ownBlock:=fun e=>by have:=(HSET.out _ e.symm).1;omega
        have k8:Blk w8 g5 27 #[.string ⟨mm.toArray⟩,.int .i64 mq,.int .i64 mx,.slice m1 m2 m3,.slice n1 n2 n3,.slice p1 p2 p3,.slice q1 q2 q3]:=K7.out.grown hg8 hne5
        have kz8:=KZ7.out.grown hg8 hneZ
        have hb8:Below w.heap.size w w8:=HB7.out.grown hg8 HB7.out.size (fun k hk=>by have:=(HSET.out k hk).1;omega)
        have hyo:TenO w8 w5.heap.size ⟨mm,mq,mx,⟨v1,m2-1,v3,ml.take k++ml.drop (k+1)⟩,⟨n1,n2,n3,nl⟩,⟨p1,p2,p3,pl⟩,⟨q1,q2,q3,ql⟩⟩:=by
         have hms:m2=ml.length:=HO7.out.sets.1
         refine TenO.newSets HO7.out hg8 ⟨v1,m2-1,v3,ml.take k++ml.drop (k+1)⟩ ⟨?_,?_⟩ ?_
         ·have:=HKM.out.1
          simp only [List.length_append,List.length_take,List.length_drop]
          omega
         ·show World.ownsRow _ _ _ _ _ _ (cellsK encSet (ml.take k++ml.drop (k+1)))
          rw [cellsK_append,cellsK_take (enc:=encSet) (k:=5) (fun _=>rfl),cellsK_drop (enc:=encSet) (k:=5) (fun _=>rfl)]
          exact hv8
         ·intro z hz
          rcases List.mem_append.1 hz with hz | hz
          ·exact HO7.out.eachS z (List.mem_of_mem_take hz)
          ·exact HO7.out.eachS z (List.mem_of_mem_drop hz)
        have HYC:Hid (TenR.con ⟨mm,mq,mx,⟨v1,m2-1,v3,ml.take k++ml.drop (k+1)⟩,⟨n1,n2,n3,nl⟩,⟨p1,p2,p3,pl⟩,⟨q1,q2,q3,ql⟩⟩=C.dropS k):=by
         show _=_
         rw [hHC.out,HCON.out]
         exact con_dropS ⟨mm,mq,mx,⟨m1,m2,m3,ml⟩,⟨n1,n2,n3,nl⟩,⟨p1,p2,p3,pl⟩,⟨q1,q2,q3,ql⟩⟩ k v1 (m2-1) v3
        have hb9:=hb8.setCell (p:=⟨g5,3,none⟩) tZ141 (.slice v1 (m2-1) v3)
        have k9:=k8.set_ 3 (.slice v1 (m2-1) v3)
        have kz9:=kz8.far (p:=⟨g5,3,none⟩) tZ141 (.slice v1 (m2-1) v3)
        have hyo9:=(hyo.keptT (grown_box w8 g5 3 (.slice v1 (m2-1) v3)) k8 offT_ten).mono (base':=w.heap.size) (by have:=HG5.out;omega)
        simp only [List.setIfInBounds_toArray,zC,zB] at k9
        obtain ⟨W9,hW9⟩:∃ W,W=w8.setCell ⟨g5,3,none⟩ (.slice v1 (m2-1) v3):=⟨_,rfl⟩
        rw [← hW9] at hb9 k9 kz9 hyo9
        have HB9:=Lib.hid hb9
        have KZ9:=Lib.hid kz9
        have HYO9:=Lib.hid hyo9
        obtain ⟨d0,d1,d2,d3,d4,d5,d6⟩:=(⟨k9.cell 0,k9.cell 1,k9.cell 2,k9.cell 3,k9.cell 4,k9.cell 5,k9.cell 6⟩:_∧_∧_∧_∧_∧_∧_)
        simp only [zF,zD,zE] at d0 d1 d2 d3 d4 d5 d6
        have hth8:=k8.cell 3
        have hfz8:=k8.frozen 3
        simp only [zF,zD,zE] at hth8
        clear hb8 k8 kz8 hv8 hg8 hyo hb9 kz9 hyo9 hne5 hneZ K7 KZ7 HB7 HO7 HSET k9
        go_upto_region 11 with (fail)
        rw [← hW9]
        clear hW9 hth8 hfz8
        obtain ⟨WR,hW4,hth,HL,HBW,hgw⟩:=res7 (g:=(w.heap.size+2)) [.string ⟨mm.toArray⟩,.int .i64 mq,.int .i64 mx,.slice v1 (m2-1) v3,.slice n1 n2 n3,.slice p1 p2 p3,.slice q1 q2 q3] KZ9.out HB9.out tZ1
        have HOO:=Lib.hid (TenO.keptT HYO9.out hgw KZ9.out offT_ten)
        clear hgw
        go_wp2_with (refine wpList_store_mid rfl 27 (.tmp 4) (.tmp 61) rfl ((w.heap.size+2)) 0 #[.string ⟨mm.toArray⟩,.int .i64 mq,.int .i64 mx,.slice v1 (m2-1) v3,.slice n1 n2 n3,.slice p1 p2 p3,.slice q1 q2 q3] rfl rfl hth.out tZ2 tZ5 ?_;rw [← hW4];clear hW4)
        exact bodyPost_ret (v:=.tuple #[.agg #[.string ⟨mm.toArray⟩,.int .i64 mq,.int .i64 mx,.slice v1 (m2-1) v3,.slice n1 n2 n3,.slice p1 p2 p3,.slice q1 q2 q3],.int .i64 0]) (results_cell_tmp rfl rfl HL.out) rfl (tenPost_ok HX.out HBW.out ⟨mm,mq,mx,⟨v1,m2-1,v3,ml.take k++ml.drop (k+1)⟩,⟨n1,n2,n3,nl⟩,⟨p1,p2,p3,pl⟩,⟨q1,q2,q3,ql⟩⟩ HOO.out HYC.out)
 ·have HX:=Lib.hid (HV.out.trans (if_pos tZ4))
  have hpv:pv1=0∧pv2=9:=by have h:=HPV.out;rw [if_pos tZ4] at h;injection h with h1 h2;exact ⟨h1,h2⟩
  obtain ⟨rfl,rfl⟩:=hpv
  clear HV HPV
  have KZ:=Lib.hid (hKz.out w3 HW3.out)
  have HB:=Lib.hid (hBW.out w3 HW3.out)
  obtain ⟨WR,hW4,hth,HL,HBW,hgw⟩:=res7 (g:=(w.heap.size+2)) [.string ⟨#[]⟩,.int .i64 0,.int .i64 0,.slice none 0 0,.slice none 0 0,.slice none 0 0,.slice none 0 0] KZ.out HB.out tZ1
  clear hgw
  go_wp2_with (refine wpList_store_mid rfl 27 (.tmp 4) (.tmp 23) rfl ((w.heap.size+2)) 0 #[.string ⟨#[]⟩,.int .i64 0,.int .i64 0,.slice none 0 0,.slice none 0 0,.slice none 0 0,.slice none 0 0] rfl rfl hth.out tZ2 tZ5 ?_;rw [← hW4];clear hW4)
  exact mZ164
 ·have HX:=Lib.hid (HV.out.trans (if_pos tZ4))
  have hpv:pv1=0∧pv2=31:=by have h:=HPV.out;rw [if_pos tZ4] at h;injection h with h1 h2;exact ⟨h1,h2⟩
  obtain ⟨rfl,rfl⟩:=hpv
  clear HV HPV
  have KZ:=Lib.hid (hKz.out w3 HW3.out)
  have HB:=Lib.hid (hBW.out w3 HW3.out)
  obtain ⟨WR,hW4,hth,HL,HBW,hgw⟩:=res7 (g:=(w.heap.size+2)) [.string ⟨#[]⟩,.int .i64 0,.int .i64 0,.slice none 0 0,.slice none 0 0,.slice none 0 0,.slice none 0 0] KZ.out HB.out tZ1
  clear hgw
  go_wp2_with (refine wpList_store_mid rfl 27 (.tmp 4) (.tmp 23) rfl ((w.heap.size+2)) 0 #[.string ⟨#[]⟩,.int .i64 0,.int .i64 0,.slice none 0 0,.slice none 0 0,.slice none 0 0,.slice none 0 0] rfl rfl hth.out tZ2 tZ5 ?_;rw [← hW4];clear hW4)
  exact mZ163
end Go.Proofs.YtiojfffgiejibaaGreatDoor
