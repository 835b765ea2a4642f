/-
  prune.Old: which snapshots may go, by its contract (the closure that prune.old makes is called for each of them).
-/
import Derived.WalkKit
import Derived.WalkSpells
import Derived.Below
import Derived.Laws.OwnMore
import Derived.Deep.AppendLies
import Derived.Deep.Draws
import Derived.Laws.Rows
import Derived.Maps.AppendAt
import Derived.RegionTactic
import Derived.OwnWalk
import Derived.Deep.QuietTactic
import Derived.BigQuiet
import Derived.Lib.Hide
import Derived.Laws.CopyOwn
import Derived.IntWalk
import Derived.Test.YtcgclpcocdappaaGreatDoorRows
import Derived.Handy
import Derived.Deep.Quiet
import Derived.ProofKit
import Derived.OpenShut
import Derived.ShutString
import Derived.ChangeOld
import Derived.Carry
import Derived.SizedLaws
import Derived.JoinedCond
import Derived.Deep.CondSized
import Derived.Deep.Slices
import Derived.Deep.Fields
import Derived.Lib.SmallJoins
import Derived.Orders
import Derived.Test.YtcgclpcocdappaaGreatDoorCards
import Derived.Test.YtcgclpcocdappaaGreatDoorTie
import Derived.Deep.DeepHandedRow
import Derived.Lib.LaidTab
import Derived.Lib.SplitLaws
import Derived.Lib.LastIndexByte
import Derived.Lib.Strings
import Derived.ChangeSame
import Derived.Sort.Walk0
import Derived.Sort.KeysCollected
import Derived.Deep.MidRow
import Derived.Deep.RegionLaw
import Derived.Lib.AppendZeros
import Derived.Shelf.Strings.Search1
import Derived.Shelf.Strings.Search2
import Derived.Shelf.Strings.Search3
import Derived.Shelf.Strings.Cut
import Derived.Shelf.Strings.Count
import Derived.Shelf.LaysM
import Derived.Shelf.Strings.Shaped
import Derived.Shelf.Strings.LastIndex
import Derived.Shelf.Strings.Split
import Derived.Shelf.Strings.SplitShaped
import Derived.Shelf.Unicode.Decode
import Derived.Shelf.Strings.RuneCount
import Derived.Shelf.Strings.Explode
import Derived.Shelf.Unicode.DecodeSlow
import Derived.Test.YtcgclpcocdappaaGreatDoorProg
import Derived.Lib.Overlaps
import Derived.Lib.AppendZerosOnto
import Derived.Laws.BytesString
import Derived.Laws.IdiomStrings
import Derived.Lib.ConvBytes
import Derived.Deep.DeepCutAuto
import Derived.Great.BuildSlice
import Derived.Test.YtcgclpcocdappaaGreatDoorG0
import Derived.Test.YtcgclpcocdappaaGreatDoorGg1
import Derived.Test.YtcgclpcocdappaaGreatDoorGg2
import Derived.Test.YtcgclpcocdappaaGreatDoorGg5
import Derived.Test.YtcgclpcocdappaaGreatDoorGg7
import Derived.Test.YtcgclpcocdappaaGreatDoorGg8
import Derived.Test.YtcgclpcocdappaaGreatDoorGg9
import Derived.Test.YtcgclpcocdappaaGreatDoorGg12
import Derived.Test.YtcgclpcocdappaaGreatDoorGg13
import Derived.Test.YtcgclpcocdappaaGreatDoorGg19
import Derived.Test.YtcgclpcocdappaaGreatDoorGg20
import Derived.Test.YtcgclpcocdappaaGreatDoorGg21
import Derived.Test.YtcgclpcocdappaaGreatDoorGg22
import Derived.Test.YtcgclpcocdappaaGreatDoorGg25
import Derived.Test.YtcgclpcocdappaaGreatDoorGg27
import Derived.Test.YtcgclpcocdappaaGreatDoorGg29
import Derived.Test.YtcgclpcocdappaaGreatDoorGg30
import Derived.Test.YtcgclpcocdappaaGreatDoorGg31
namespace Go.Proofs.YtcgclpcocdappaaGreatDoor
open Go.RowKit
set_option maxRecDepth 100000 in
set_option maxHeartbeats 4000000 in
theorem isOld_any (t:TenR) (x:SetR) (late:Int) (pS pL pT i:Nat) (w:World) (B:Nat) (hB:B≤w.heap.size) (hr:t.rd w B) (hz:t.sz) (hx:x.rd w B) (hmx:HasMax w)
  (kS:Blk w pS 42 #[.string ⟨x.path.toArray⟩,.string ⟨x.org.toArray⟩,x.body.val,x.snaps.val,x.own.val]) (kL:Blk w pL 3 #[.int .i64 late]) (kT:Blk w pT 27 t.cells.toArray) (hi:i<x.snaps.l.length) :
  Calls Tryz.prog 140 #[.int .i64 (i:Int),.pointer (some ⟨pS,0,none⟩),.pointer (some ⟨pL,0,none⟩),.pointer (some ⟨pT,0,none⟩)] w fun e w'=>e=.returned (.bool (decide ((i:Int)<late) && t.con.free x.path (x.snaps.l[i]'hi).con))∧Below w.heap.size w w':=by
 obtain ⟨cN,hcN⟩:∃ k,k=(clonesL t.sets.l x.path (x.snaps.l[i]'hi).nm).length:=⟨_,rfl⟩
 have hF:t.con.free x.path (x.snaps.l[i]'hi).con=(decide ((x.snaps.l[i]'hi).con.tags.length=0) && decide (cN=0)):=by
  rw [hcN,clones_con]
  rfl
 have hin:i<x.snaps.n:=by rw [hx.snaps.1];exact hi
 have hti:=hx.each _ (List.getElem_mem hi)
 obtain ⟨az,hza,-,p0,p1,p2,p3,p4⟩:=snap_at hx.snaps.2.2 hx.snaps.1 hin
 obtain ⟨y,hy⟩:∃ y,y=x.snaps.l[i]'hi:=⟨_,rfl⟩
 rw [← hy] at hcN hF hti p0 p1 p2 p3 p4
 rw [← hy]
 have htn:y.con.tags.length=y.tags.n:=hti.tags.1.symm
 rw [htn] at hF
 obtain ⟨nm,qu,nx,⟨s1,sn,s3,sl⟩,⟨gA,gN,gC,gL⟩,⟨t1,tn,t3,tl⟩,⟨l1,ln,l3,ll⟩⟩:=t
 obtain ⟨xp,xo,⟨bA,bn,bc,bl⟩,⟨zA,zn,zc,zl⟩,⟨oA,on,oc,ol⟩⟩:=x
 obtain ⟨yn,yg,⟨d1,d2,d3,dl⟩,⟨e1,en,e3,el⟩,⟨f1,f2,f3,fl⟩⟩:=y
 simp only at hza p0 p1 p2 p3 p4 hin hcN
 subst hza
 have kT:Blk w pT 27 #[.string ⟨nm.toArray⟩,.int .i64 qu,.int .i64 nx,.slice s1 sn s3,.slice gA gN gC,.slice t1 tn t3,.slice l1 ln l3]:=kT
 have kS:Blk w pS 42 #[.string ⟨xp.toArray⟩,.string ⟨xo.toArray⟩,.slice bA bn bc,.slice (some az) zn zc,.slice oA on oc]:=kS
 have hii:(i:Int)<(zn:Int):=by omega
 have hi0:(0:Int)≤(i:Int):=by omega
 have hb1:=(Below.refl w.heap.size w).alloc (Nat.le_refl _) (.cells #[.string ⟨yn.toArray⟩,.int .i64 yg,.slice d1 d2 d3,.slice e1 en e3,.slice f1 f2 f3] 57)
 have ky:=Blk.new w 57 #[.string ⟨yn.toArray⟩,.int .i64 yg,.slice d1 d2 d3,.slice e1 en e3,.slice f1 f2 f3]
 have kS1:=kS.alloc (.cells #[.string ⟨yn.toArray⟩,.int .i64 yg,.slice d1 d2 d3,.slice e1 en e3,.slice f1 f2 f3] 57)
 have kL1:=kL.alloc (.cells #[.string ⟨yn.toArray⟩,.int .i64 yg,.slice d1 d2 d3,.slice e1 en e3,.slice f1 f2 f3] 57)
 have kT1:=kT.alloc (.cells #[.string ⟨yn.toArray⟩,.int .i64 yg,.slice d1 d2 d3,.slice e1 en e3,.slice f1 f2 f3] 57)
 have hs3:=kS.cell 3
 have hy0:=ky.cell 0
 have hy3:=ky.cell 3
 have hx0:=kS1.cell 0
 have hl0:=kL1.cell 0
 obtain ⟨c0,c1,c2,c3,c4,c5,c6⟩:=(⟨kT1.cell 0,kT1.cell 1,kT1.cell 2,kT1.cell 3,kT1.cell 4,kT1.cell 5,kT1.cell 6⟩:_∧_∧_∧_∧_∧_∧_)
 simp only [zF,zD,zE] at c0 c1 c2 c3 c4 c5 c6
 simp only [zF,zD,zE] at hs3 hy0 hy3 hx0 hl0
 obtain ⟨W1,hW1⟩:∃ W,W=w.alloc (.cells #[.string ⟨yn.toArray⟩,.int .i64 yg,.slice d1 d2 d3,.slice e1 en e3,.slice f1 f2 f3] 57):=⟨_,rfl⟩
 have hsz1:W1.heap.size=w.heap.size+1:=by rw [hW1];simp
 have hb1':=hb1
 rw [← hW1] at hb1
 have hCN:Hid (Calls Tryz.prog 70 #[.agg #[.string ⟨nm.toArray⟩,.int .i64 qu,.int .i64 nx,.slice s1 sn s3,.slice gA gN gC,.slice t1 tn t3,.slice l1 ln l3],.string ⟨xp.toArray⟩,.string ⟨yn.toArray⟩] W1 fun e w'=>(∃ A1 c1,e=.returned (.slice A1 cN c1))∧Below W1.heap.size W1 w'):=by
  show Calls _ _ _ _ _
  rw [hcN]
  exact (clones_any _ _ _ _ _ _ sl sn hr.sets.1 s1 s3 xp yn W1 B (TenR.rd.below hr (hb1.mono hB)).sets.2.2 (by omega) (by have:=hz.sets;simp only at this;omega) (fun y hy=>(hz.eachS y hy).org) (hmx.below hb1)).mono (by rintro e w' ⟨A1,c1,rfl,-,hb⟩;exact ⟨⟨A1,c1,rfl⟩,hb⟩)
 have HF:=Lib.hid hF
 have HB1:=Lib.hid hb1
 have HS1:=Lib.hid hsz1
 clear hF hy hti htn hx hr hz hmx hcN kS kL kT ky kS1 kL1 kT1 hb1 hb1' hsz1 hi hin
 by_cases hl:(i:Int)<late
 ·have HL:Hid (decide ((i:Int)<late)=true):=decide_eq_true hl
  by_cases ht:en=0
  ·have htb:((en:Int) == 0)=true:=by simpa using ht
   have HT:Hid (decide (en=0)=true):=decide_eq_true ht
   have HC:Hid (decide (cN=0)=((cN:Int) == 0)):=by
    show _=_
    by_cases h:cN=0
    ·rw [h];rfl
    ·rw [decide_eq_false h]
     symm
     simpa using h
   clear ht
   go_enter Tryz.func140,Tryz.ntmps140
   go_wp2_with fail
   rw [← hW1]
   clear hW1
   refine hCN.out.mono ?_
   clear hCN
   rintro e w2 ⟨⟨A1,c1,rfl⟩,hb2⟩
   have HB2:=Lib.hid (HB1.out.trans (hb2.mono (by have:=HS1.out;omega)))
   clear hb2
   go_wp2_with fail
   go_ret
   exact ⟨by rw [HF.out,HL.out,HT.out,HC.out];rfl,HB2.out⟩
  ·have htb:((en:Int) == 0)=false:=by simpa using ht
   have HT:Hid (decide (en=0)=false):=decide_eq_false ht
   clear ht hCN
   go_enter Tryz.func140,Tryz.ntmps140
   go_wp2_with fail
   rw [← hW1]
   go_ret
   exact ⟨by rw [HF.out,HT.out];first | rfl | (rw [HL.out];rfl),HB1.out⟩
 ·have HL:Hid (decide ((i:Int)<late)=false):=decide_eq_false hl
  clear hCN
  go_enter Tryz.func140,Tryz.ntmps140
  go_wp2_with fail
  rw [← hW1]
  go_ret
  exact ⟨by rw [HL.out];rfl,HB1.out⟩
set_option maxRecDepth 100000 in
set_option maxHeartbeats 4000000 in
theorem mkOld_any (t:TenR) (x:SetR) (keep:Int) (w:World) (hn:x.snaps.n≤1000000000000) :
  Calls Tryz.prog 77 #[t.val,.agg #[.string ⟨x.path.toArray⟩,.string ⟨x.org.toArray⟩,x.body.val,x.snaps.val,x.own.val],.int .i64 keep] w fun e w'=>∃ pS pL pT,e=.returned (.func (.func 140) #[] #[.pointer (some ⟨pS,0,none⟩),.pointer (some ⟨pL,0,none⟩),.pointer (some ⟨pT,0,none⟩)]) ∧
   Blk w' pS 42 #[.string ⟨x.path.toArray⟩,.string ⟨x.org.toArray⟩,x.body.val,x.snaps.val,x.own.val]∧Blk w' pL 3 #[.int .i64 (lateN keep x.snaps.n:Nat)]∧Blk w' pT 27 t.cells.toArray∧Below w.heap.size w w':=by
 obtain ⟨nm,qu,nx,⟨s1,sn,s3,sl⟩,⟨gA,gN,gC,gL⟩,⟨t1,tn,t3,tl⟩,⟨l1,ln,l3,ll⟩⟩:=t
 obtain ⟨xp,xo,⟨bA,bn,bc,bl⟩,⟨zA,zn,zc,zl⟩,⟨oA,on,oc,ol⟩⟩:=x
 show Calls Tryz.prog 77 #[.agg #[.string ⟨nm.toArray⟩,.int .i64 qu,.int .i64 nx,.slice s1 sn s3,.slice gA gN gC,.slice t1 tn t3,.slice l1 ln l3],.agg #[.string ⟨xp.toArray⟩,.string ⟨xo.toArray⟩,.slice bA bn bc,.slice zA zn zc,.slice oA on oc],.int .i64 keep] w _
 obtain ⟨late,hlate⟩:∃ k,k=lateN keep zn:=⟨_,rfl⟩
 simp only at hn
 have hb:=(((Below.refl w.heap.size w).alloc (Nat.le_refl _) (.cells #[.string ⟨nm.toArray⟩,.int .i64 qu,.int .i64 nx,.slice s1 sn s3,.slice gA gN gC,.slice t1 tn t3,.slice l1 ln l3] 27)).alloc (by simp) (.cells #[.string ⟨xp.toArray⟩,.string ⟨xo.toArray⟩,.slice bA bn bc,.slice zA zn zc,.slice oA on oc] 42))
 have kt:=Blk.new w 27 #[.string ⟨nm.toArray⟩,.int .i64 qu,.int .i64 nx,.slice s1 sn s3,.slice gA gN gC,.slice t1 tn t3,.slice l1 ln l3]
 replace kt:=kt.alloc (.cells #[.string ⟨xp.toArray⟩,.string ⟨xo.toArray⟩,.slice bA bn bc,.slice zA zn zc,.slice oA on oc] 42)
 have kx:=Blk.new (w.alloc (.cells #[.string ⟨nm.toArray⟩,.int .i64 qu,.int .i64 nx,.slice s1 sn s3,.slice gA gN gC,.slice t1 tn t3,.slice l1 ln l3] 27)) 42 #[.string ⟨xp.toArray⟩,.string ⟨xo.toArray⟩,.slice bA bn bc,.slice zA zn zc,.slice oA on oc]
 rw [show (w.alloc (.cells #[.string ⟨nm.toArray⟩,.int .i64 qu,.int .i64 nx,.slice s1 sn s3,.slice gA gN gC,.slice t1 tn t3,.slice l1 ln l3] 27)).heap.size=w.heap.size+1 by simp] at kx
 have hsz:((w.alloc (.cells #[.string ⟨nm.toArray⟩,.int .i64 qu,.int .i64 nx,.slice s1 sn s3,.slice gA gN gC,.slice t1 tn t3,.slice l1 ln l3] 27)).alloc (.cells #[.string ⟨xp.toArray⟩,.string ⟨xo.toArray⟩,.slice bA bn bc,.slice zA zn zc,.slice oA on oc] 42)).heap.size=w.heap.size+2:=by simp
 obtain ⟨W1,hW1⟩:∃ W,W=((w.alloc (.cells #[.string ⟨nm.toArray⟩,.int .i64 qu,.int .i64 nx,.slice s1 sn s3,.slice gA gN gC,.slice t1 tn t3,.slice l1 ln l3] 27)).alloc (.cells #[.string ⟨xp.toArray⟩,.string ⟨xo.toArray⟩,.slice bA bn bc,.slice zA zn zc,.slice oA on oc] 42)):=⟨_,rfl⟩
 rw [← hW1] at hb hsz kt kx
 have hKt:Hid (∀ W,Below W1.heap.size W1 W→Blk W w.heap.size 27 #[.string ⟨nm.toArray⟩,.int .i64 qu,.int .i64 nx,.slice s1 sn s3,.slice gA gN gC,.slice t1 tn t3,.slice l1 ln l3]):=fun W h=>kt.below h (by omega)
 have hKx:Hid (∀ W,Below W1.heap.size W1 W→Blk W (w.heap.size+1) 42 #[.string ⟨xp.toArray⟩,.string ⟨xo.toArray⟩,.slice bA bn bc,.slice zA zn zc,.slice oA on oc]):=fun W h=>kx.below h (by omega)
 have hBW:Hid (∀ W,Below W1.heap.size W1 W→Below w.heap.size w W):=fun W h=>hb.trans (h.mono (by omega))
 have hSZ:Hid (∀ W,Below W1.heap.size W1 W→w.heap.size+2≤W.heap.size):=fun W h=>by have:=h.size;omega
 have hW0:Hid (Below W1.heap.size W1 W1):=Below.refl _ _
 have c3:=(hKx.out W1 (Below.refl _ _)).cell 3
 simp only [zF,zD,zE] at c3
 have hlw:(late:Int)=(zn:Int)-min (max keep 0) (zn:Int):=by
  rw [hlate]
  unfold lateN
  omega
 go_enter Tryz.func77,Tryz.ntmps77
 go_wp2_with fail
 rw [← hW1]
 clear hW1
 go_ret
 rw [← hlw]
 have kL:=Blk.new W1 3 #[.int .i64 (late:Int)]
 rw [hsz] at kL
 refine ⟨w.heap.size+1,w.heap.size+1+1,w.heap.size,rfl,kx.alloc _,?_,kt.alloc _,hb.alloc (by omega) _⟩
 rw [hlate] at kL ⊢
 exact kL
theorem Tryz.prnStr_info:(Tryz.prog.info? 9).map (fun i=>(i.zero,i.size,i.bytes))=some (some (.string ByteArray.empty),1,16):=by kernel_rfl
theorem lt_nat (q late:Nat):decide ((q:Int)<(late:Int))=decide (q<late):=by
 by_cases h:q<late
 ·rw [decide_eq_true h,decide_eq_true (by omega)]
 ·rw [decide_eq_false h,decide_eq_false (by omega)]
set_option maxRecDepth 100000 in
set_option maxHeartbeats 8000000 in
theorem oldP_any (t:TenR) (p:BS) (keep:Int) (w:World) (B:Nat) (hB:B≤w.heap.size) (hr:t.rd w B) (hz:t.sz) (hmx:HasMax w) :
  Calls Tryz.prog 59 #[t.val,.string ⟨p.toArray⟩,.int .i64 keep] w fun e w'=>∃ A c,e=.returned (.slice A (t.con.old p keep).length c)∧w'.ownsRow w.heap.size 9 1 (.slice A (t.con.old p keep).length c) (t.con.old p keep).length (scells (t.con.old p keep))∧Below w.heap.size w w':=by
 obtain ⟨LL,hLL⟩:∃ L,L=t.con.old p keep:=⟨_,rfl⟩
 rw [← hLL]
 obtain ⟨i0,hi0,hz0,hz1,hz2⟩:=info_parts Tryz.prnStr_info
 obtain ⟨nm,qu,nx,⟨s1,sn,s3,sl⟩,⟨gA,gN,gC,gL⟩,⟨t1,tn,t3,tl⟩,⟨l1,ln,l3,ll⟩⟩:=t
 show Calls Tryz.prog 59 #[.agg #[.string ⟨nm.toArray⟩,.int .i64 qu,.int .i64 nx,.slice s1 sn s3,.slice gA gN gC,.slice t1 tn t3,.slice l1 ln l3],.string ⟨p.toArray⟩,.int .i64 keep] w _
 have hb:=((Below.refl w.heap.size w).alloc (Nat.le_refl _) (.cells #[.string ⟨nm.toArray⟩,.int .i64 qu,.int .i64 nx,.slice s1 sn s3,.slice gA gN gC,.slice t1 tn t3,.slice l1 ln l3] 27))
 have kt:=Blk.new w 27 #[.string ⟨nm.toArray⟩,.int .i64 qu,.int .i64 nx,.slice s1 sn s3,.slice gA gN gC,.slice t1 tn t3,.slice l1 ln l3]
 have hsz:(w.alloc (.cells #[.string ⟨nm.toArray⟩,.int .i64 qu,.int .i64 nx,.slice s1 sn s3,.slice gA gN gC,.slice t1 tn t3,.slice l1 ln l3] 27)).heap.size=w.heap.size+1:=by simp
 obtain ⟨W1,hW1⟩:∃ W,W=(w.alloc (.cells #[.string ⟨nm.toArray⟩,.int .i64 qu,.int .i64 nx,.slice s1 sn s3,.slice gA gN gC,.slice t1 tn t3,.slice l1 ln l3] 27)):=⟨_,rfl⟩
 rw [← hW1] at hb hsz kt
 have hKt:Hid (∀ W,Below W1.heap.size W1 W→Blk W w.heap.size 27 #[.string ⟨nm.toArray⟩,.int .i64 qu,.int .i64 nx,.slice s1 sn s3,.slice gA gN gC,.slice t1 tn t3,.slice l1 ln l3]):=fun W h=>kt.below h (by omega)
 have hBW:Hid (∀ W,Below W1.heap.size W1 W→Below w.heap.size w W):=fun W h=>hb.trans (h.mono (by omega))
 have hSZ:Hid (∀ W,Below W1.heap.size W1 W→w.heap.size+1≤W.heap.size):=fun W h=>by have:=h.size;omega
 have hW0:Hid (Below W1.heap.size W1 W1):=Below.refl _ _
 have hrw:Hid (∀ W,Below W1.heap.size W1 W→TenR.rd W B ⟨nm,qu,nx,⟨s1,sn,s3,sl⟩,⟨gA,gN,gC,gL⟩,⟨t1,tn,t3,tl⟩,⟨l1,ln,l3,ll⟩⟩∧B≤W.heap.size∧HasMax W):=fun W h =>
  ⟨TenR.rd.below hr ((hBW.out W h).mono hB),by have:=hSZ.out W h;omega,hmx.below (hBW.out W h)⟩
 obtain ⟨C,hC⟩:∃ C,C=TenR.con ⟨nm,qu,nx,⟨s1,sn,s3,sl⟩,⟨gA,gN,gC,gL⟩,⟨t1,tn,t3,tl⟩,⟨l1,ln,l3,ll⟩⟩:=⟨_,rfl⟩
 have hHC:=Lib.hid hC
 rw [← hC] at hLL
 have hfs:findS sl p=C.find p:=by rw [hC];exact findS_con ⟨nm,qu,nx,⟨s1,sn,s3,sl⟩,⟨gA,gN,gC,gL⟩,⟨t1,tn,t3,tl⟩,⟨l1,ln,l3,ll⟩⟩ p
 have hFI:Hid (∀ W,Below W1.heap.size W1 W→Calls Tryz.prog 57 #[.agg #[.string ⟨nm.toArray⟩,.int .i64 qu,.int .i64 nx,.slice s1 sn s3,.slice gA gN gC,.slice t1 tn t3,.slice l1 ln l3],.string ⟨p.toArray⟩] W fun e w'=>e=.returned (.int .i64 (findS sl p))∧Below W.heap.size W w'):=fun W h =>
  find_any _ _ _ _ _ _ sl sn hr.sets.1 s1 s3 p W B (hrw.out W h).1.sets.2.2 (hrw.out W h).2.1 (by have:=hz.sets;simp only at this;omega)
 have hSN:=Lib.hid (show sn=sl.length from hr.sets.1)
 have HZ:=Lib.hid hz
 have HLL:=Lib.hid hLL
 have hcs:firstI (fun s:SetR=>s.path == p) sl=findS sl p:=rfl
 rcases firstI_cases (fun s:SetR=>s.path == p) sl with ⟨hf,-⟩ | ⟨k,hkl,hf,-⟩
 ·rw [hcs] at hf
  have hfC:C.find p=-1:=by rw [← hfs,hf]
  have HL0:Hid (LL=[]):=by
   show _=_
   rw [hLL]
   unfold TenC.old
   rw [hfC,if_pos (by decide)]
  rw [hf] at hFI
  clear hb hsz kt hr hz hmx hC hLL hfs hcs hf hfC
  go_enter Tryz.func59,Tryz.ntmps59
  have hc:=hFI.out  W1 hW0.out
  have kk:=hKt.out W1 hW0.out
  obtain ⟨c0,c1,c2,c3,c4,c5,c6⟩:=(⟨kk.cell 0,kk.cell 1,kk.cell 2,kk.cell 3,kk.cell 4,kk.cell 5,kk.cell 6⟩:_∧_∧_∧_∧_∧_∧_)
  simp only [zF,zD,zE] at c0 c1 c2 c3 c4 c5 c6
  clear kk
  go_wp2_with fail
  rw [← hW1]
  clear hW1
  refine hc.mono ?_
  clear hc c0 c1 c2 c3 c4 c5 c6
  rintro e w2 ⟨rfl,hb⟩
  have HW2:=Lib.hid (hW0.out.trans (hb.mono hW0.out.size))
  clear hb
  go_wp2_with fail
  go_ret
  rw [HL0.out]
  exact ⟨none,0,rfl,World.ownsRow_nil _ _ _ _,hBW.out _ HW2.out⟩
 ·rw [hcs] at hf
  have hfC:C.find p=(k:Int):=by rw [← hfs,hf]
  have hxk:C.sets[k]?=some (sl[k]'hkl).con:=by
   rw [hC]
   show (sl.map SetR.con)[k]?=_
   rw [List.getElem?_map,List.getElem?_eq_getElem hkl]
   rfl
  have HLK:Hid (LL=C.oldS (sl[k]'hkl).con keep):=by
   show _=_
   rw [hLL]
   unfold TenC.old
   rw [hfC,if_neg (by omega),Int.toNat_natCast,hxk]
  rw [hf] at hFI
  clear hb hsz kt hr hz hmx hC hLL hfs hcs hf hfC hxk
  go_enter Tryz.func59,Tryz.ntmps59
  have hc:=hFI.out  W1 hW0.out
  have kk:=hKt.out W1 hW0.out
  obtain ⟨c0,c1,c2,c3,c4,c5,c6⟩:=(⟨kk.cell 0,kk.cell 1,kk.cell 2,kk.cell 3,kk.cell 4,kk.cell 5,kk.cell 6⟩:_∧_∧_∧_∧_∧_∧_)
  simp only [zF,zD,zE] at c0 c1 c2 c3 c4 c5 c6
  clear kk
  go_wp2_with fail
  rw [← hW1]
  clear hW1
  refine hc.mono ?_
  clear hc c0 c1 c2 c3 c4 c5 c6
  rintro e w2 ⟨rfl,hb⟩
  have HW2:=Lib.hid (hW0.out.trans (hb.mono hW0.out.size))
  clear hb
  have hrk:=(hrw.out w2 HW2.out).1
  have hks:k<sn:=by have:=hSN.out;omega
  have hki:(k:Int)<(sn:Int):=by omega
  have hk0:(0:Int)≤(k:Int):=by omega
  obtain ⟨ad,hsa,-,fa0,fa1,fa2,fa3,fa4⟩:=set_at hrk.sets.2.2 hSN.out hks
  simp only at hsa
  subst hsa
  have hx:=hrk.eachS _ (List.getElem_mem hkl)
  have hzx:=HZ.out.eachS _ (List.getElem_mem hkl)
  have HXR:Hid (∀ W,Below W1.heap.size W1 W→(sl[k]'hkl).rd W B):=fun W h=>(hrw.out W h).1.eachS _ (List.getElem_mem hkl)
  obtain ⟨x,hxx⟩:∃ x,x=sl[k]'hkl:=⟨_,rfl⟩
  rw [← hxx] at fa0 fa1 fa2 fa3 fa4 hx hzx HLK HXR
  clear hxx hrk
  obtain ⟨xp,xo,⟨bA,bn,bc,bl⟩,⟨zA,zn,zc,zl⟩,⟨oA,on,oc,ol⟩⟩:=x
  simp only at fa0 fa1 fa2 fa3 fa4
  have hzn:zn≤1000000000000:=hzx.snaps
  have HZX:=Lib.hid hzx
  have HZN:=Lib.hid (show zn=zl.length from hx.snaps.1)
  obtain ⟨late,hlate⟩:∃ q,q=lateN keep zn:=⟨_,rfl⟩
  have HLT:Hid (LL=C.oldK xp (zl.map SnapR.con) late zn):=by
   show _=_
   rw [HLK.out]
   unfold TenC.oldS
   show C.oldK xp (zl.map SnapR.con) (lateN keep (zl.map SnapR.con).length) (zl.map SnapR.con).length=_
   rw [List.length_map,← HZN.out,hlate]
  have hba:=(HW2.out).alloc HW2.out.size (.cells #[.string ⟨xp.toArray⟩,.string ⟨xo.toArray⟩,.slice bA bn bc,.slice zA zn zc,.slice oA on oc] 42)
  have kx:=Blk.new w2 42 #[.string ⟨xp.toArray⟩,.string ⟨xo.toArray⟩,.slice bA bn bc,.slice zA zn zc,.slice oA on oc]
  have hs3:(w2.alloc (.cells #[.string ⟨xp.toArray⟩,.string ⟨xo.toArray⟩,.slice bA bn bc,.slice zA zn zc,.slice oA on oc] 42)).heap.size=w2.heap.size+1:=by simp
  have kk:=hKt.out w2 HW2.out
  have q3:=kk.cell 3
  have kk2:=kk.alloc (.cells #[.string ⟨xp.toArray⟩,.string ⟨xo.toArray⟩,.slice bA bn bc,.slice zA zn zc,.slice oA on oc] 42)
  obtain ⟨c0,c1,c2,c3,c4,c5,c6⟩:=(⟨kk2.cell 0,kk2.cell 1,kk2.cell 2,kk2.cell 3,kk2.cell 4,kk2.cell 5,kk2.cell 6⟩:_∧_∧_∧_∧_∧_∧_)
  simp only [zF,zD,zE] at c0 c1 c2 c3 c4 c5 c6
  obtain ⟨e0,e1,e2,e3,e4⟩:=(⟨kx.cell 0,kx.cell 1,kx.cell 2,kx.cell 3,kx.cell 4⟩:_∧_∧_∧_∧_)
  simp only [zF,zD,zE] at e0 e1 e2 e3 e4
  simp only [zF,zD,zE] at q3
  obtain ⟨w3,hW3⟩:∃ W,W=w2.alloc (.cells #[.string ⟨xp.toArray⟩,.string ⟨xo.toArray⟩,.slice bA bn bc,.slice zA zn zc,.slice oA on oc] 42):=⟨_,rfl⟩
  rw [← hW3] at hba kx hs3
  have HW3:=Lib.hid hba
  have hmk:=mkOld_any ⟨nm,qu,nx,⟨some ad,sn,s3,sl⟩,⟨gA,gN,gC,gL⟩,⟨t1,tn,t3,tl⟩,⟨l1,ln,l3,ll⟩⟩ ⟨xp,xo,⟨bA,bn,bc,bl⟩,⟨zA,zn,zc,zl⟩,⟨oA,on,oc,ol⟩⟩ keep w3 (by exact hzn)
  rw [show lateN keep (SetR.snaps ⟨xp,xo,⟨bA,bn,bc,bl⟩,⟨zA,zn,zc,zl⟩,⟨oA,on,oc,ol⟩⟩).n=late from hlate.symm] at hmk
  have HMK:Hid (Calls Tryz.prog 77 #[.agg #[.string ⟨nm.toArray⟩,.int .i64 qu,.int .i64 nx,.slice (some ad) sn s3,.slice gA gN gC,.slice t1 tn t3,.slice l1 ln l3],.agg #[.string ⟨xp.toArray⟩,.string ⟨xo.toArray⟩,.slice bA bn bc,.slice zA zn zc,.slice oA on oc],.int .i64 keep] w3 fun e w'=>∃ pS pL pT,e=.returned (.func (.func 140) #[] #[.pointer (some ⟨pS,0,none⟩),.pointer (some ⟨pL,0,none⟩),.pointer (some ⟨pT,0,none⟩)]) ∧
     Blk w' pS 42 #[.string ⟨xp.toArray⟩,.string ⟨xo.toArray⟩,.slice bA bn bc,.slice zA zn zc,.slice oA on oc]∧Blk w' pL 3 #[.int .i64 late]∧Blk w' pT 27 #[.string ⟨nm.toArray⟩,.int .i64 qu,.int .i64 nx,.slice (some ad) sn s3,.slice gA gN gC,.slice t1 tn t3,.slice l1 ln l3]∧Below w3.heap.size w3 w'):=hmk
  have HKX:Hid (∀ W,Below w3.heap.size w3 W→Blk W w2.heap.size 42 #[.string ⟨xp.toArray⟩,.string ⟨xo.toArray⟩,.slice bA bn bc,.slice zA zn zc,.slice oA on oc]):=fun W h=>kx.below h (by omega)
  have HS3:=Lib.hid hs3
  clear kk kk2 kx hba hmk hx hzx HLK hlate hs3
  go_wp2_with fail
  rw [← hW3]
  clear hW3
  refine HMK.out.mono ?_
  clear HMK c0 c1 c2 c3 c4 c5 c6 q3 fa0 fa1 fa2 fa3 fa4 e0 e1 e2 e4 e3
  rintro e w4 ⟨pS,pL,pT,rfl,kS,kL,kT,hb⟩
  have HW4:=Lib.hid (HW3.out.trans (hb.mono HW3.out.size))
  have HB34:=Lib.hid hb
  have z3:=(HKX.out w4 hb).cell 3
  simp only [zF,zD,zE] at z3
  have HIS:Hid (∀ W,Below w4.heap.size w4 W→∀ q (hq:q<zl.length),Calls Tryz.prog 140 #[.int .i64 (q:Int),.pointer (some ⟨pS,0,none⟩),.pointer (some ⟨pL,0,none⟩),.pointer (some ⟨pT,0,none⟩)] W fun e w'=>e=.returned (.bool (decide (q<late) && C.free xp (zl[q]'hq).con))∧Below W.heap.size W w'):=fun W h q hq=>by
   have hw:=HW4.out.trans (h.mono HW4.out.size)
   obtain ⟨g1,g2,g3⟩:=hrw.out W hw
   have h1:=isOld_any ⟨nm,qu,nx,⟨some ad,sn,s3,sl⟩,⟨gA,gN,gC,gL⟩,⟨t1,tn,t3,tl⟩,⟨l1,ln,l3,ll⟩⟩ ⟨xp,xo,⟨bA,bn,bc,bl⟩,⟨zA,zn,zc,zl⟩,⟨oA,on,oc,ol⟩⟩ (late:Int) pS pL pT q W B g2 g1 HZ.out (HXR.out W hw) g3 (kS.below h kS.lt) (kL.below h kL.lt) (kT.below h kT.lt) hq
   rw [← hHC.out,lt_nat] at h1
   exact h1
  clear hb kS kL kT
  go_wp2_with fail
  clear z3
  go_loopw [10,30] (fun o j wr=>∃ (q m:Nat) (A:Option Addr) (c:Nat),q≤zn∧m≤q∧j=.int .i64 (q:Int)∧o=.slice A m c∧Hid (m=(C.oldK xp (zl.map SnapR.con) late q).length)∧Hid (wr.ownsRow w4.heap.size 9 1 (.slice A m c) m (scells (C.oldK xp (zl.map SnapR.con) late q)))∧Hid (Below w4.heap.size w4 wr)) (fun _ j _=>zn-(intOf j).toNat)
  case atStart=>exact ⟨0,0,none,0,Nat.zero_le _,Nat.le_refl _,rfl,rfl,by show _=_;rw [oldK_zero];rfl,by show World.ownsRow _ _ _ _ _ _ _;rw [oldK_zero];exact World.ownsRow_nil _ _ _ _,Below.refl _ _⟩
  case round =>
   obtain ⟨wo,hwo⟩:∃ W,W=wr:=⟨_,rfl⟩
   subst hwo
   obtain ⟨q,m,A,c,hq,hmq,rfl,rfl,HM,HO,HB⟩:=hrel
   by_cases hlt:q<zn
   ·have hqi:(q:Int)<(zn:Int):=by omega
    have hql:q<zl.length:=by have:=HZN.out;omega
    have hwo:=HW4.out.trans (HB.out.mono HW4.out.size)
    obtain ⟨ad2,hsa,-,r0,r1,r2,r3,r4⟩:=snap_at (HXR.out wo hwo).snaps.2.2 HZN.out hlt
    simp only at hsa
    subst hsa
    have hst:C.oldK xp (zl.map SnapR.con) late (q+1)=C.oldK xp (zl.map SnapR.con) late q++(if (decide (q<late) && C.free xp (zl[q]'hql).con)=true then [(zl[q]'hql).con.nm] else []):=oldK_succ C xp _ late q _ (by rw [List.getElem?_map,List.getElem?_eq_getElem hql];rfl)
    have his:=fun W h=>HIS.out W h q hql
    obtain ⟨y,hy⟩:∃ y,y=zl[q]'hql:=⟨_,rfl⟩
    simp only at r0 r1 r2 r3 r4
    rw [← hy] at r0 r1 r2 r3 r4 hst
    simp only [← hy] at his
    clear hy hwo
    obtain ⟨b,hb⟩:∃ b,b=(decide (q<late) && C.free xp y.con):=⟨_,rfl⟩
    rw [← hb] at hst
    simp only [← hb] at his
    clear hb
    obtain ⟨yn,yg,⟨d1,d2,d3,dl⟩,⟨e1,en,e3,el⟩,⟨f1,f2,f3,fl⟩⟩:=y
    simp only at r0 r1 r2 r3 r4
    have hst:C.oldK xp (zl.map SnapR.con) late (q+1)=C.oldK xp (zl.map SnapR.con) late q++(if b=true then [yn] else []):=hst
    have HST:=Lib.hid hst
    have hba:=HB.out.alloc HB.out.size (.cells #[.string ⟨yn.toArray⟩,.int .i64 yg,.slice d1 d2 d3,.slice e1 en e3,.slice f1 f2 f3] 57)
    have HO3:=own_below HO.out ((Below.refl wo.heap.size wo).alloc (Nat.le_refl _) (.cells #[.string ⟨yn.toArray⟩,.int .i64 yg,.slice d1 d2 d3,.slice e1 en e3,.slice f1 f2 f3] 57))
    have ky:=Blk.new wo 57 #[.string ⟨yn.toArray⟩,.int .i64 yg,.slice d1 d2 d3,.slice e1 en e3,.slice f1 f2 f3]
    obtain ⟨w5,hW5⟩:∃ W,W=wo.alloc (.cells #[.string ⟨yn.toArray⟩,.int .i64 yg,.slice d1 d2 d3,.slice e1 en e3,.slice f1 f2 f3] 57):=⟨_,rfl⟩
    have hs5:w5.heap.size=wo.heap.size+1:=by rw [hW5];simp
    rw [← hW5] at hba HO3 ky
    have HB5:=Lib.hid hba
    have HO5:=Lib.hid HO3
    have hc:=his w5 hba
    have HKY:Hid (∀ W,Below w5.heap.size w5 W→W.cell? ⟨wo.heap.size,0,none⟩=some (.string ⟨yn.toArray⟩)):=fun W h=>(ky.below h (by omega)).cell 0
    clear hst hba HO3 ky his hs5
    go_wp2_with fail
    rw [← hW5]
    clear hW5
    refine hc.mono ?_
    clear hc r0 r1 r2 r3 r4
    rintro e w6 ⟨rfl,hb6⟩
    have HB6:=Lib.hid (HB5.out.trans (hb6.mono HB5.out.size))
    have ho6:=own_below HO5.out hb6
    have y0:=HKY.out w6 hb6
    have hbase:=HB6.out.size
    clear hb6
    cases b with
    | true =>
     have HST2:Hid (C.oldK xp (zl.map SnapR.con) late (q+1)=C.oldK xp (zl.map SnapR.con) late q++[yn]):=HST.out
     go_wp2_with (at_builtin;(refine wpList_push w6 rfl (.tmp 38) (.tmp 41) 48 rfl w4.heap.size 9 i0 (.string ByteArray.empty) 1 16 Tryz.underlying48 hi0 hz0 hz1 hz2 rfl (by omega) (.slice A m c) m _ rfl ho6 1 #[.string ⟨yn.toArray⟩] 9 rfl rfl (by simp [Value.oneCell']) (by unfold maxLen;omega) (by omega) hbase ?_);intro v' w' ho' hb' hg')
     obtain ⟨A2,c2,rfl,_,_,_⟩:=own_form ho'
     have hb'2:=HB6.out.trans hb'
     go_wp2_with fail
     go_roundw
     case rel=>exact ⟨q+1,m+1,A2,c2,by omega,by omega,by go_num,rfl,by show _=_;rw [HST2.out,List.length_append,← HM.out];rfl,by show World.ownsRow _ _ _ _ _ _ _;rw [HST2.out,scells_append];exact ho',hb'2⟩
     case measure=>simp [intOf];omega
    | false =>
     have HST2:Hid (C.oldK xp (zl.map SnapR.con) late (q+1)=C.oldK xp (zl.map SnapR.con) late q):=by
      show _=_
      rw [HST.out]
      simp
     go_wp2_with fail
     go_roundw
     case rel=>exact ⟨q+1,m,A,c,by omega,by omega,by go_num,rfl,by show _=_;rw [HST2.out];exact HM.out,by show World.ownsRow _ _ _ _ _ _ _;rw [HST2.out];exact ho6,HB6.out⟩
     case measure=>simp [intOf];omega
   ·obtain rfl:q=zn:=by omega
    go_wp2_with fail
    go_ret
    refine ⟨A,c,?_,?_,?_⟩
    ·rw [HLT.out,← HM.out];rfl
    ·rw [HLT.out,← HM.out]
     exact own_mono HO.out (by have h1:=HW4.out.size;have h2:=hSZ.out W1 hW0.out;omega)
    ·exact hBW.out _ (HW4.out.trans (HB.out.mono HW4.out.size))
end Go.Proofs.YtcgclpcocdappaaGreatDoor
