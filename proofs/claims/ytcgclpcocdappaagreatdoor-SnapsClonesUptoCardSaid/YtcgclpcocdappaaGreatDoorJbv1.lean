/-
  What a function tells that answers by a tenant and an error; sizes by content. A tenant of one's own of which one field of one set is stored. Short words for drawn regions with a store: what stands ahead of it, by reckoning; the values that an operation waits for. props.Set, props.Unset, by their contracts. shape.Write, Free, Set, Unset: a set's body or its properties turned. The example of chapter 17: the page's New, and a snapshot made.
-/
import Derived.WalkKit
import Derived.WalkSpells
import Derived.Below
import Derived.Laws.OwnMore
import Derived.Deep.AppendLies
import Derived.Deep.Draws
import Derived.Laws.Rows
import Derived.Maps.AppendAt
import Derived.RegionTactic
import Derived.OwnWalk
import Derived.Deep.QuietTactic
import Derived.BigQuiet
import Derived.Lib.Hide
import Derived.Laws.CopyOwn
import Derived.IntWalk
import Derived.Test.YtcgclpcocdappaaGreatDoorRows
import Derived.Handy
import Derived.Deep.Quiet
import Derived.ProofKit
import Derived.OpenShut
import Derived.ShutString
import Derived.ChangeOld
import Derived.Carry
import Derived.SizedLaws
import Derived.JoinedCond
import Derived.Deep.CondSized
import Derived.Deep.Slices
import Derived.Deep.Fields
import Derived.Lib.SmallJoins
import Derived.Orders
import Derived.Lib.SplitLaws
import Derived.Lib.LastIndexByte
import Derived.Lib.Strings
import Derived.Sort.Walk0
import Derived.Sort.KeysCollected
import Derived.Deep.MidRow
import Derived.Shelf.Strings.Search1
import Derived.Shelf.Strings.Search2
import Derived.Shelf.Strings.Search3
import Derived.Shelf.Strings.Cut
import Derived.Shelf.Strings.Count
import Derived.Shelf.LaysM
import Derived.Shelf.Strings.Shaped
import Derived.Shelf.Strings.LastIndex
import Derived.Shelf.Strings.Split
import Derived.Shelf.Strings.SplitShaped
import Derived.Shelf.Unicode.Decode
import Derived.Shelf.Strings.RuneCount
import Derived.Shelf.Strings.Explode
import Derived.Shelf.Unicode.DecodeSlow
import Derived.Test.YtcgclpcocdappaaGreatDoorProg
import Derived.Laws.BytesString
import Derived.Laws.IdiomStrings
import Derived.Lib.ConvBytes
import Derived.Deep.DeepCutAuto
import Derived.Great.BuildSlice
import Derived.Deep.RegionLaw
import Derived.Lib.AppendZeros
import Derived.Shelf.SlIter.Nil
import Derived.Shelf.SortM.Plain
import Derived.Shelf.SortM.SortNone
import Derived.Maps.OwnSet
import Derived.Maps.StringElems
import Derived.Lib.Overlaps
import Derived.Lib.AppendZerosOnto
import Derived.Test.YtcgclpcocdappaaGreatDoorJ0
import Derived.Test.YtcgclpcocdappaaGreatDoorJbkv1
import Derived.Test.YtcgclpcocdappaaGreatDoorJbkv2
import Derived.Test.YtcgclpcocdappaaGreatDoorJbkv3
import Derived.Test.YtcgclpcocdappaaGreatDoorJbkv4
import Derived.Test.YtcgclpcocdappaaGreatDoorJbkv5
import Derived.Test.YtcgclpcocdappaaGreatDoorJbkv7
import Derived.Test.YtcgclpcocdappaaGreatDoorJbkv8
import Derived.Test.YtcgclpcocdappaaGreatDoorJbkv10
import Derived.Test.YtcgclpcocdappaaGreatDoorJbkv14
import Derived.Test.YtcgclpcocdappaaGreatDoorJbkv15
import Derived.Test.YtcgclpcocdappaaGreatDoorJbkv16
import Derived.Test.YtcgclpcocdappaaGreatDoorJbkv17
import Derived.Test.YtcgclpcocdappaaGreatDoorJbkv20
import Derived.Test.YtcgclpcocdappaaGreatDoorJbkv21
import Derived.Test.YtcgclpcocdappaaGreatDoorJbkv22
import Derived.Test.YtcgclpcocdappaaGreatDoorJbkv23
import Derived.Test.YtcgclpcocdappaaGreatDoorJbkv30
namespace Go.Proofs.YtcgclpcocdappaaGreatDoor
open Go.RowKit
/-! ### sizes, by content -/
section
variable {w:World} {B:Nat}
end
/-! ### what is told -/
/-! ### what stands under a set, its clones, what is held -/
theorem settle_ok (c c2:TenC) (h:(0,c2)=c.settle):c2=c∧c.E=0∧(c.charge:Int)≤c.quota:=by
 unfold TenC.settle at h
 by_cases h5:c.E=9
 ·rw [if_pos h5] at h
  injection h with h _
  cases h
 rw [if_neg h5] at h
 split at h
 ·injection h with h _
  cases h
 ·injection h with _ h
  refine ⟨h,?_,by omega⟩
  rcases c.E_two with h6 | h6
  ·exact h6
  ·exact absurd h6 h5
end Go.Proofs.YtcgclpcocdappaaGreatDoor
namespace Go.Proofs.YtcgclpcocdappaaGreatDoor
open Go.RowKit
section
variable {w w':World} {base g:Nat} {cs:Array Value}
/-- a pointer into the row of sets: one field of one set stored, by what is of one's own too -/
theorem TenO.setF {t:TenR} (h:TenO w base t) (i j:Nat) (hi:i<t.sets.l.length) (hj:j<5) (x':SetR) (u:Value) (he:∀ x,t.sets.l[i]?=some x→encSet x'=(encSet x).set j u) (hx:SetO w base x') :
  ∃ g,t.sets.A=some ⟨g,0,none⟩∧base≤g∧TenO (w.setCell ⟨g,i*5+j,none⟩ u) base (t.putS i x')∧w.grownBy (w.setCell ⟨g,i*5+j,none⟩ u) (some g):=by
 obtain ⟨g,cs,hA,hbg,hbk⟩:=h.sets.blk (by have:=h.sets.1;omega)
 obtain ⟨h1,h2⟩:=h.sets.field (fun _=>rfl) hA i j hj x' u he
 refine ⟨g,hA,hbg,⟨h1,?_,h.grants.keptT h2 hbk (by decide),h.stages.keptT h2 hbk (by decide),fun y hy=>(h.eachG y hy).keptS h2 hbk,h.log.keptT h2 hbk (by decide)⟩,h2⟩
 intro y hy
 rcases List.mem_or_eq_of_mem_set hy with hy | rfl
 ·exact (h.eachS y hy).keptS h2 hbk
 ·exact hx.keptS h2 hbk
end
end Go.Proofs.YtcgclpcocdappaaGreatDoor
namespace Go.Proofs.YtcgclpcocdappaaGreatDoor
open Go.RowKit
section
variable {ops:Array Oper}
theorem early1 {S:Nat} {late:List Nat} (h:((List.range ops.size).all fun j=>j == S || (late.contains j || (reachL ops ops.size (depsOf ops S)).contains j))=true) :
  ∀ i,i<ops.size→i≠S→i ∉ late→∀ m,ClosedM ops m→(m S).isSome=true→(m i).isSome=true:=by
 intro i hi h1 h3 m hcl hS
 have h4:=List.all_eq_true.1 h i (List.mem_range.2 hi)
 simp only [Bool.or_eq_true,beq_iff_eq,List.contains_iff_mem] at h4
 rcases h4 with h4 | h4 | h4
 ·exact absurd h4 h1
 ·exact absurd h4 h3
 ·exact reach_closed hcl hS i h4
end
end Go.Proofs.YtcgclpcocdappaaGreatDoor
namespace Go.Proofs.YtcgclpcocdappaaGreatDoor
open Go.RowKit
def setE (l:PL) (nm tx:BS):Int:=if propsB l=true then (if nameB nm=true then (if valB tx=true then (if (getP l nm).isSome=false∧l.length=8 then 3 else 0) else 9) else 31) else 9
end Go.Proofs.YtcgclpcocdappaaGreatDoor
namespace Go.Proofs.YtcgclpcocdappaaGreatDoor
open Go.RowKit
def ownF (E:List (BS×BS)→Int) (L:List (BS×BS)→List (BS×BS)) (s:SetC):Int×SetC:=(E s.own,⟨s.path,s.org,s.body,s.snaps,L s.own⟩)
def setF (nm tx:BS):SetC→Int×SetC:=ownF (fun l=>setE l nm tx) (fun l=>putP (nm,tx) l)
end Go.Proofs.YtcgclpcocdappaaGreatDoor
namespace Go.Proofs.YtcgclpcocdappaaGreatDoor
open Go.RowKit
theorem num17_any (n:Int) (w:World):Calls Tryz.prog 41 #[.int .i64 n] w fun e w'=>e=.returned (.int .i64 n)∧w'=w:=by
 go_enter Tryz.func41,Tryz.ntmps41
 go_wp2_with fail
 go_ret
 exact ⟨rfl,rfl⟩
theorem new0_snapshot:(new0C 9).snapshot [] [97]=(0,⟨[116],9,2,[⟨[],[],[],[⟨[97],1,[],[],[]⟩],[]⟩],[],[],[]⟩):=by kernel_rfl
theorem new0_guid:(new0C 9).guidAt []=1:=by kernel_rfl
set_option maxRecDepth 100000 in
set_option maxHeartbeats 4000000 in
theorem alive17_any (w:World) (hmx:HasMax w):Calls Tryz.prog 8 #[] w fun e w'=>e=.returned (.bool true)∧Below w.heap.size w w':=by
 go_enter Tryz.func8,Tryz.ntmps8
 go_wp2_with fail
 refine (rnew_any 9 (by decide) (by decide) _).mono ?_
 rintro e w1 ⟨y,rfl,ho,hy,hb⟩
 have HW1:=Lib.hid hb
 have HO:=Lib.hid ho
 have HY:=Lib.hid hy
 clear hb ho hy
 obtain ⟨mm,mq,mx,⟨m1,m2,m3,ml⟩,⟨n1,n2,n3,nl⟩,⟨p1,p2,p3,pl⟩,⟨q1,q2,q3,ql⟩⟩:=y
 simp only [TenR.val,TenR.cells,FS.val,strV]
 have hbn:=(HW1.out).alloc HW1.out.size (.cells #[.string ⟨mm.toArray⟩,.int .i64 mq,.int .i64 mx,.slice m1 m2 m3,.slice n1 n2 n3,.slice p1 p2 p3,.slice q1 q2 q3] 27)
 have kbn:=Blk.new w1 27 #[.string ⟨mm.toArray⟩,.int .i64 mq,.int .i64 mx,.slice m1 m2 m3,.slice n1 n2 n3,.slice p1 p2 p3,.slice q1 q2 q3]
 have hsn:(w1.alloc (.cells #[.string ⟨mm.toArray⟩,.int .i64 mq,.int .i64 mx,.slice m1 m2 m3,.slice n1 n2 n3,.slice p1 p2 p3,.slice q1 q2 q3] 27)).heap.size=w1.heap.size+1:=by simp
 have HOn:=HO.out.below ((Below.refl w1.heap.size w1).alloc (Nat.le_refl _) (.cells #[.string ⟨mm.toArray⟩,.int .i64 mq,.int .i64 mx,.slice m1 m2 m3,.slice n1 n2 n3,.slice p1 p2 p3,.slice q1 q2 q3] 27))
 obtain ⟨By,hBy⟩:∃ g,g=w1.heap.size:=⟨_,rfl⟩
 obtain ⟨w2,hWn⟩:∃ W,W=(w1.alloc (.cells #[.string ⟨mm.toArray⟩,.int .i64 mq,.int .i64 mx,.slice m1 m2 m3,.slice n1 n2 n3,.slice p1 p2 p3,.slice q1 q2 q3] 27)):=⟨_,rfl⟩
 rw [← hWn] at hbn kbn hsn HOn
 have HW2:=Lib.hid hbn
 rw [← hBy] at kbn
 have hKy:Hid (∀ W,Below w2.heap.size w2 W→Blk W By 27 #[.string ⟨mm.toArray⟩,.int .i64 mq,.int .i64 mx,.slice m1 m2 m3,.slice n1 n2 n3,.slice p1 p2 p3,.slice q1 q2 q3]):=fun W h=>kbn.below h (by omega)
 have HZy:=Lib.hid (show By=w1.heap.size∧w2.heap.size=w1.heap.size+1 from ⟨hBy,hsn⟩)
 have HO:=Lib.hid HOn
 clear hbn kbn hsn HOn
 have hCR:=snapshot_any ⟨mm,mq,mx,⟨m1,m2,m3,ml⟩,⟨n1,n2,n3,nl⟩,⟨p1,p2,p3,pl⟩,⟨q1,q2,q3,ql⟩⟩ [] [97] w2 w2.heap.size (Nat.le_refl _) HO.out.rd (TenR.sz_of HO.out.rd (by rw [HY.out];exact new0C_sz 9)) (by decide) (by decide) (hmx.below HW2.out)
 rw [HY.out,new0_snapshot,new0_guid] at hCR
 have HCR:Hid (Calls Tryz.prog 9 #[.agg #[.string ⟨mm.toArray⟩,.int .i64 mq,.int .i64 mx,.slice m1 m2 m3,.slice n1 n2 n3,.slice p1 p2 p3,.slice q1 q2 q3],.string ⟨#[]⟩,.string ⟨#[97]⟩] w2 (TenPost3 w2 1 (0,⟨[116],9,2,[⟨[],[],[],[⟨[97],1,[],[],[]⟩],[]⟩],[],[],[]⟩))):=hCR
 clear hCR
 have kk:=hKy.out w2 (Below.refl _ _)
 obtain ⟨c0,c1,c2,c3,c4,c5,c6⟩:=(⟨kk.cell 0,kk.cell 1,kk.cell 2,kk.cell 3,kk.cell 4,kk.cell 5,kk.cell 6⟩:_∧_∧_∧_∧_∧_∧_)
 simp only [zF,zD,zE] at c0 c1 c2 c3 c4 c5 c6
 clear kk
 go_wp2_with (refine wpList_store_new w1 rfl 27 (.tmp 1) (.tmp 8) rfl 27 [.string ⟨#[]⟩,.int .i64 0,.int .i64 0,.slice none 0 0,.slice none 0 0,.slice none 0 0,.slice none 0 0] [.string ⟨mm.toArray⟩,.int .i64 mq,.int .i64 mx,.slice m1 m2 m3,.slice n1 n2 n3,.slice p1 p2 p3,.slice q1 q2 q3] rfl rfl rfl (by kernel_rfl) (by simp [Value.oneCell']) ?_;rw [show ([.string ⟨mm.toArray⟩,.int .i64 mq,.int .i64 mx,.slice m1 m2 m3,.slice n1 n2 n3,.slice p1 p2 p3,.slice q1 q2 q3]:List Value).toArray=#[.string ⟨mm.toArray⟩,.int .i64 mq,.int .i64 mx,.slice m1 m2 m3,.slice n1 n2 n3,.slice p1 p2 p3,.slice q1 q2 q3] from rfl,← hWn,← hBy];clear hWn hBy)
 refine HCR.out.mono ?_
 clear HCR c0 c1 c2 c3 c4 c5 c6
 rintro e w3 ⟨v,gi,rfl,hb,⟨h1,-⟩ | ⟨-,rfl,u,rfl,hou,hu⟩⟩
 ·exact absurd (show (0:Int)=0 from rfl) h1
 have HW3:=Lib.hid (HW2.out.trans (hb.mono HW2.out.size))
 have HOU:=Lib.hid hou
 have HU:=Lib.hid hu
 clear hb hou hu
 obtain ⟨am,aq,ax,⟨a1,a2,a3,al⟩,⟨f1,f2,f3,fl⟩,⟨i1,i2,i3,il⟩,⟨j1,j2,j3,jl⟩⟩:=u
 simp only [TenR.val,TenR.cells,FS.val,strV]
 have hbn:=(HW3.out).alloc HW3.out.size (.cells #[.string ⟨am.toArray⟩,.int .i64 aq,.int .i64 ax,.slice a1 a2 a3,.slice f1 f2 f3,.slice i1 i2 i3,.slice j1 j2 j3] 27)
 have kbn:=Blk.new w3 27 #[.string ⟨am.toArray⟩,.int .i64 aq,.int .i64 ax,.slice a1 a2 a3,.slice f1 f2 f3,.slice i1 i2 i3,.slice j1 j2 j3]
 have hsn:(w3.alloc (.cells #[.string ⟨am.toArray⟩,.int .i64 aq,.int .i64 ax,.slice a1 a2 a3,.slice f1 f2 f3,.slice i1 i2 i3,.slice j1 j2 j3] 27)).heap.size=w3.heap.size+1:=by simp
 have HOUn:=HOU.out.below ((Below.refl w3.heap.size w3).alloc (Nat.le_refl _) (.cells #[.string ⟨am.toArray⟩,.int .i64 aq,.int .i64 ax,.slice a1 a2 a3,.slice f1 f2 f3,.slice i1 i2 i3,.slice j1 j2 j3] 27))
 obtain ⟨Ba,hBa⟩:∃ g,g=w3.heap.size:=⟨_,rfl⟩
 obtain ⟨w4,hWn⟩:∃ W,W=(w3.alloc (.cells #[.string ⟨am.toArray⟩,.int .i64 aq,.int .i64 ax,.slice a1 a2 a3,.slice f1 f2 f3,.slice i1 i2 i3,.slice j1 j2 j3] 27)):=⟨_,rfl⟩
 rw [← hWn] at hbn kbn hsn HOUn
 have HW4:=Lib.hid hbn
 rw [← hBa] at kbn
 have hKa:Hid (∀ W,Below w4.heap.size w4 W→Blk W Ba 27 #[.string ⟨am.toArray⟩,.int .i64 aq,.int .i64 ax,.slice a1 a2 a3,.slice f1 f2 f3,.slice i1 i2 i3,.slice j1 j2 j3]):=fun W h=>kbn.below h (by omega)
 have HZa:=Lib.hid (show Ba=w3.heap.size∧w4.heap.size=w3.heap.size+1 from ⟨hBa,hsn⟩)
 have HOU:=Lib.hid HOUn
 clear hbn kbn hsn HOUn
 have hlen:al.length=1:=by
  have h:=congrArg (fun c:TenC=>c.sets.length) HU.out
  simpa [TenR.con] using h
 have hal0:0<al.length:=by omega
 obtain ⟨x,hx⟩:∃ x,x=al[0]'hal0:=⟨_,rfl⟩
 have hxn:x.snaps.n=1:=by
  have h:=congrArg (fun c:TenC=>(c.sets[0]?).map fun s=>s.snaps.length) HU.out
  simp only [TenR.con,List.getElem?_map,List.getElem?_eq_getElem hal0,← hx] at h
  have h2:=((HOU.out.eachS _ (List.getElem_mem hal0))).snaps.1
  simp only [← hx] at h2
  rw [h2]
  simpa [SetR.con] using h
 have ha2:a2=1:=by have h:=HOU.out.sets.1;simp only at h;omega
 obtain ⟨ad,rfl,-,-,-,-,q3,-⟩:=set_at HOU.out.rd.sets.2.2 HOU.out.sets.1 (i:=0) (show 0<a2 by omega)
 simp only [← hx] at q3
 replace q3:w4.cell? ⟨ad.block,ad.off+3,none⟩=some (.slice x.snaps.A x.snaps.n x.snaps.c):=by simpa [Addr.add] using q3
 have kk:=hKa.out w4 (Below.refl _ _)
 have d3:=kk.cell 3
 simp only [zF,zD,zE] at d3
 have hn1:((x.snaps.n:Int) == 1)=true:=by rw [hxn];rfl
 have hn2:(0:Int)<(a2:Int):=by omega
 clear kk hlen hxn ha2 hx HOU HU HO HY hKy
 go_wp2_with (refine wpList_store_new w3 rfl 27 (.tmp 3) (.tmp 13) rfl 27 [.string ⟨#[]⟩,.int .i64 0,.int .i64 0,.slice none 0 0,.slice none 0 0,.slice none 0 0,.slice none 0 0] [.string ⟨am.toArray⟩,.int .i64 aq,.int .i64 ax,.slice (some ad) a2 a3,.slice f1 f2 f3,.slice i1 i2 i3,.slice j1 j2 j3] rfl rfl rfl (by kernel_rfl) (by simp [Value.oneCell']) ?_;rw [show ([.string ⟨am.toArray⟩,.int .i64 aq,.int .i64 ax,.slice (some ad) a2 a3,.slice f1 f2 f3,.slice i1 i2 i3,.slice j1 j2 j3]:List Value).toArray=#[.string ⟨am.toArray⟩,.int .i64 aq,.int .i64 ax,.slice (some ad) a2 a3,.slice f1 f2 f3,.slice i1 i2 i3,.slice j1 j2 j3] from rfl,← hWn,← hBa];clear hWn hBa)
 refine (num17_any _ _).mono ?_
 rintro e w5 ⟨rfl,hw5⟩
 rw [hw5]
 clear hw5 w5
 go_wp2_with fail
 exact bodyPost_ret (v:=.bool true) (by simp [results,Tryz.results8,go_sem]) rfl ⟨rfl,HW4.out⟩
end Go.Proofs.YtcgclpcocdappaaGreatDoor
