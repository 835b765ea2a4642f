/-
  slices.Insert of one element into a row of the call's own, by its contract. shape.asked, shape.place: a path that may be asked; a set's place. shape.Destroy's look at the stages: is one of them to go into a path? shape.held: has a set a snapshot with tags?
-/
import Derived.Test.YtcgclpcocdappaaGreatDoorRows
import Derived.Handy
import Derived.Lib.AppendZeros
import Derived.WalkKit
import Derived.WalkSpells
import Derived.Below
import Derived.Laws.OwnMore
import Derived.Deep.AppendLies
import Derived.Deep.Draws
import Derived.Laws.Rows
import Derived.Maps.AppendAt
import Derived.RegionTactic
import Derived.OwnWalk
import Derived.Deep.QuietTactic
import Derived.BigQuiet
import Derived.Lib.Hide
import Derived.Laws.CopyOwn
import Derived.IntWalk
import Derived.Lib.Overlaps
import Derived.Lib.AppendZerosOnto
import Derived.Deep.RegionLaw
import Derived.Deep.Quiet
import Derived.Orders
import Derived.Lib.SplitLaws
import Derived.Lib.LastIndexByte
import Derived.Lib.Strings
import Derived.ShutString
import Derived.Sort.Walk0
import Derived.Sort.KeysCollected
import Derived.Shelf.Strings.Search1
import Derived.Shelf.Strings.Search2
import Derived.Shelf.Strings.Search3
import Derived.Shelf.Strings.Cut
import Derived.Shelf.Strings.Count
import Derived.Shelf.LaysM
import Derived.Shelf.Strings.Shaped
import Derived.Shelf.Strings.LastIndex
import Derived.Shelf.Strings.Split
import Derived.Shelf.Strings.SplitShaped
import Derived.Shelf.Unicode.Decode
import Derived.Shelf.Strings.RuneCount
import Derived.Shelf.Strings.Explode
import Derived.Shelf.Unicode.DecodeSlow
import Derived.Test.YtcgclpcocdappaaGreatDoorProg
import Derived.Laws.BytesString
import Derived.Laws.IdiomStrings
import Derived.Lib.ConvBytes
import Derived.Deep.MidRow
import Derived.Test.YtcgclpcocdappaaGreatDoorJ0
import Derived.Test.YtcgclpcocdappaaGreatDoorJbkv1
import Derived.Test.YtcgclpcocdappaaGreatDoorJbkv2
import Derived.Test.YtcgclpcocdappaaGreatDoorJbkv3
import Derived.Test.YtcgclpcocdappaaGreatDoorJbkv4
import Derived.Test.YtcgclpcocdappaaGreatDoorJbkv5
import Derived.Test.YtcgclpcocdappaaGreatDoorJbkv6
import Derived.Test.YtcgclpcocdappaaGreatDoorJbkv7
import Derived.Test.YtcgclpcocdappaaGreatDoorJbkv8
import Derived.Test.YtcgclpcocdappaaGreatDoorJbkv14
import Derived.Test.YtcgclpcocdappaaGreatDoorJbkv27
import Derived.Test.YtcgclpcocdappaaGreatDoorJbk2
import Derived.Test.YtcgclpcocdappaaGreatDoorJkv1
import Derived.Test.YtcgclpcocdappaaGreatDoorJkv2
namespace Go.Proofs.YtcgclpcocdappaaGreatDoor
open Go.RowKit
theorem Tryz.insTx_info:(Tryz.prog.info? 9).map (fun i=>(i.zero,i.size,i.bytes))=some (some (.string ByteArray.empty),1,16):=by kernel_rfl
theorem Tryz.insTx_size:(Tryz.prog.info? 9).map (·.size)=some 1:=by kernel_rfl
theorem Tryz.insTx_ov:Tryz.prog.funcs[167]?=some Tryz.f167:=by kernel_rfl
section
variable (news:Array Value) (hnl:news.size=1) (h1n:∀ u∈news.toList,u.oneCell'=true) (xs:List Value) (h1x:∀ u∈xs,u.oneCell'=true) (vb:Nat) (T:TypeId) (base n i:Nat)
set_option maxRecDepth 100000 in
include hnl h1n h1x in
theorem insTx_shift (g c0:Nat) (w:World) (cur:List Value) (hlt:i<n) (hroom:n+1≤c0) (hcm:c0≤maxLen) (hg:w.heap[g]?=some (.cells cur.toArray 9 (0,0))) (hcl:cur.length=c0) (hxs:cur.take (n)=xs) (hbg:base≤g) (hv:Blk w vb T news) (hne:g≠vb) :
  Calls Tryz.prog 98 #[.slice (some ⟨g,0,none⟩) n c0,.int .i64 i,.slice (some ⟨vb,0,none⟩) 1 1] w fun e w' =>
   ∃ v,e=.returned v∧w'.ownsRow base 9 1 v (n+1) (xs.take (i)++news.toList++xs.drop (i))∧w.grownBy w' (some g):=by
 have hxl:xs.length=n:=by rw [← hxs,List.length_take,hcl];omega
 have hsb:=shape_of hg
 have hsa:=shape_of hv
 have HX2:=Lib.hid (show ∀ (j:Nat) (u:Value),(xs.drop (i))[j]?=some u→w.cell? ((⟨g,i,none⟩:Addr).add j)=some u from fun j u hj=>by
  rw [List.getElem?_drop] at hj
  have e:(⟨g,i,none⟩:Addr).add j=⟨g,i+j,none⟩:=by unfold Addr.add;split <;> simp_all
  rw [e,Blk.cell (t:=9) hg,← hj,← hxs,List.getElem?_take,if_pos (by have:=(List.getElem?_eq_some_iff.1 hj).1;omega)]
  simp)
 have HV:=Lib.hid (show ∀ (w':World),w.grownBy w' (some g)→∀ (j:Nat) (u:Value),news.toList[j]?=some u→w'.cell? ((⟨vb,0,none⟩:Addr).add j)=some u from fun w' hg' j u hj=>by
  rw [addr_add0,(hv.grown hg' (by intro e;injection e with e;exact hne e.symm)).cell j]
  simpa using hj)
 have hov:∀ lb cb,(callFunc 167 #[.slice (some ⟨vb,0,none⟩) 1 1,.slice (some ⟨g,(i+1),none⟩) lb cb]).run Tryz.prog w=.ok (.value (.bool false)) w:=fun lb cb=>by
  rw [run_callFunc_extern Tryz.insTx_ov (by kernel_rfl) (by kernel_rfl) (by kernel_rfl) (e:=Extern.SlicesOverlaps.overlaps #[48,48] #[4]) (by kernel_rfl),
   Lib.run_overlaps_apart w 48 4 9 Tryz.underlying48 1 (by intro w;exact Tryz.sizeOf9 w) ⟨vb,0,none⟩ ⟨g,(i+1),none⟩ 1 1 lb cb (fun e=>hne e.symm) T 9 news.size cur.toArray.size hsa hsb (by rw [List.size_toArray,hcl];omega) (hv.frozen 0) (by rw [hnl];exact hv.frozen 1)]
  rfl
 have HG:=Lib.hid hg
 have HXS:=Lib.hid hxs
 have HCL:=Lib.hid hcl
 have HXL:=Lib.hid hxl
 have HN:=Lib.hid hnl
 unfold maxLen at hcm
 have hw1:IntKind.i64.wrap ((i:Int)+1)=(i:Int)+1:=by rw [IntKind.wrap_i64];omega
 have hb1:(0:Int)≤(i:Int)+1:=by omega
 have hin:i≤n:=by omega
 have htn:((i:Int)+1).toNat=i+1:=by omega
 have hb2:¬ (c0=i+1):=by omega
 have hb3:(i:Int)≤(n:Int)+1:=by omega
 have hb4:¬ (c0=i):=by omega
 clear hg hxs hcl hxl hsa hsb hnl hv
 go_enter Tryz.func98,Tryz.ntmps98
 go_wp2_with (simp only [hov])
 go_region_law (refine step_copyK rfl _ _ 48 48 rfl 9 1 Tryz.underlying48 Tryz.insTx_size g (i+1) (n-i) (c0-(i+1)) ⟨g,i,none⟩ (n+1-i) (c0-i) (n-i) (by simp [Act.eval,Act.put]) (by simp [Act.eval,Act.put]) cur 9 HG.out (xs.drop (i)) (by simp only [Nat.min_def];split <;> omega) (by rw [List.length_drop,HXL.out];omega) HX2.out (by rw [List.length_drop,HXL.out,HCL.out];omega) (fun u hu=>h1x u (List.mem_of_mem_drop hu)) ?_;intro w1 hg1 hgr1)
 have hgr1':=grown_drew hgr1
 obtain ⟨cur1,hc1⟩:∃ cur1,cur1=splice cur (i+1) (xs.drop (i)):=⟨_,rfl⟩
 rw [← hc1] at hg1
 have hl1:cur1.length=c0:=by rw [hc1,length_splice _ _ _ (by rw [List.length_drop,HXL.out,HCL.out];omega)];exact HCL.out
 have HL1:=Lib.hid hl1
 have HC1:=Lib.hid hc1
 have HGR:=Lib.hid hgr1'
 clear hl1 hc1 hgr1 hgr1' hov hw1 htn
 go_wp2_with (with_reducible refine wpList_copyK rfl (.tmp 80) (.tmp 81) 48 48 rfl 9 1 Tryz.underlying48 Tryz.insTx_size g (i) (n+1-i) (c0-i) ⟨vb,0,none⟩ 1 1 1 rfl rfl cur1 9 hg1.out news.toList (by simp only [Nat.min_def];split <;> omega) (by rw [Array.length_toList,HN.out]) (HV.out w1 HGR.out) (by rw [Array.length_toList,HN.out,HL1.out];omega) h1n ?_;intro w2 hg2 hgr2)
 go_ret
 refine ⟨_,rfl,?_,HGR.out.trans hgr2⟩
 refine own_of_row hg2.out hbg hroom (by unfold maxLen;exact hcm) ?_ ?_
 ·rw [length_splice _ _ _ (by rw [Array.length_toList,HN.out,HL1.out];omega),Nat.mul_one];exact HL1.out
 ·rw [HC1.out,Nat.mul_one]
  exact take_shift HXS.out (by omega) (by rw [Array.length_toList,HN.out]) (by rw [HCL.out];omega)
set_option maxRecDepth 100000 in
include hnl h1n h1x in
theorem insTx_grow (g:Nat) (w:World) (cur:List Value) (hlt:i<n) (hn:n≤5000000000000) (hg:w.heap[g]?=some (.cells cur.toArray 9 (0,0))) (hcl:cur.length=n) (hxs:cur.take (n)=xs) (hb:base≤w.heap.size) (hv:Blk w vb T news) :
  Calls Tryz.prog 98 #[.slice (some ⟨g,0,none⟩) n n,.int .i64 i,.slice (some ⟨vb,0,none⟩) 1 1] w fun e w' =>
   ∃ v,e=.returned v∧w'.ownsRow base 9 1 v (n+1) (xs.take (i)++news.toList++xs.drop (i))∧w.grownBy w' none:=by
 obtain ⟨i0,hi0,hz0,hzs,hzb⟩:=info_parts Tryz.insTx_info
 have hxl:xs.length=n:=by rw [← hxs,List.length_take,hcl];omega
 have hgl:=heap_lt hg
 have hvl:=hv.lt
 have hold:(Builtin.firstCells i0.size i (.slice (some ⟨g,0,none⟩) i n)).run Tryz.prog w.drew=.ok (xs.take (i)).toArray w.drew:=by
  rw [hzs]
  exact run_firstCells_some w.drew 1 i ⟨g,0,none⟩ i n (xs.take (i)) (by rw [List.length_take,hxl];omega) (fun j v hj=>by
   rw [addr_add0]
   rw [List.getElem?_take] at hj
   split at hj
   ·have:(w.drew).cell? ⟨g,j,none⟩=cur.toArray[j]?:=Blk.cell (t:=9) hg j
    rw [this,← hj,← hxs,List.getElem?_take,if_pos (by omega)]
    simp
   ·cases hj)
 have hkk:(n:Int)+1-(i:Int)=((n+1-i:Nat):Int):=by omega
 have hik:i+(n+1-i)=n+1:=by omega
 have hrz:∀ ty,(Builtin.append_ #[48,3] ty #[.slice (some ⟨g,0,none⟩) i n,.int .i64 ((n:Int)+1-(i:Int))]).run Tryz.prog w =
   .ok (.slice (some ⟨w.heap.size,0,none⟩) (n+1) (grownCap w (n+1) n 9)) (w.drew.alloc (.cells ((xs.take (i)).toArray++Builtin.zeroCells (Value.cells (.string ByteArray.empty)) (n+1-i)++Builtin.zeroCells (Value.cells (.string ByteArray.empty)) (grownCap w (n+1) n 9-(n+1))) 9)):=fun ty=>by
  have h:=Lib.run_append_grow_zeros w 48 3 ty 9 i0 _ .i64 .i64 Tryz.underlying48 Tryz.underlying3 hi0 hz0 (some ⟨g,0,none⟩) i n (xs.take (i)) hold (n+1-i) (by omega) (by rw [hzs];omega) (by omega) (by omega) (by rw [hzb];omega) (by rw [hzb,hik];exact growslice_fits (by omega) (by omega))
  rw [hik] at h
  rw [hkk]
  exact h
 obtain ⟨G,hG⟩:∃ G,G=grownCap w (n+1) n 9:=⟨_,rfl⟩
 have hGn:n+1≤G:=by rw [hG];exact grownCap_ge w _ _ _
 have hGm:G≤maxLen:=by rw [hG];exact grownCap_le_maxLen w (n+1) n 9 (by unfold maxLen;omega)
 obtain ⟨ROW,hROW⟩:∃ ROW:List Value,ROW=xs.take (i)++((Builtin.zeroCells (Value.cells (.string ByteArray.empty)) (n+1-i)).toList++(Builtin.zeroCells (Value.cells (.string ByteArray.empty)) (G-(n+1))).toList):=⟨_,rfl⟩
 have hRA:(xs.take (i)).toArray++Builtin.zeroCells (Value.cells (.string ByteArray.empty)) (n+1-i)++Builtin.zeroCells (Value.cells (.string ByteArray.empty)) (G-(n+1))=ROW.toArray:=by
  rw [hROW]
  apply Array.toList_inj.1
  simp
 rw [← hG,hRA] at hrz
 have hRl:ROW.length=G:=by
  rw [hROW]
  simp [Builtin.zeroCells,Value.cells,hxl]
  omega
 have hRt:ROW.take (i)=xs.take (i):=by
  rw [hROW,List.take_append_of_le_length (by rw [List.length_take,hxl];omega),List.take_take,Nat.min_self]
 obtain ⟨W1,hW1⟩:∃ W1,W1=w.drew.alloc (.cells ROW.toArray 9):=⟨_,rfl⟩
 rw [← hW1] at hrz
 have hrow:W1.heap[w.heap.size]?=some (.cells ROW.toArray 9 (0,0)):=by rw [hW1];exact heap_alloc_new w.drew _
 have hgr0:w.grownBy W1 none:=by
  rw [hW1]
  exact ⟨rfl,rfl,rfl,by simp,fun k hk _=>Below.heap_alloc w.drew _ k hk⟩
 have HX2:=Lib.hid (show ∀ (W:World),W.heap[g]?=w.heap[g]?→∀ (j:Nat) (u:Value),(xs.drop (i))[j]?=some u→W.cell? ((⟨g,i,none⟩:Addr).add j)=some u from fun W hW j u hj=>by
  rw [List.getElem?_drop] at hj
  have e:(⟨g,i,none⟩:Addr).add j=⟨g,i+j,none⟩:=by unfold Addr.add;split <;> simp_all
  rw [e,Blk.cell (w:=W) (t:=9) (hW.trans hg),← hj,← hxs,List.getElem?_take,if_pos (by have:=(List.getElem?_eq_some_iff.1 hj).1;omega)]
  simp)
 have HV:=Lib.hid (show ∀ (w':World),w.grownBy w' none→∀ (j:Nat) (u:Value),news.toList[j]?=some u→w'.cell? ((⟨vb,0,none⟩:Addr).add j)=some u from fun w' hg' j u hj=>by
  rw [addr_add0,(hv.grown hg' (by simp)).cell j]
  simpa using hj)
 have HXS:=Lib.hid hxs
 have HCL:=Lib.hid hcl
 have HXL:=Lib.hid hxl
 have HN:=Lib.hid hnl
 have HROW:=Lib.hid hrow
 have HRL:=Lib.hid hRl
 have HRT:=Lib.hid hRt
 have HGR0:=Lib.hid hgr0
 unfold maxLen at hGm
 have hw1:IntKind.i64.wrap ((i:Int)+1)=(i:Int)+1:=by rw [IntKind.wrap_i64];omega
 have hb1:(0:Int)≤(i:Int)+1:=by omega
 have hin:i≤n:=by omega
 have htn:((i:Int)+1).toNat=i+1:=by omega
 have hb3:(i:Int)≤(n:Int):=by omega
 have hGi:¬ (G=i):=by omega
 have hGim:¬ (G=i+1):=by omega
 have hci:¬ (n=i):=by omega
 clear hg hxs hcl hxl hnl hv hold hkk hik hG hRA hROW hRl hRt hrow hgr0 hW1 hi0 hz0 hzs hzb
 go_enter Tryz.func98,Tryz.ntmps98
 go_wp2_with (first
  | (at_builtin;refine Lib.wpList_append_run _ rfl _ _ _ _ rfl _ _ rfl rfl _ _ (hrz _) ?_)
  | (with_reducible refine wpList_copyK rfl (.tmp 43) (.tmp 44) 48 48 rfl 9 1 Tryz.underlying48 Tryz.insTx_size w.heap.size (i) (n+1-i) (G-i) ⟨vb,0,none⟩ 1 1 1 rfl rfl ROW 9 HROW.out news.toList (by simp only [Nat.min_def];split <;> omega) (by rw [Array.length_toList,HN.out]) (HV.out W1 HGR0.out) (by rw [Array.length_toList,HN.out,HRL.out];omega) h1n ?_;intro w1 hg1 hgr1))
 clear hrz
 have hgr1':=grown_fresh HGR0.out hgr1 (Nat.le_refl _)
 obtain ⟨row1,hr1⟩:∃ row1,row1=splice ROW (i) news.toList:=⟨_,rfl⟩
 rw [← hr1] at hg1
 have hl1:row1.length=G:=by rw [hr1,length_splice _ _ _ (by rw [Array.length_toList,HN.out,HRL.out];omega)];exact HRL.out
 have HL1:=Lib.hid hl1
 have HR1:=Lib.hid hr1
 have HGR:=Lib.hid hgr1'
 clear hl1 hr1 hgr1 hgr1'
 go_region_law (refine step_copyK rfl _ _ 48 48 rfl 9 1 Tryz.underlying48 Tryz.insTx_size w.heap.size (i+1) (n-i) (G-(i+1)) ⟨g,i,none⟩ (n-i) (n-i) (n-i) (by simp [Act.eval,Act.put]) (by simp [Act.eval,Act.put]) row1 9 hg1.out (xs.drop (i)) (by simp only [Nat.min_def];split <;> omega) (by rw [List.length_drop,HXL.out];omega) (HX2.out w1.drew (HGR.out.block g hgl (by simp))) (by rw [List.length_drop,HXL.out,HL1.out];omega) (fun u hu=>h1x u (List.mem_of_mem_drop hu)) ?_;intro w2 hg2 hgr2)
 go_wp2_with fail
 go_ret
 refine ⟨_,rfl,?_,grown_fresh HGR.out (grown_drew hgr2) (Nat.le_refl _)⟩
 refine own_of_row hg2.out hb hGn (by unfold maxLen;exact hGm) ?_ ?_
 ·rw [length_splice _ _ _ (by rw [List.length_drop,HXL.out,HL1.out];omega),Nat.mul_one];exact HL1.out
 ·rw [HR1.out,Nat.mul_one,show (n+1)=i+1+(n-i) by omega]
  exact take_grow HRT.out (by rw [List.length_take,HXL.out];omega) (by rw [Array.length_toList,HN.out]) (by rw [List.length_drop,HXL.out])
set_option maxRecDepth 100000 in
include hnl h1n in
theorem insTx_end (A0:Option Addr) (c0:Nat) (w:World) (hown:w.ownsRow base 9 1 (.slice A0 n c0) n xs) (hb:base≤w.heap.size) (hn:n≤5000000000000) (hv:Blk w vb T news) :
  Calls Tryz.prog 98 #[.slice A0 n c0,.int .i64 n,.slice (some ⟨vb,0,none⟩) 1 1] w fun e w' =>
   ∃ v,e=.returned v∧w'.ownsRow base 9 1 v (n+1) (xs++news.toList)∧w.grownBy w' (Value.slice A0 n c0).ownBlock:=by
 obtain ⟨i0,hi0,hz0,hz1,hz2⟩:=info_parts Tryz.insTx_info
 obtain ⟨hc,hm,_⟩:=own_reads hown
 unfold maxLen at hm
 have HN:=Lib.hid hnl
 have HNEW:=Lib.hid (show ∀ (j:Nat) (u:Value),news.toList[j]?=some u→w.cell? ((⟨vb,0,none⟩:Addr).add j)=some u from fun j u hj=>by rw [addr_add0,hv.cell j];simpa using hj)
 clear hnl hv
 by_cases hcn:c0=n
 ·subst hcn
  go_enter Tryz.func98,Tryz.ntmps98
  go_wp2_with (at_builtin;refine wpList_append_own _ rfl _ _ 48 rfl base 9 i0 (.string ByteArray.empty) 1 16 Tryz.underlying48 hi0 hz0 hz1 hz2 rfl (by decide) (.slice A0 c0 c0) c0 xs rfl hown ⟨vb,0,none⟩ 1 1 news.toList rfl (by rw [Array.length_toList,HN.out]) HNEW.out h1n (by unfold maxLen;omega) (by omega) hb ?_)
  intro v1 w1 hown1 hg1 _
  go_wp2_with fail
  go_ret
  exact ⟨v1,rfl,hown1,hg1⟩
 ·go_enter Tryz.func98,Tryz.ntmps98
  go_wp2_with (at_builtin;refine wpList_append_own _ rfl _ _ 48 rfl base 9 i0 (.string ByteArray.empty) 1 16 Tryz.underlying48 hi0 hz0 hz1 hz2 rfl (by decide) (.slice A0 n c0) n xs rfl hown ⟨vb,0,none⟩ 1 1 news.toList rfl (by rw [Array.length_toList,HN.out]) HNEW.out h1n (by unfold maxLen;omega) (by omega) hb ?_)
  intro v1 w1 hown1 hg1 _
  go_wp2_with fail
  go_ret
  exact ⟨v1,rfl,hown1,hg1⟩
include hnl h1n h1x in
/-- one element put in at a place -/
theorem insTx_any (A0:Option Addr) (c0:Nat) (w:World) (hi:i≤n) (hown:w.ownsRow base 9 1 (.slice A0 n c0) n xs) (hb:base≤w.heap.size) (hn:n≤5000000000000) (hv:Blk w vb T news) (hne:(Value.slice A0 n c0).ownBlock≠some vb) :
  Calls Tryz.prog 98 #[.slice A0 n c0,.int .i64 i,.slice (some ⟨vb,0,none⟩) 1 1] w fun e w' =>
   ∃ v,e=.returned v∧w'.ownsRow base 9 1 v (n+1) (xs.take (i)++news.toList++xs.drop (i))∧w.grownBy w' (Value.slice A0 n c0).ownBlock:=by
 by_cases hin:i=n
 ·subst hin
  rw [List.take_of_length_le (by rw [hown.1];omega),List.drop_eq_nil_of_le (by rw [hown.1];omega),List.append_nil]
  exact insTx_end news hnl h1n xs vb T base i A0 c0 w hown hb hn hv
 ·rcases hown.2 with ⟨_,h0⟩ | ⟨g,cap,cur,hs,hbg,hh,hnc,hcm,hsz,hx⟩
  ·omega
  ·injection hs with e1 _ e2
   subst e1 e2
   by_cases hroom:n+1≤c0
   ·exact (insTx_shift news hnl h1n xs h1x vb T base n i g c0 w cur.toList (by omega) hroom hcm (by simpa using hh) (by simpa using hsz) (by simpa using hx) hbg hv (fun e=>hne (by rw [e];rfl))).mono (fun e w' h=>h)
   ·obtain rfl:c0=n:=by omega
    refine (insTx_grow news hnl h1n xs h1x vb T base c0 i g w cur.toList (by omega) hn (by simpa using hh) (by simpa using hsz) (by simpa using hx) hb hv).mono ?_
    rintro e w' ⟨v,h1,h2,h3⟩
    exact ⟨v,h1,h2,⟨h3.os,h3.tape,h3.output,h3.size,fun k hk _=>h3.block k hk (by simp)⟩⟩
end
end Go.Proofs.YtcgclpcocdappaaGreatDoor
namespace Go.Proofs.YtcgclpcocdappaaGreatDoor
open Go.RowKit
theorem tenE_in (t:TenR):tenE t=0∨tenE t=9:=by unfold tenE;split <;> simp
/-- a set's place, and its error -/
def placeP (t:TenR) (p:BS):Int×Int :=
 if askP t p≠0 then (0,askP t p) else
  match t.sets.l.find? (fun s=>s.path == p) with
  | none=>(0,71)
  | some _=>(findS t.sets.l p,0)
set_option maxRecDepth 100000 in
set_option maxHeartbeats 4000000 in
theorem shAsked_any (t:TenR) (p:BS) (w:World) (B:Nat) (hB:B≤w.heap.size) (hr:t.rd w B) (hz:t.sz) (hp:p.length≤4000000000) (hmx:HasMax w) :
  Calls Tryz.prog 164 #[t.val,.string ⟨p.toArray⟩] w fun e w'=>e=.returned (.int .i64 (askP t p))∧Below w.heap.size w w':=by
 have h2:=tenE_in t
 obtain ⟨nm,qu,nx,⟨s1,sn,s3,sl⟩,⟨g1,gn,g3,gl⟩,⟨t1,tn,t3,tl⟩,⟨l1,ln,l3,ll⟩⟩:=t
 show Calls Tryz.prog 164 #[.agg #[.string ⟨nm.toArray⟩,.int .i64 qu,.int .i64 nx,.slice s1 sn s3,.slice g1 gn g3,.slice t1 tn t3,.slice l1 ln l3],.string ⟨p.toArray⟩] w _
 have hb1:=(Below.refl w.heap.size w).alloc (Nat.le_refl _) (.cells #[.string ⟨nm.toArray⟩,.int .i64 qu,.int .i64 nx,.slice s1 sn s3,.slice g1 gn g3,.slice t1 tn t3,.slice l1 ln l3] 27)
 obtain ⟨W1,hW1⟩:∃ W,W=w.alloc (.cells #[.string ⟨nm.toArray⟩,.int .i64 qu,.int .i64 nx,.slice s1 sn s3,.slice g1 gn g3,.slice t1 tn t3,.slice l1 ln l3] 27):=⟨_,rfl⟩
 have hsz1:W1.heap.size=w.heap.size+1:=by rw [hW1];simp
 rw [← hW1] at hb1
 have hc:Calls Tryz.prog 58 #[.agg #[.string ⟨nm.toArray⟩,.int .i64 qu,.int .i64 nx,.slice s1 sn s3,.slice g1 gn g3,.slice t1 tn t3,.slice l1 ln l3]] W1 fun e w'=>e=.returned (.int .i64 (tenE ⟨nm,qu,nx,⟨s1,sn,s3,sl⟩,⟨g1,gn,g3,gl⟩,⟨t1,tn,t3,tl⟩,⟨l1,ln,l3,ll⟩⟩))∧Below W1.heap.size W1 w' :=
  tcheck_any ⟨nm,qu,nx,⟨s1,sn,s3,sl⟩,⟨g1,gn,g3,gl⟩,⟨t1,tn,t3,tl⟩,⟨l1,ln,l3,ll⟩⟩ W1 B (TenR.rd.below hr (hb1.mono hB)) (by omega) hz (hmx.below hb1)
 have hPA:Hid (∀ W,Below W1.heap.size W1 W→Calls Tryz.prog 80 #[.string ⟨p.toArray⟩] W fun e w'=>e=.returned (.bool (pathB p))∧Below W.heap.size W w'):=fun W hb=>path_any ⟨p.toArray⟩ W (by simpa [ByteArray.size] using hp) (hmx.below (hb1.trans (hb.mono (by omega))))
 obtain ⟨E,hE⟩:∃ E,E=tenE ⟨nm,qu,nx,⟨s1,sn,s3,sl⟩,⟨g1,gn,g3,gl⟩,⟨t1,tn,t3,tl⟩,⟨l1,ln,l3,ll⟩⟩:=⟨_,rfl⟩
 have HV:Hid (askP ⟨nm,qu,nx,⟨s1,sn,s3,sl⟩,⟨g1,gn,g3,gl⟩,⟨t1,tn,t3,tl⟩,⟨l1,ln,l3,ll⟩⟩ p=if E=9 then 9 else if pathB p=false then 31 else 0):=by show _=_;rw [hE];rfl
 rw [← hE] at h2 hc
 obtain ⟨bp,hbp⟩:∃ b,b=pathB p:=⟨_,rfl⟩
 rw [← hbp] at hPA HV
 have HB1:=Lib.hid hb1
 have HSZ1:=Lib.hid hsz1
 clear hb1 hr hz hsz1 hmx hE hbp
 go_enter Tryz.func164,Tryz.ntmps164
 go_wp2_with fail
 rw [← hW1]
 clear hW1
 refine hc.mono ?_
 clear hc
 rintro e w2 ⟨rfl,hb2⟩
 have HW2:=Lib.hid hb2
 clear hb2
 rcases h2 with rfl | rfl
 ·have hc:=hPA.out w2 HW2.out
  clear hPA
  go_wp2_with fail
  refine hc.mono ?_
  clear hc
  rintro e w3 ⟨rfl,hb3⟩
  have HW3:=Lib.hid (HW2.out.trans (hb3.mono HW2.out.size))
  clear hb3 HW2
  cases bp with
  | false =>
   go_wp2_with fail
   exact bodyPost_ret (v:=.int .i64 31) (by simp [results,Tryz.results164,go_sem]) rfl ⟨by rw [HV.out];rfl,HB1.out.trans (HW3.out.mono (by have:=HSZ1.out;omega))⟩
  | true =>
   go_wp2_with fail
   exact bodyPost_ret (v:=.int .i64 0) (by simp [results,Tryz.results164,go_sem]) rfl ⟨by rw [HV.out];rfl,HB1.out.trans (HW3.out.mono (by have:=HSZ1.out;omega))⟩
 ·go_wp2_with fail
  exact bodyPost_ret (v:=.int .i64 9) (by simp [results,Tryz.results164,go_sem]) rfl ⟨by rw [HV.out];rfl,HB1.out.trans (HW2.out.mono (by have:=HSZ1.out;omega))⟩
set_option maxRecDepth 100000 in
set_option maxHeartbeats 4000000 in
theorem place_any (t:TenR) (p:BS) (w:World) (B:Nat) (hB:B≤w.heap.size) (hr:t.rd w B) (hz:t.sz) (hp:p.length≤4000000000) (hmx:HasMax w) :
  Calls Tryz.prog 100 #[t.val,.string ⟨p.toArray⟩] w fun e w'=>e=.returned (.tuple #[.int .i64 (placeP t p).1,.int .i64 (placeP t p).2])∧Below w.heap.size w w':=by
 have h3:=askP_in t p
 obtain ⟨nm,qu,nx,⟨s1,sn,s3,sl⟩,⟨g1,gn,g3,gl⟩,⟨t1,tn,t3,tl⟩,⟨l1,ln,l3,ll⟩⟩:=t
 show Calls Tryz.prog 100 #[.agg #[.string ⟨nm.toArray⟩,.int .i64 qu,.int .i64 nx,.slice s1 sn s3,.slice g1 gn g3,.slice t1 tn t3,.slice l1 ln l3],.string ⟨p.toArray⟩] w _
 have hb1:=(Below.refl w.heap.size w).alloc (Nat.le_refl _) (.cells #[.string ⟨nm.toArray⟩,.int .i64 qu,.int .i64 nx,.slice s1 sn s3,.slice g1 gn g3,.slice t1 tn t3,.slice l1 ln l3] 27)
 have kT:=Blk.new w 27 #[.string ⟨nm.toArray⟩,.int .i64 qu,.int .i64 nx,.slice s1 sn s3,.slice g1 gn g3,.slice t1 tn t3,.slice l1 ln l3]
 obtain ⟨W1,hW1⟩:∃ W,W=w.alloc (.cells #[.string ⟨nm.toArray⟩,.int .i64 qu,.int .i64 nx,.slice s1 sn s3,.slice g1 gn g3,.slice t1 tn t3,.slice l1 ln l3] 27):=⟨_,rfl⟩
 have hsz1:W1.heap.size=w.heap.size+1:=by rw [hW1];simp
 rw [← hW1] at hb1 kT
 have hT:=Lib.hid (fun (W':World) (hB':Below W1.heap.size W1 W')=>(⟨(kT.below hB' (by omega)).cell 0,(kT.below hB' (by omega)).cell 1,(kT.below hB' (by omega)).cell 2,(kT.below hB' (by omega)).cell 3,(kT.below hB' (by omega)).cell 4,(kT.below hB' (by omega)).cell 5,(kT.below hB' (by omega)).cell 6⟩:W'.cell? ⟨w.heap.size,0,none⟩=some (.string ⟨nm.toArray⟩)∧W'.cell? ⟨w.heap.size,1,none⟩=some (.int .i64 qu)∧W'.cell? ⟨w.heap.size,2,none⟩=some (.int .i64 nx)∧W'.cell? ⟨w.heap.size,3,none⟩=some (.slice s1 sn s3)∧W'.cell? ⟨w.heap.size,4,none⟩=some (.slice g1 gn g3)∧W'.cell? ⟨w.heap.size,5,none⟩=some (.slice t1 tn t3)∧W'.cell? ⟨w.heap.size,6,none⟩=some (.slice l1 ln l3)))
 have HSN:=Lib.hid (show sn=sl.length from hr.sets.1)
 have hc:Calls Tryz.prog 164 #[.agg #[.string ⟨nm.toArray⟩,.int .i64 qu,.int .i64 nx,.slice s1 sn s3,.slice g1 gn g3,.slice t1 tn t3,.slice l1 ln l3],.string ⟨p.toArray⟩] W1 _ :=
  shAsked_any ⟨nm,qu,nx,⟨s1,sn,s3,sl⟩,⟨g1,gn,g3,gl⟩,⟨t1,tn,t3,tl⟩,⟨l1,ln,l3,ll⟩⟩ p W1 B (by omega) (TenR.rd.below hr (hb1.mono hB)) hz hp (hmx.below hb1)
 have hFD:Hid (∀ W,Below W1.heap.size W1 W→Calls Tryz.prog 57 #[.agg #[.string ⟨nm.toArray⟩,.int .i64 qu,.int .i64 nx,.slice s1 sn s3,.slice g1 gn g3,.slice t1 tn t3,.slice l1 ln l3],.string ⟨p.toArray⟩] W fun e w'=>e=.returned (.int .i64 (findS sl p))∧Below W.heap.size W w'):=fun W hb =>
  find_any _ _ _ _ _ _ sl sn HSN.out s1 s3 p W B (TenR.rd.below hr ((hb1.trans (hb.mono (by omega))).mono hB)).sets.2.2 (by have:=hb.size;omega) (by have:=hz.sets;simp only at this;omega)
 obtain ⟨E,hE⟩:∃ E,E=askP ⟨nm,qu,nx,⟨s1,sn,s3,sl⟩,⟨g1,gn,g3,gl⟩,⟨t1,tn,t3,tl⟩,⟨l1,ln,l3,ll⟩⟩ p:=⟨_,rfl⟩
 obtain ⟨V,hV⟩:∃ V,V=placeP ⟨nm,qu,nx,⟨s1,sn,s3,sl⟩,⟨g1,gn,g3,gl⟩,⟨t1,tn,t3,tl⟩,⟨l1,ln,l3,ll⟩⟩ p:=⟨_,rfl⟩
 have HV:Hid (V=if E≠0 then (0,E) else match sl.find? (fun s=>s.path == p) with
  | none=>(0,71)
  | some _=>(findS sl p,0)):=by show _=_;rw [hV,hE];rfl
 rw [← hE] at h3 hc
 rw [← hV]
 have HB1:=Lib.hid hb1
 have HSZ1:=Lib.hid hsz1
 clear hb1 kT hr hz hsz1 hmx hE hV
 go_enter Tryz.func100,Tryz.ntmps100
 go_wp2_with fail
 rw [← hW1]
 clear hW1
 refine hc.mono ?_
 clear hc
 rintro e w2 ⟨rfl,hb2⟩
 have HW2:=Lib.hid hb2
 clear hb2
 rcases h3 with rfl | rfl | rfl
 ·have hc:=hFD.out w2 HW2.out
  obtain ⟨c0,c1,c2,c3,c4,c5,c6⟩:=hT.out _ HW2.out
  clear hFD
  go_wp2_with fail
  refine hc.mono ?_
  clear hc c0 c1 c2 c3 c4 c5 c6
  rintro e w3 ⟨rfl,hb3⟩
  have HW3:=Lib.hid (HW2.out.trans (hb3.mono HW2.out.size))
  clear hb3 HW2
  rcases firstI_cases (fun s:SetR=>s.path == p) sl with ⟨h1,h2⟩ | ⟨k,hkl,h1,h2⟩
  ·have h1:findS sl p=-1:=h1
   have HX:Hid (V=(0,71)):=by show _=_;rw [HV.out];simp only [h2];rfl
   clear HV h2
   rw [h1]
   go_wp2_with fail
   exact bodyPost_ret (v:=.tuple #[.int .i64 0,.int .i64 71]) (by simp [results,Tryz.results100,go_sem]) rfl ⟨by rw [HX.out],HB1.out.trans (HW3.out.mono (by have:=HSZ1.out;omega))⟩
  ·have h1:findS sl p=(k:Int):=h1
   have HX:Hid (V=((k:Int),0)):=by show _=_;rw [HV.out];simp only [h2,h1];rfl
   clear HV h2
   rw [h1]
   have hk0:¬ (k:Int)<0:=by omega
   go_wp2_with fail
   exact bodyPost_ret (v:=.tuple #[.int .i64 (k:Int),.int .i64 0]) (by simp [results,Tryz.results100,go_sem]) rfl ⟨by rw [HX.out],HB1.out.trans (HW3.out.mono (by have:=HSZ1.out;omega))⟩
 ·go_wp2_with fail
  exact bodyPost_ret (v:=.tuple #[.int .i64 0,.int .i64 9]) (by simp [results,Tryz.results100,go_sem]) rfl ⟨by rw [HV.out];rfl,HB1.out.trans (HW2.out.mono (by have:=HSZ1.out;omega))⟩
 ·go_wp2_with fail
  exact bodyPost_ret (v:=.tuple #[.int .i64 0,.int .i64 31]) (by simp [results,Tryz.results100,go_sem]) rfl ⟨by rw [HV.out];rfl,HB1.out.trans (HW2.out.mono (by have:=HSZ1.out;omega))⟩
end Go.Proofs.YtcgclpcocdappaaGreatDoor
namespace Go.Proofs.YtcgclpcocdappaaGreatDoor
open Go.RowKit
set_option maxRecDepth 100000 in
set_option maxHeartbeats 2000000 in
theorem stagedC_any (x:StageR) (p0:Addr) (q:BS) (w:World) (hc:w.cell? p0=some (.string ⟨q.toArray⟩)) (hlt:p0.block<w.heap.size) :
  Calls Tryz.prog 102 (#[.agg (encStage x).toArray]++#[.pointer (some p0)]) w fun e w'=>e=.returned (.bool (x.into == q))∧Below w.heap.size w w':=by
 obtain ⟨into,kind,nm,frm,gd,⟨o1,on,o3,ol⟩,ix,ct,dt,⟨sa,sb,sc,sd⟩,⟨b1,bn,b3,bl⟩,at_,nx,⟨ua,ub,uc,ud⟩,done⟩:=x
 show Calls Tryz.prog 102 #[.agg #[.string ⟨into.toArray⟩,.int .i64 kind,.string ⟨nm.toArray⟩,.int .i64 frm,.int .i64 gd,.slice o1 on o3,.int .i64 ix,.int .i64 ct,.string ⟨dt.toArray⟩,.int .u64 sa,.int .u64 sb,.int .u64 sc,.int .u64 sd,.slice b1 bn b3,.int .i64 at_,.int .i64 nx,.int .u64 ua,.int .u64 ub,.int .u64 uc,.int .u64 ud,.bool done],.pointer (some p0)] w _
 have hb1:=(Below.refl w.heap.size w).alloc (Nat.le_refl _) (.cells #[.string ⟨into.toArray⟩,.int .i64 kind,.string ⟨nm.toArray⟩,.int .i64 frm,.int .i64 gd,.slice o1 on o3,.int .i64 ix,.int .i64 ct,.string ⟨dt.toArray⟩,.int .u64 sa,.int .u64 sb,.int .u64 sc,.int .u64 sd,.slice b1 bn b3,.int .i64 at_,.int .i64 nx,.int .u64 ua,.int .u64 ub,.int .u64 uc,.int .u64 ud,.bool done] 103)
 have k1:=Blk.new w 103 #[.string ⟨into.toArray⟩,.int .i64 kind,.string ⟨nm.toArray⟩,.int .i64 frm,.int .i64 gd,.slice o1 on o3,.int .i64 ix,.int .i64 ct,.string ⟨dt.toArray⟩,.int .u64 sa,.int .u64 sb,.int .u64 sc,.int .u64 sd,.slice b1 bn b3,.int .i64 at_,.int .i64 nx,.int .u64 ua,.int .u64 ub,.int .u64 uc,.int .u64 ud,.bool done]
 have hc1:=(hb1.cell hlt).trans hc
 have e0:=k1.cell 0
 simp only [zF,zE] at e0
 obtain ⟨W1,hW1⟩:∃ W,W=w.alloc (.cells #[.string ⟨into.toArray⟩,.int .i64 kind,.string ⟨nm.toArray⟩,.int .i64 frm,.int .i64 gd,.slice o1 on o3,.int .i64 ix,.int .i64 ct,.string ⟨dt.toArray⟩,.int .u64 sa,.int .u64 sb,.int .u64 sc,.int .u64 sd,.slice b1 bn b3,.int .i64 at_,.int .i64 nx,.int .u64 ua,.int .u64 ub,.int .u64 uc,.int .u64 ud,.bool done] 103):=⟨_,rfl⟩
 rw [← hW1] at hb1 hc1 e0
 have HB1:=Lib.hid hb1
 clear hb1 k1 hc
 go_enter Tryz.func102,Tryz.ntmps102
 go_wp2_with (rw [← hW1];clear hW1)
 by_cases h:into=q
 ·subst h
  have h1:(into == into)=true:=by simp
  go_wp2_with fail
  go_ret
  exact ⟨by simp [go_sem],HB1.out⟩
 ·have h1:(into == q)=false:=by simpa using h
  go_wp2_with fail
  go_ret
  exact ⟨by simp [go_sem,h1],HB1.out⟩
set_option maxRecDepth 100000 in
set_option maxHeartbeats 2000000 in
theorem stagedI_any (l:List StageR) (n:Nat) (hnl:n=l.length) (A:Option Addr) (c:Nat) (p0:Addr) (q:BS) (w:World) (B:Nat) (hr:Reads w B 21 A n (cellsK encStage l)) (hB:B≤w.heap.size) (hn:n≤5000000000000) (hc:w.cell? p0=some (.string ⟨q.toArray⟩)) (hlt:p0.block<w.heap.size) :
  Calls Tryz.prog 169 #[.slice A n c,.func (.func 102) #[] #[.pointer (some p0)]] w fun e w'=>e=.returned (.int .i64 (firstI (fun x:StageR=>x.into == q) l))∧Below w.heap.size w w':=by
 have HN:=Lib.hid hnl
 have HCL:Hid (∀ (x:StageR) W,Below w.heap.size w W→Calls Tryz.prog 102 (#[.agg (encStage x).toArray]++#[.pointer (some p0)]) W fun e w'=>e=.returned (.bool (x.into == q))∧Below W.heap.size W w'):=fun x W h =>
  stagedC_any x p0 q W ((h.cell hlt).trans hc) (Nat.lt_of_lt_of_le hlt h.size)
 clear hnl hc
 go_enter Tryz.func169,Tryz.ntmps169
 go_wp2_with fail
 go_loopw [8] (fun j wr=>∃ k:Nat,k≤n∧j=.int .i64 (k:Int)∧Hid (∀ y∈l.take k,(y.into == q)=false)∧Below w.heap.size w wr) (fun j _=>n-(intOf j).toNat)
 case atStart=>exact ⟨0,Nat.zero_le _,rfl,(show ∀ y∈_,_ by simp),Below.refl _ _⟩
 case round =>
  obtain ⟨k,hk,rfl,hno,hbw⟩:=hrel
  by_cases hlt2:k<n
  ·have hki:(k:Int)<(n:Int):=by omega
   have hkl:k<l.length:=by have:=HN.out;omega
   obtain ⟨ad,rfl,_,hel⟩:=Reads.elK (k:=21) (enc:=encStage) (fun _=>rfl) (hr.below (hbw.mono hB)) HN.out hlt2
   have hel2:∀ j v,(encStage (l[k]'hkl))[j]?=some v→wr.cell? ((ad.add (k*21)).add j)=some v:=fun j v hv=>by
    rw [hel j (by have:=(List.getElem?_eq_some_iff.1 hv).1;simpa [encStage,smV] using this)]
    exact hv
   obtain ⟨x,hx⟩:∃ x,x=l[k]'hkl:=⟨_,rfl⟩
   rw [← hx] at hel2
   have htk:=List.take_succ_eq_append_getElem hkl
   rw [← hx] at htk
   have HTK:=Lib.hid htk
   have HX:=Lib.hid (show l[k]?=some x by rw [hx];exact List.getElem?_eq_getElem _)
   have hc:=HCL.out x wr hbw
   obtain ⟨b,hb⟩:∃ b,b=(x.into == q):=⟨_,rfl⟩
   rw [← hb] at hc
   have HBX:=Lib.hid hb
   obtain ⟨into,kind,nm,frm,gd,⟨o1,on,o3,ol⟩,ix,ct,dt,⟨sa,sb,sc,sd⟩,⟨b1,bn,b3,bl⟩,at_,nx,⟨ua,ub,uc,ud⟩,done⟩:=x
   have HEL:Hid (∀ j v,([.string ⟨into.toArray⟩,.int .i64 kind,.string ⟨nm.toArray⟩,.int .i64 frm,.int .i64 gd,.slice o1 on o3,.int .i64 ix,.int .i64 ct,.string ⟨dt.toArray⟩,.int .u64 sa,.int .u64 sb,.int .u64 sc,.int .u64 sd,.slice b1 bn b3,.int .i64 at_,.int .i64 nx,.int .u64 ua,.int .u64 ub,.int .u64 uc,.int .u64 ud,.bool done]:List Value)[j]?=some v→wr.cell? ((ad.add (k*21)).add j)=some v):=hel2
   have hc:Calls Tryz.prog 102 #[.agg #[.string ⟨into.toArray⟩,.int .i64 kind,.string ⟨nm.toArray⟩,.int .i64 frm,.int .i64 gd,.slice o1 on o3,.int .i64 ix,.int .i64 ct,.string ⟨dt.toArray⟩,.int .u64 sa,.int .u64 sb,.int .u64 sc,.int .u64 sd,.slice b1 bn b3,.int .i64 at_,.int .i64 nx,.int .u64 ua,.int .u64 ub,.int .u64 uc,.int .u64 ud,.bool done],.pointer (some p0)] wr fun e w'=>e=.returned (.bool b)∧Below wr.heap.size wr w':=hc
   clear hx htk hr hb hel hel2
   go_wp2_with (refine wpList_load_at rfl 103 (.tmp 14) rfl (ad.add (k*21)) rfl [.string ⟨into.toArray⟩,.int .i64 kind,.string ⟨nm.toArray⟩,.int .i64 frm,.int .i64 gd,.slice o1 on o3,.int .i64 ix,.int .i64 ct,.string ⟨dt.toArray⟩,.int .u64 sa,.int .u64 sb,.int .u64 sc,.int .u64 sd,.slice b1 bn b3,.int .i64 at_,.int .i64 nx,.int .u64 ua,.int .u64 ub,.int .u64 uc,.int .u64 ud,.bool done] _ HEL.out Tryz.underlying103 rfl (by kernel_rfl) ?_)
   refine hc.mono ?_
   clear hc
   rintro e w1 ⟨rfl,hb1⟩
   have hbw1:=hbw.trans (hb1.mono hbw.size)
   cases b with
   | true =>
    go_wp2_with fail
    go_ret
    have hf:=firstP_eq (fun x:StageR=>x.into == q) l k _ hno.out HX.out HBX.out.symm
    exact ⟨by unfold firstI;rw [hf,if_pos hkl];rfl,hbw1⟩
   | false =>
    go_wp2_with fail
    go_roundw
    case rel =>
     refine ⟨k+1,by omega,by go_num,?_,hbw1⟩
     show ∀ y∈l.take (k+1),(y.into == q)=false
     intro y hy
     rw [HTK.out] at hy
     rcases List.mem_append.1 hy with hy | hy
     ·exact hno.out y hy
     ·simp at hy;subst hy;exact HBX.out.symm
    case measure=>simp [intOf];omega
  ·have hkn:k=n:=by omega
   have HF:Hid (firstI (fun x:StageR=>x.into == q) l=-1):=by
    show _=_
    unfold firstI
    rw [firstP_none _ l (fun y hy=>hno.out y (by rw [List.take_of_length_le (by rw [hkn,HN.out];exact Nat.le_refl _)];exact hy)),if_neg (Nat.lt_irrefl _)]
   clear hr hkn
   go_wp2_with fail
   go_ret
   exact ⟨by rw [HF.out];rfl,hbw⟩
set_option maxRecDepth 100000 in
set_option maxHeartbeats 1000000 in
theorem staged_any (l:List StageR) (n:Nat) (hnl:n=l.length) (A:Option Addr) (c:Nat) (p0:Addr) (q:BS) (w:World) (B:Nat) (hr:Reads w B 21 A n (cellsK encStage l)) (hB:B≤w.heap.size) (hn:n≤5000000000000) (hc:w.cell? p0=some (.string ⟨q.toArray⟩)) (hlt:p0.block<w.heap.size) :
  Calls Tryz.prog 101 #[.slice A n c,.func (.func 102) #[] #[.pointer (some p0)]] w fun e w'=>e=.returned (.bool (l.any fun x=>x.into == q))∧Below w.heap.size w w':=by
 have hcl:=Lib.hid (stagedI_any l n hnl A c p0 q w B hr hB hn hc hlt)
 have HA:=Lib.hid (firstI_any (fun x:StageR=>x.into == q) l)
 clear hnl hr hc
 go_enter Tryz.func101,Tryz.ntmps101
 go_wp2_with fail
 refine hcl.out.mono ?_
 rintro e w1 ⟨rfl,hb⟩
 have HB:=Lib.hid hb
 clear hb
 go_wp2_with fail
 go_ret
 exact ⟨by rw [← HA.out];rfl,HB.out⟩
end Go.Proofs.YtcgclpcocdappaaGreatDoor
namespace Go.Proofs.YtcgclpcocdappaaGreatDoor
open Go.RowKit
set_option maxRecDepth 100000 in
set_option maxHeartbeats 1000000 in
theorem heldS_index {α:Type} (f0 f1 f2 f3 f4:α→Value) (p:α→Bool) (l:List α) (n:Nat) (hnl:n=l.length) (A:Option Addr) (c:Nat) (Keep:World→Prop) (w:World) (B:Nat)
  (hr:Reads w B 5 A n (cellsK (fun x=>[f0 x,f1 x,f2 x,f3 x,f4 x]) l)) (hB:B≤w.heap.size) (hn:n≤5000000000000) (hp:PredK Tryz.prog 171 #[] (fun x=>#[f0 x,f1 x,f2 x,f3 x,f4 x]) (·∈l) p Keep) (hk0:Keep w) :
  Calls Tryz.prog 130 #[.slice A n c,.func (.func 171) #[] #[]] w fun e w'=>e=.returned (.int .i64 (firstI p l))∧Below w.heap.size w w':=by
 have HN:=Lib.hid hnl
 have HP:=Lib.hid hp
 clear hnl hp
 go_enter Tryz.func130,Tryz.ntmps130
 go_wp2_with fail
 go_loopw [8] (fun j wr=>∃ k:Nat,k≤n∧j=.int .i64 (k:Int)∧Hid (∀ y∈l.take k,p y=false)∧Below w.heap.size w wr∧Keep wr) (fun j _=>n-(intOf j).toNat)
 case atStart=>exact ⟨0,Nat.zero_le _,rfl,(show ∀ y∈_,_ by simp),Below.refl _ _,hk0⟩
 case round =>
  obtain ⟨k,hk,rfl,hno,hbw,hkw⟩:=hrel
  by_cases hlt:k<n
  ·have hki:(k:Int)<(n:Int):=by omega
   have hkl:k<l.length:=by have:=HN.out;omega
   obtain ⟨ad,rfl,_,c0,c1,c2,c3,c4⟩:=(hr.below (hbw.mono hB)).el5 HN.out hlt
   obtain ⟨x,hx⟩:∃ x,x=l[k]'hkl:=⟨_,rfl⟩
   rw [← hx] at c0 c1 c2 c3 c4
   have htk:=List.take_succ_eq_append_getElem hkl
   rw [← hx] at htk
   have HTK:=Lib.hid htk
   have HX:=Lib.hid (show l[k]?=some x by rw [hx];exact List.getElem?_eq_getElem _)
   have hc:=HP.out.call x wr (List.mem_of_getElem? HX.out) hkw
   obtain ⟨b,hb⟩:∃ b,b=p x:=⟨_,rfl⟩
   rw [← hb] at hc
   have HBX:=Lib.hid hb
   simp only [List.append_toArray,List.cons_append,List.nil_append] at hc
   clear hx htk hr hb
   go_wp2_with fail
   refine hc.mono ?_
   clear hc
   rintro e w1 ⟨rfl,hb1⟩
   have hkw1:=HP.out.below wr w1 hkw hb1
   have hbw1:=hbw.trans (hb1.mono hbw.size)
   cases b with
   | true =>
    go_wp2_with fail
    go_ret
    have hf:=firstP_eq p l k x hno.out HX.out HBX.out.symm
    exact ⟨by unfold firstI;rw [hf,if_pos hkl];rfl,hbw1⟩
   | false =>
    go_wp2_with fail
    go_roundw
    case rel =>
     refine ⟨k+1,by omega,by go_num,?_,hbw1,hkw1⟩
     show ∀ y∈l.take (k+1),p y=false
     intro y hy
     rw [HTK.out] at hy
     rcases List.mem_append.1 hy with hy | hy
     ·exact hno.out y hy
     ·simp at hy;subst hy;exact HBX.out.symm
    case measure=>simp [intOf];omega
  ·have hkn:k=n:=by omega
   have HF:Hid (firstI p l=-1):=by
    show _=_
    unfold firstI
    rw [firstP_none p l (fun y hy=>hno.out y (by rw [List.take_of_length_le (by rw [hkn,HN.out];exact Nat.le_refl _)];exact hy)),if_neg (Nat.lt_irrefl _)]
   clear hr hkn
   go_wp2_with fail
   go_ret
   exact ⟨by rw [HF.out];rfl,hbw⟩
set_option maxRecDepth 100000 in
set_option maxHeartbeats 1000000 in
theorem heldC_any (x:SnapR) (w:World):Calls Tryz.prog 171 #[.agg #[.string ⟨x.nm.toArray⟩,.int .i64 x.gd,.slice x.body.A x.body.n x.body.c,.slice x.tags.A x.tags.n x.tags.c,.slice x.own.A x.own.n x.own.c]] w fun e w'=>e=.returned (.bool (decide (0<x.tags.n)))∧Below w.heap.size w w':=by
 obtain ⟨nm,gd,⟨bA,bn,bc,bl⟩,⟨tA,tn,tc,tl⟩,⟨oA,on,oc,ol⟩⟩:=x
 have hb1:=(Below.refl w.heap.size w).alloc (Nat.le_refl _) (.cells #[.string ⟨nm.toArray⟩,.int .i64 gd,.slice bA bn bc,.slice tA tn tc,.slice oA on oc] 57)
 go_enter Tryz.func171,Tryz.ntmps171
 go_wp2_with fail
 go_ret
 exact ⟨by simp [go_sem],hb1⟩
set_option maxRecDepth 100000 in
set_option maxHeartbeats 1000000 in
theorem heldF_any (l:List SnapR) (n:Nat) (hnl:n=l.length) (A:Option Addr) (c:Nat) (w:World) (B:Nat) (hr:Reads w B 5 A n (cellsK encSnap l)) (hB:B≤w.heap.size) (hn:n≤5000000000000) :
  Calls Tryz.prog 170 #[.slice A n c,.func (.func 171) #[] #[]] w fun e w'=>e=.returned (.bool (l.any fun x=>decide (0<x.tags.n)))∧Below w.heap.size w w':=by
 have hc:=Lib.hid (heldS_index (fun x:SnapR=>.string ⟨x.nm.toArray⟩) (fun x=>.int .i64 x.gd) (fun x=>.slice x.body.A x.body.n x.body.c) (fun x=>.slice x.tags.A x.tags.n x.tags.c) (fun x=>.slice x.own.A x.own.n x.own.c) (fun x=>decide (0<x.tags.n)) l n hnl A c (fun _=>True) w B hr hB hn
  ⟨fun x W _ _=>heldC_any x W,fun _ _ _ _=>trivial⟩ trivial)
 have HA:=Lib.hid (firstI_any (fun x:SnapR=>decide (0<x.tags.n)) l)
 clear hnl hr
 go_enter Tryz.func170,Tryz.ntmps170
 go_wp2_with fail
 refine hc.out.mono ?_
 rintro e w1 ⟨rfl,hb⟩
 have HB:=Lib.hid hb
 clear hb
 go_wp2_with fail
 go_ret
 exact ⟨by rw [← HA.out];rfl,HB.out⟩
set_option maxRecDepth 100000 in
set_option maxHeartbeats 1000000 in
theorem shHeld_any (x:SetR) (w:World) (B:Nat) (hr:Reads w B 5 x.snaps.A x.snaps.n (cellsK encSnap x.snaps.l)) (hnl:x.snaps.n=x.snaps.l.length) (hB:B≤w.heap.size) (hn:x.snaps.n≤5000000000000) :
  Calls Tryz.prog 104 #[.agg #[.string ⟨x.path.toArray⟩,.string ⟨x.org.toArray⟩,.slice x.body.A x.body.n x.body.c,.slice x.snaps.A x.snaps.n x.snaps.c,.slice x.own.A x.own.n x.own.c]] w fun e w'=>e=.returned (.bool (x.snaps.l.any fun y=>decide (0<y.tags.n)))∧Below w.heap.size w w':=by
 obtain ⟨pa,og,⟨bA,bn,bc,bl⟩,⟨zA,zn,zc,zl⟩,⟨oA,on,oc,ol⟩⟩:=x
 have hb1:=(Below.refl w.heap.size w).alloc (Nat.le_refl _) (.cells #[.string ⟨pa.toArray⟩,.string ⟨og.toArray⟩,.slice bA bn bc,.slice zA zn zc,.slice oA on oc] 42)
 have hc:=Lib.hid (heldF_any zl zn hnl zA zc (w.alloc (.cells #[.string ⟨pa.toArray⟩,.string ⟨og.toArray⟩,.slice bA bn bc,.slice zA zn zc,.slice oA on oc] 42)) B (Reads.below hr (hb1.mono hB)) (by simp;omega) hn)
 have HB1:=Lib.hid hb1
 clear hr hnl hb1
 go_enter Tryz.func104,Tryz.ntmps104
 go_wp2_with fail
 refine hc.out.mono ?_
 rintro e w1 ⟨rfl,hb⟩
 have HB:=Lib.hid (HB1.out.trans (hb.mono HB1.out.size))
 clear hb HB1
 go_wp2_with fail
 go_ret
 exact ⟨rfl,HB.out⟩
end Go.Proofs.YtcgclpcocdappaaGreatDoor
