/-
  slices.Insert of one element into a row of the call's own, by its contract.
-/
import Derived.Test.YtcgclpcocdappaaGreatDoorRows
import Derived.Handy
import Derived.Lib.AppendZeros
import Derived.WalkKit
import Derived.WalkSpells
import Derived.Below
import Derived.Laws.OwnMore
import Derived.Deep.AppendLies
import Derived.Deep.Draws
import Derived.Laws.Rows
import Derived.Maps.AppendAt
import Derived.RegionTactic
import Derived.OwnWalk
import Derived.Deep.QuietTactic
import Derived.BigQuiet
import Derived.Lib.Hide
import Derived.Laws.CopyOwn
import Derived.IntWalk
import Derived.Lib.Overlaps
import Derived.Lib.AppendZerosOnto
import Derived.Deep.RegionLaw
import Derived.Test.YtcgclpcocdappaaGreatDoorJ0
import Derived.Test.YtcgclpcocdappaaGreatDoorJbkv1
import Derived.Test.YtcgclpcocdappaaGreatDoorJbkv27
import Derived.Test.YtcgclpcocdappaaGreatDoorJkv1
import Derived.Test.YtcgclpcocdappaaGreatDoorJkv2
namespace Go.Proofs.YtcgclpcocdappaaGreatDoor
open Go.RowKit
theorem Tryz.insSet_info:(Tryz.prog.info? 42).map (fun i=>(i.zero,i.size,i.bytes))=some (some (.agg #[.string ByteArray.empty,.string ByteArray.empty,.slice none 0 0,.slice none 0 0,.slice none 0 0]),5,104):=by kernel_rfl
theorem Tryz.insSet_size:(Tryz.prog.info? 42).map (·.size)=some 5:=by kernel_rfl
theorem Tryz.insSet_ov:Tryz.prog.funcs[189]?=some Tryz.f189:=by kernel_rfl
section
variable (news:Array Value) (hnl:news.size=5) (h1n:∀ u∈news.toList,u.oneCell'=true) (xs:List Value) (h1x:∀ u∈xs,u.oneCell'=true) (vb:Nat) (T:TypeId) (base n i:Nat)
set_option maxRecDepth 100000 in
include hnl h1n h1x in
theorem insSet_shift (g c0:Nat) (w:World) (cur:List Value) (hlt:i<n) (hroom:n+1≤c0) (hcm:c0≤maxLen) (hg:w.heap[g]?=some (.cells cur.toArray 42 (0,0))) (hcl:cur.length=c0*5) (hxs:cur.take (n*5)=xs) (hbg:base≤g) (hv:Blk w vb T news) (hne:g≠vb) :
  Calls Tryz.prog 148 #[.slice (some ⟨g,0,none⟩) n c0,.int .i64 i,.slice (some ⟨vb,0,none⟩) 1 1] w fun e w' =>
   ∃ v,e=.returned v∧w'.ownsRow base 42 5 v (n+1) (xs.take (i*5)++news.toList++xs.drop (i*5))∧w.grownBy w' (some g):=by
 have hxl:xs.length=n*5:=by rw [← hxs,List.length_take,hcl];omega
 have hsb:=shape_of hg
 have hsa:=shape_of hv
 have HX2:=Lib.hid (show ∀ (j:Nat) (u:Value),(xs.drop (i*5))[j]?=some u→w.cell? ((⟨g,i*5,none⟩:Addr).add j)=some u from fun j u hj=>by
  rw [List.getElem?_drop] at hj
  have e:(⟨g,i*5,none⟩:Addr).add j=⟨g,i*5+j,none⟩:=by unfold Addr.add;split <;> simp_all
  rw [e,Blk.cell (t:=42) hg,← hj,← hxs,List.getElem?_take,if_pos (by have:=(List.getElem?_eq_some_iff.1 hj).1;omega)]
  simp)
 have HV:=Lib.hid (show ∀ (w':World),w.grownBy w' (some g)→∀ (j:Nat) (u:Value),news.toList[j]?=some u→w'.cell? ((⟨vb,0,none⟩:Addr).add j)=some u from fun w' hg' j u hj=>by
  rw [addr_add0,(hv.grown hg' (by intro e;injection e with e;exact hne e.symm)).cell j]
  simpa using hj)
 have hov:∀ lb cb,(callFunc 189 #[.slice (some ⟨vb,0,none⟩) 1 1,.slice (some ⟨g,(i+1)*5,none⟩) lb cb]).run Tryz.prog w=.ok (.value (.bool false)) w:=fun lb cb=>by
  rw [run_callFunc_extern Tryz.insSet_ov (by kernel_rfl) (by kernel_rfl) (by kernel_rfl) (e:=Extern.SlicesOverlaps.overlaps #[22,22] #[4]) (by kernel_rfl),
   Lib.run_overlaps_apart w 22 4 42 Tryz.underlying22 5 (by intro w;exact Tryz.sizeOf42 w) ⟨vb,0,none⟩ ⟨g,(i+1)*5,none⟩ 1 1 lb cb (fun e=>hne e.symm) T 42 news.size cur.toArray.size hsa hsb (by rw [List.size_toArray,hcl];omega) (hv.frozen 0) (by rw [hnl];exact hv.frozen 5)]
  rfl
 have HG:=Lib.hid hg
 have HXS:=Lib.hid hxs
 have HCL:=Lib.hid hcl
 have HXL:=Lib.hid hxl
 have HN:=Lib.hid hnl
 unfold maxLen at hcm
 have hw1:IntKind.i64.wrap ((i:Int)+1)=(i:Int)+1:=by rw [IntKind.wrap_i64];omega
 have hb1:(0:Int)≤(i:Int)+1:=by omega
 have hin:i≤n:=by omega
 have htn:((i:Int)+1).toNat=i+1:=by omega
 have hb2:¬ (c0=i+1):=by omega
 have hb3:(i:Int)≤(n:Int)+1:=by omega
 have hb4:¬ (c0=i):=by omega
 clear hg hxs hcl hxl hsa hsb hnl hv
 go_enter Tryz.func148,Tryz.ntmps148
 go_wp2_with (simp only [hov])
 go_region_law (refine step_copyK rfl _ _ 22 22 rfl 42 5 Tryz.underlying22 Tryz.insSet_size g ((i+1)*5) (n-i) (c0-(i+1)) ⟨g,i*5,none⟩ (n+1-i) (c0-i) (n-i) (by simp [Act.eval,Act.put]) (by simp [Act.eval,Act.put]) cur 42 HG.out (xs.drop (i*5)) (by simp only [Nat.min_def];split <;> omega) (by rw [List.length_drop,HXL.out];omega) HX2.out (by rw [List.length_drop,HXL.out,HCL.out];omega) (fun u hu=>h1x u (List.mem_of_mem_drop hu)) ?_;intro w1 hg1 hgr1)
 have hgr1':=grown_drew hgr1
 obtain ⟨cur1,hc1⟩:∃ cur1,cur1=splice cur ((i+1)*5) (xs.drop (i*5)):=⟨_,rfl⟩
 rw [← hc1] at hg1
 have hl1:cur1.length=c0*5:=by rw [hc1,length_splice _ _ _ (by rw [List.length_drop,HXL.out,HCL.out];omega)];exact HCL.out
 have HL1:=Lib.hid hl1
 have HC1:=Lib.hid hc1
 have HGR:=Lib.hid hgr1'
 clear hl1 hc1 hgr1 hgr1' hov hw1 htn
 go_wp2_with (with_reducible refine wpList_copyK rfl (.tmp 80) (.tmp 81) 22 22 rfl 42 5 Tryz.underlying22 Tryz.insSet_size g (i*5) (n+1-i) (c0-i) ⟨vb,0,none⟩ 1 1 1 rfl rfl cur1 42 hg1.out news.toList (by simp only [Nat.min_def];split <;> omega) (by rw [Array.length_toList,HN.out]) (HV.out w1 HGR.out) (by rw [Array.length_toList,HN.out,HL1.out];omega) h1n ?_;intro w2 hg2 hgr2)
 go_ret
 refine ⟨_,rfl,?_,HGR.out.trans hgr2⟩
 refine own_of_row hg2.out hbg hroom (by unfold maxLen;exact hcm) ?_ ?_
 ·rw [length_splice _ _ _ (by rw [Array.length_toList,HN.out,HL1.out];omega)];exact HL1.out
 ·rw [HC1.out,show (n+1)*5=n*5+5 by omega,show (i+1)*5=i*5+5 by omega]
  exact take_shift HXS.out (by omega) (by rw [Array.length_toList,HN.out]) (by rw [HCL.out];omega)
set_option maxRecDepth 100000 in
include hnl h1n h1x in
theorem insSet_grow (g:Nat) (w:World) (cur:List Value) (hlt:i<n) (hn:n≤1000000000) (hg:w.heap[g]?=some (.cells cur.toArray 42 (0,0))) (hcl:cur.length=n*5) (hxs:cur.take (n*5)=xs) (hb:base≤w.heap.size) (hv:Blk w vb T news) :
  Calls Tryz.prog 148 #[.slice (some ⟨g,0,none⟩) n n,.int .i64 i,.slice (some ⟨vb,0,none⟩) 1 1] w fun e w' =>
   ∃ v,e=.returned v∧w'.ownsRow base 42 5 v (n+1) (xs.take (i*5)++news.toList++xs.drop (i*5))∧w.grownBy w' none:=by
 obtain ⟨i0,hi0,hz0,hzs,hzb⟩:=info_parts Tryz.insSet_info
 have hxl:xs.length=n*5:=by rw [← hxs,List.length_take,hcl];omega
 have hgl:=heap_lt hg
 have hvl:=hv.lt
 have hold:(Builtin.firstCells i0.size i (.slice (some ⟨g,0,none⟩) i n)).run Tryz.prog w.drew=.ok (xs.take (i*5)).toArray w.drew:=by
  rw [hzs]
  exact run_firstCells_some w.drew 5 i ⟨g,0,none⟩ i n (xs.take (i*5)) (by rw [List.length_take,hxl];omega) (fun j v hj=>by
   rw [addr_add0]
   rw [List.getElem?_take] at hj
   split at hj
   ·have:(w.drew).cell? ⟨g,j,none⟩=cur.toArray[j]?:=Blk.cell (t:=42) hg j
    rw [this,← hj,← hxs,List.getElem?_take,if_pos (by omega)]
    simp
   ·cases hj)
 have hkk:(n:Int)+1-(i:Int)=((n+1-i:Nat):Int):=by omega
 have hik:i+(n+1-i)=n+1:=by omega
 have hrz:∀ ty,(Builtin.append_ #[22,3] ty #[.slice (some ⟨g,0,none⟩) i n,.int .i64 ((n:Int)+1-(i:Int))]).run Tryz.prog w =
   .ok (.slice (some ⟨w.heap.size,0,none⟩) (n+1) (grownCap w (n+1) n 42)) (w.drew.alloc (.cells ((xs.take (i*5)).toArray++Builtin.zeroCells (Value.cells (.agg #[.string ByteArray.empty,.string ByteArray.empty,.slice none 0 0,.slice none 0 0,.slice none 0 0])) (n+1-i)++Builtin.zeroCells (Value.cells (.agg #[.string ByteArray.empty,.string ByteArray.empty,.slice none 0 0,.slice none 0 0,.slice none 0 0])) (grownCap w (n+1) n 42-(n+1))) 42)):=fun ty=>by
  have h:=Lib.run_append_grow_zeros w 22 3 ty 42 i0 _ .i64 .i64 Tryz.underlying22 Tryz.underlying3 hi0 hz0 (some ⟨g,0,none⟩) i n (xs.take (i*5)) hold (n+1-i) (by omega) (by rw [hzs];omega) (by omega) (by omega) (by rw [hzb];omega) (by rw [hzb,hik];exact growslice_fits (by omega) (by omega))
  rw [hik] at h
  rw [hkk]
  exact h
 obtain ⟨G,hG⟩:∃ G,G=grownCap w (n+1) n 42:=⟨_,rfl⟩
 have hGn:n+1≤G:=by rw [hG];exact grownCap_ge w _ _ _
 have hGm:G≤maxLen:=by rw [hG];exact grownCap_le_maxLen w (n+1) n 42 (by unfold maxLen;omega)
 obtain ⟨ROW,hROW⟩:∃ ROW:List Value,ROW=xs.take (i*5)++((Builtin.zeroCells (Value.cells (.agg #[.string ByteArray.empty,.string ByteArray.empty,.slice none 0 0,.slice none 0 0,.slice none 0 0])) (n+1-i)).toList++(Builtin.zeroCells (Value.cells (.agg #[.string ByteArray.empty,.string ByteArray.empty,.slice none 0 0,.slice none 0 0,.slice none 0 0])) (G-(n+1))).toList):=⟨_,rfl⟩
 have hRA:(xs.take (i*5)).toArray++Builtin.zeroCells (Value.cells (.agg #[.string ByteArray.empty,.string ByteArray.empty,.slice none 0 0,.slice none 0 0,.slice none 0 0])) (n+1-i)++Builtin.zeroCells (Value.cells (.agg #[.string ByteArray.empty,.string ByteArray.empty,.slice none 0 0,.slice none 0 0,.slice none 0 0])) (G-(n+1))=ROW.toArray:=by
  rw [hROW]
  apply Array.toList_inj.1
  simp
 rw [← hG,hRA] at hrz
 have hRl:ROW.length=G*5:=by
  rw [hROW]
  simp [Builtin.zeroCells,Value.cells,hxl]
  omega
 have hRt:ROW.take (i*5)=xs.take (i*5):=by
  rw [hROW,List.take_append_of_le_length (by rw [List.length_take,hxl];omega),List.take_take,Nat.min_self]
 obtain ⟨W1,hW1⟩:∃ W1,W1=w.drew.alloc (.cells ROW.toArray 42):=⟨_,rfl⟩
 rw [← hW1] at hrz
 have hrow:W1.heap[w.heap.size]?=some (.cells ROW.toArray 42 (0,0)):=by rw [hW1];exact heap_alloc_new w.drew _
 have hgr0:w.grownBy W1 none:=by
  rw [hW1]
  exact ⟨rfl,rfl,rfl,by simp,fun k hk _=>Below.heap_alloc w.drew _ k hk⟩
 have HX2:=Lib.hid (show ∀ (W:World),W.heap[g]?=w.heap[g]?→∀ (j:Nat) (u:Value),(xs.drop (i*5))[j]?=some u→W.cell? ((⟨g,i*5,none⟩:Addr).add j)=some u from fun W hW j u hj=>by
  rw [List.getElem?_drop] at hj
  have e:(⟨g,i*5,none⟩:Addr).add j=⟨g,i*5+j,none⟩:=by unfold Addr.add;split <;> simp_all
  rw [e,Blk.cell (w:=W) (t:=42) (hW.trans hg),← hj,← hxs,List.getElem?_take,if_pos (by have:=(List.getElem?_eq_some_iff.1 hj).1;omega)]
  simp)
 have HV:=Lib.hid (show ∀ (w':World),w.grownBy w' none→∀ (j:Nat) (u:Value),news.toList[j]?=some u→w'.cell? ((⟨vb,0,none⟩:Addr).add j)=some u from fun w' hg' j u hj=>by
  rw [addr_add0,(hv.grown hg' (by simp)).cell j]
  simpa using hj)
 have HXS:=Lib.hid hxs
 have HCL:=Lib.hid hcl
 have HXL:=Lib.hid hxl
 have HN:=Lib.hid hnl
 have HROW:=Lib.hid hrow
 have HRL:=Lib.hid hRl
 have HRT:=Lib.hid hRt
 have HGR0:=Lib.hid hgr0
 unfold maxLen at hGm
 have hw1:IntKind.i64.wrap ((i:Int)+1)=(i:Int)+1:=by rw [IntKind.wrap_i64];omega
 have hb1:(0:Int)≤(i:Int)+1:=by omega
 have hin:i≤n:=by omega
 have htn:((i:Int)+1).toNat=i+1:=by omega
 have hb3:(i:Int)≤(n:Int):=by omega
 have hGi:¬ (G=i):=by omega
 have hGim:¬ (G=i+1):=by omega
 have hci:¬ (n=i):=by omega
 clear hg hxs hcl hxl hnl hv hold hkk hik hG hRA hROW hRl hRt hrow hgr0 hW1 hi0 hz0 hzs hzb
 go_enter Tryz.func148,Tryz.ntmps148
 go_wp2_with (first
  | (at_builtin;refine Lib.wpList_append_run _ rfl _ _ _ _ rfl _ _ rfl rfl _ _ (hrz _) ?_)
  | (with_reducible refine wpList_copyK rfl (.tmp 43) (.tmp 44) 22 22 rfl 42 5 Tryz.underlying22 Tryz.insSet_size w.heap.size (i*5) (n+1-i) (G-i) ⟨vb,0,none⟩ 1 1 1 rfl rfl ROW 42 HROW.out news.toList (by simp only [Nat.min_def];split <;> omega) (by rw [Array.length_toList,HN.out]) (HV.out W1 HGR0.out) (by rw [Array.length_toList,HN.out,HRL.out];omega) h1n ?_;intro w1 hg1 hgr1))
 clear hrz
 have hgr1':=grown_fresh HGR0.out hgr1 (Nat.le_refl _)
 obtain ⟨row1,hr1⟩:∃ row1,row1=splice ROW (i*5) news.toList:=⟨_,rfl⟩
 rw [← hr1] at hg1
 have hl1:row1.length=G*5:=by rw [hr1,length_splice _ _ _ (by rw [Array.length_toList,HN.out,HRL.out];omega)];exact HRL.out
 have HL1:=Lib.hid hl1
 have HR1:=Lib.hid hr1
 have HGR:=Lib.hid hgr1'
 clear hl1 hr1 hgr1 hgr1'
 go_region_law (refine step_copyK rfl _ _ 22 22 rfl 42 5 Tryz.underlying22 Tryz.insSet_size w.heap.size ((i+1)*5) (n-i) (G-(i+1)) ⟨g,i*5,none⟩ (n-i) (n-i) (n-i) (by simp [Act.eval,Act.put]) (by simp [Act.eval,Act.put]) row1 42 hg1.out (xs.drop (i*5)) (by simp only [Nat.min_def];split <;> omega) (by rw [List.length_drop,HXL.out];omega) (HX2.out w1.drew (HGR.out.block g hgl (by simp))) (by rw [List.length_drop,HXL.out,HL1.out];omega) (fun u hu=>h1x u (List.mem_of_mem_drop hu)) ?_;intro w2 hg2 hgr2)
 go_wp2_with fail
 go_ret
 refine ⟨_,rfl,?_,grown_fresh HGR.out (grown_drew hgr2) (Nat.le_refl _)⟩
 refine own_of_row hg2.out hb hGn (by unfold maxLen;exact hGm) ?_ ?_
 ·rw [length_splice _ _ _ (by rw [List.length_drop,HXL.out,HL1.out];omega)];exact HL1.out
 ·rw [HR1.out,show (n+1)*5=i*5+5+(n-i)*5 by omega,show (i+1)*5=i*5+5 by omega]
  exact take_grow HRT.out (by rw [List.length_take,HXL.out];omega) (by rw [Array.length_toList,HN.out]) (by rw [List.length_drop,HXL.out];omega)
set_option maxRecDepth 100000 in
include hnl h1n in
theorem insSet_end (A0:Option Addr) (c0:Nat) (w:World) (hown:w.ownsRow base 42 5 (.slice A0 n c0) n xs) (hb:base≤w.heap.size) (hn:n≤1000000000) (hv:Blk w vb T news) :
  Calls Tryz.prog 148 #[.slice A0 n c0,.int .i64 n,.slice (some ⟨vb,0,none⟩) 1 1] w fun e w' =>
   ∃ v,e=.returned v∧w'.ownsRow base 42 5 v (n+1) (xs++news.toList)∧w.grownBy w' (Value.slice A0 n c0).ownBlock:=by
 obtain ⟨i0,hi0,hz0,hz1,hz2⟩:=info_parts Tryz.insSet_info
 obtain ⟨hc,hm,_⟩:=own_reads hown
 unfold maxLen at hm
 have HN:=Lib.hid hnl
 have HNEW:=Lib.hid (show ∀ (j:Nat) (u:Value),news.toList[j]?=some u→w.cell? ((⟨vb,0,none⟩:Addr).add j)=some u from fun j u hj=>by rw [addr_add0,hv.cell j];simpa using hj)
 clear hnl hv
 by_cases hcn:c0=n
 ·subst hcn
  go_enter Tryz.func148,Tryz.ntmps148
  go_wp2_with (at_builtin;refine wpList_append_own _ rfl _ _ 22 rfl base 42 i0 (.agg #[.string ByteArray.empty,.string ByteArray.empty,.slice none 0 0,.slice none 0 0,.slice none 0 0]) 5 104 Tryz.underlying22 hi0 hz0 hz1 hz2 rfl (by decide) (.slice A0 c0 c0) c0 xs rfl hown ⟨vb,0,none⟩ 1 1 news.toList rfl (by rw [Array.length_toList,HN.out]) HNEW.out h1n (by unfold maxLen;omega) (by omega) hb ?_)
  intro v1 w1 hown1 hg1 _
  go_wp2_with fail
  go_ret
  exact ⟨v1,rfl,hown1,hg1⟩
 ·go_enter Tryz.func148,Tryz.ntmps148
  go_wp2_with (at_builtin;refine wpList_append_own _ rfl _ _ 22 rfl base 42 i0 (.agg #[.string ByteArray.empty,.string ByteArray.empty,.slice none 0 0,.slice none 0 0,.slice none 0 0]) 5 104 Tryz.underlying22 hi0 hz0 hz1 hz2 rfl (by decide) (.slice A0 n c0) n xs rfl hown ⟨vb,0,none⟩ 1 1 news.toList rfl (by rw [Array.length_toList,HN.out]) HNEW.out h1n (by unfold maxLen;omega) (by omega) hb ?_)
  intro v1 w1 hown1 hg1 _
  go_wp2_with fail
  go_ret
  exact ⟨v1,rfl,hown1,hg1⟩
include hnl h1n h1x in
/-- one element put in at a place -/
theorem insSet_any (A0:Option Addr) (c0:Nat) (w:World) (hi:i≤n) (hown:w.ownsRow base 42 5 (.slice A0 n c0) n xs) (hb:base≤w.heap.size) (hn:n≤1000000000) (hv:Blk w vb T news) (hne:(Value.slice A0 n c0).ownBlock≠some vb) :
  Calls Tryz.prog 148 #[.slice A0 n c0,.int .i64 i,.slice (some ⟨vb,0,none⟩) 1 1] w fun e w' =>
   ∃ v,e=.returned v∧w'.ownsRow base 42 5 v (n+1) (xs.take (i*5)++news.toList++xs.drop (i*5))∧w.grownBy w' (Value.slice A0 n c0).ownBlock:=by
 by_cases hin:i=n
 ·subst hin
  rw [List.take_of_length_le (by rw [hown.1];exact Nat.le_refl _),List.drop_eq_nil_of_le (by rw [hown.1];exact Nat.le_refl _),List.append_nil]
  exact insSet_end news hnl h1n xs vb T base i A0 c0 w hown hb hn hv
 ·rcases hown.2 with ⟨_,h0⟩ | ⟨g,cap,cur,hs,hbg,hh,hnc,hcm,hsz,hx⟩
  ·omega
  ·injection hs with e1 _ e2
   subst e1 e2
   by_cases hroom:n+1≤c0
   ·exact (insSet_shift news hnl h1n xs h1x vb T base n i g c0 w cur.toList (by omega) hroom hcm (by simpa using hh) (by simpa using hsz) hx hbg hv (fun e=>hne (by rw [e];rfl))).mono (fun e w' h=>h)
   ·obtain rfl:c0=n:=by omega
    refine (insSet_grow news hnl h1n xs h1x vb T base c0 i g w cur.toList (by omega) hn (by simpa using hh) (by simpa using hsz) hx hb hv).mono ?_
    rintro e w' ⟨v,h1,h2,h3⟩
    exact ⟨v,h1,h2,⟨h3.os,h3.tape,h3.output,h3.size,fun k hk _=>h3.block k hk (by simp)⟩⟩
end
end Go.Proofs.YtcgclpcocdappaaGreatDoor
