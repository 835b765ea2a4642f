/-
  slices.Insert of one element into a row of the call's own, by its contract. A region that draws its order: calls that make memory, and stores of what they return into one box: each operation is looked at once. Rows that are written over, in themselves: what can be read of them stays good. slices.BinarySearchFunc at elements of 5 cells, by its contract. slices.IndexFunc and ContainsFunc at texts (names.Path's). 'clear' of a piece of a row that is known whole. cmp.Compare at strings, by its contract. A row of one's own of which one field of one element is stored: the element is another one, the rest stays. Drawn regions with guards: when an operation is wanted.
-/
import Derived.Test.YtpbejobgickffaaGreatDoorU0
import Derived.Test.YtpbejobgickffaaGreatDoorU3
import Derived.Test.YtpbejobgickffaaGreatDoorRows
import Derived.Handy
import Derived.Lib.AppendZeros
import Derived.Test.YtpbejobgickffaaGreatDoorU2
import Derived.Deep.MidRow
namespace Go.Proofs.YtpbejobgickffaaGreatDoor
open Go.RowKit
theorem Tryz.insSet_info:(Tryz.prog.info? 42).map (fun i=>(i.zero,i.size,i.bytes))=some (some (.agg #[.string ByteArray.empty,.string ByteArray.empty,.slice none 0 0,.slice none 0 0,.slice none 0 0]),5,104):=by kernel_rfl
theorem Tryz.insSet_size:(Tryz.prog.info? 42).map (·.size)=some 5:=by kernel_rfl
theorem Tryz.insSet_ov:Tryz.prog.funcs[167]?=some Tryz.f167:=by kernel_rfl
section
variable (news:Array Value) (hnl:news.size=5) (h1n:∀ u∈news.toList,u.oneCell'=true) (xs:List Value) (h1x:∀ u∈xs,u.oneCell'=true) (vb:Nat) (T:TypeId) (base n i:Nat)
set_option maxRecDepth 100000 in
include hnl h1n h1x in
theorem insSet_shift (g c0:Nat) (w:World) (cur:List Value) (hlt:i<n) (hroom:n+1≤c0) (hcm:c0≤maxLen) (hg:w.heap[g]?=some (.cells cur.toArray 42 (0,0))) (hcl:cur.length=c0*5) (hxs:cur.take (n*5)=xs) (hbg:base≤g) (hv:Blk w vb T news) (hne:g≠vb) :
  Calls Tryz.prog 121 #[.slice (some ⟨g,0,none⟩) n c0,.int .i64 i,.slice (some ⟨vb,0,none⟩) 1 1] w fun e w' =>
   ∃ v,e=.returned v∧w'.ownsRow base 42 5 v (n+1) (xs.take (i*5)++news.toList++xs.drop (i*5))∧w.grownBy w' (some g):=by
 have hxl:xs.length=n*5:=by rw [← hxs,List.length_take,hcl];omega
 have hsb:=shape_of hg
 have hsa:=shape_of hv
 have HX2:=Lib.hid (show ∀ (j:Nat) (u:Value),(xs.drop (i*5))[j]?=some u→w.cell? ((⟨g,i*5,none⟩:Addr).add j)=some u from fun j u hj=>by
  rw [List.getElem?_drop] at hj
  have e:(⟨g,i*5,none⟩:Addr).add j=⟨g,i*5+j,none⟩:=by unfold Addr.add;split <;> simp_all
  rw [e,Blk.cell (t:=42) hg,← hj,← hxs,List.getElem?_take,if_pos (by have:=(List.getElem?_eq_some_iff.1 hj).1;omega)]
  simp)
 have HV:=Lib.hid (show ∀ (w':World),w.grownBy w' (some g)→∀ (j:Nat) (u:Value),news.toList[j]?=some u→w'.cell? ((⟨vb,0,none⟩:Addr).add j)=some u from fun w' hg' j u hj=>by
  rw [addr_add0,(hv.grown hg' (by intro e;injection e with e;exact hne e.symm)).cell j]
  simpa using hj)
 have hov:∀ lb cb,(callFunc 167 #[.slice (some ⟨vb,0,none⟩) 1 1,.slice (some ⟨g,(i+1)*5,none⟩) lb cb]).run Tryz.prog w=.ok (.value (.bool false)) w:=fun lb cb=>by
  rw [run_callFunc_extern Tryz.insSet_ov (by kernel_rfl) (by kernel_rfl) (by kernel_rfl) (e:=Extern.SlicesOverlaps.overlaps #[22,22] #[4]) (by kernel_rfl),
   Lib.run_overlaps_apart w 22 4 42 Tryz.underlying22 5 (by intro w;exact Tryz.sizeOf42 w) ⟨vb,0,none⟩ ⟨g,(i+1)*5,none⟩ 1 1 lb cb (fun e=>hne e.symm) T 42 news.size cur.toArray.size hsa hsb (by rw [List.size_toArray,hcl];omega) (hv.frozen 0) (by rw [hnl];exact hv.frozen 5)]
  rfl
 have HG:=Lib.hid hg
 have HXS:=Lib.hid hxs
 have HCL:=Lib.hid hcl
 have HXL:=Lib.hid hxl
 have HN:=Lib.hid hnl
 unfold maxLen at hcm
 have hw1:IntKind.i64.wrap ((i:Int)+1)=(i:Int)+1:=by rw [IntKind.wrap_i64];omega
 have hb1:(0:Int)≤(i:Int)+1:=by omega
 have hin:i≤n:=by omega
 have htn:((i:Int)+1).toNat=i+1:=by omega
 have hb2:¬ (c0=i+1):=by omega
 have hb3:(i:Int)≤(n:Int)+1:=by omega
 have hb4:¬ (c0=i):=by omega
 clear hg hxs hcl hxl hsa hsb hnl hv
 go_enter Tryz.func121,Tryz.ntmps121
 go_wp2_with (simp only [hov])
 go_region_law (refine step_copyK rfl _ _ 22 22 rfl 42 5 Tryz.underlying22 Tryz.insSet_size g ((i+1)*5) (n-i) (c0-(i+1)) ⟨g,i*5,none⟩ (n+1-i) (c0-i) (n-i) (by simp [Act.eval,Act.put]) (by simp [Act.eval,Act.put]) cur 42 HG.out (xs.drop (i*5)) (by simp only [Nat.min_def];split <;> omega) (by rw [List.length_drop,HXL.out];omega) HX2.out (by rw [List.length_drop,HXL.out,HCL.out];omega) (fun u hu=>h1x u (List.mem_of_mem_drop hu)) ?_;intro w1 hg1 hgr1)
 have hgr1':=grown_drew hgr1
 obtain ⟨cur1,hc1⟩:∃ cur1,cur1=splice cur ((i+1)*5) (xs.drop (i*5)):=⟨_,rfl⟩
 rw [← hc1] at hg1
 have hl1:cur1.length=c0*5:=by rw [hc1,length_splice _ _ _ (by rw [List.length_drop,HXL.out,HCL.out];omega)];exact HCL.out
 have HL1:=Lib.hid hl1
 have HC1:=Lib.hid hc1
 have HGR:=Lib.hid hgr1'
 clear hl1 hc1 hgr1 hgr1' hov hw1 htn
 go_wp2_with (with_reducible refine wpList_copyK rfl (.tmp 80) (.tmp 81) 22 22 rfl 42 5 Tryz.underlying22 Tryz.insSet_size g (i*5) (n+1-i) (c0-i) ⟨vb,0,none⟩ 1 1 1 rfl rfl cur1 42 hg1.out news.toList (by simp only [Nat.min_def];split <;> omega) (by rw [Array.length_toList,HN.out]) (HV.out w1 HGR.out) (by rw [Array.length_toList,HN.out,HL1.out];omega) h1n ?_;intro w2 hg2 hgr2)
 go_ret
 refine ⟨_,rfl,?_,HGR.out.trans hgr2⟩
 refine own_of_row hg2.out hbg hroom (by unfold maxLen;exact hcm) ?_ ?_
 ·rw [length_splice _ _ _ (by rw [Array.length_toList,HN.out,HL1.out];omega)];exact HL1.out
 ·rw [HC1.out,show (n+1)*5=n*5+5 by omega,show (i+1)*5=i*5+5 by omega]
  exact take_shift HXS.out (by omega) (by rw [Array.length_toList,HN.out]) (by rw [HCL.out];omega)
set_option maxRecDepth 100000 in
include hnl h1n h1x in
theorem insSet_grow (g:Nat) (w:World) (cur:List Value) (hlt:i<n) (hn:n≤1000000000) (hg:w.heap[g]?=some (.cells cur.toArray 42 (0,0))) (hcl:cur.length=n*5) (hxs:cur.take (n*5)=xs) (hb:base≤w.heap.size) (hv:Blk w vb T news) :
  Calls Tryz.prog 121 #[.slice (some ⟨g,0,none⟩) n n,.int .i64 i,.slice (some ⟨vb,0,none⟩) 1 1] w fun e w' =>
   ∃ v,e=.returned v∧w'.ownsRow base 42 5 v (n+1) (xs.take (i*5)++news.toList++xs.drop (i*5))∧w.grownBy w' none:=by
 obtain ⟨i0,hi0,hz0,hzs,hzb⟩:=info_parts Tryz.insSet_info
 have hxl:xs.length=n*5:=by rw [← hxs,List.length_take,hcl];omega
 have hgl:=heap_lt hg
 have hvl:=hv.lt
 have hold:(Builtin.firstCells i0.size i (.slice (some ⟨g,0,none⟩) i n)).run Tryz.prog w.drew=.ok (xs.take (i*5)).toArray w.drew:=by
  rw [hzs]
  exact run_firstCells_some w.drew 5 i ⟨g,0,none⟩ i n (xs.take (i*5)) (by rw [List.length_take,hxl];omega) (fun j v hj=>by
   rw [addr_add0]
   rw [List.getElem?_take] at hj
   split at hj
   ·have:(w.drew).cell? ⟨g,j,none⟩=cur.toArray[j]?:=Blk.cell (t:=42) hg j
    rw [this,← hj,← hxs,List.getElem?_take,if_pos (by omega)]
    simp
   ·cases hj)
 have hkk:(n:Int)+1-(i:Int)=((n+1-i:Nat):Int):=by omega
 have hik:i+(n+1-i)=n+1:=by omega
 have hrz:∀ ty,(Builtin.append_ #[22,3] ty #[.slice (some ⟨g,0,none⟩) i n,.int .i64 ((n:Int)+1-(i:Int))]).run Tryz.prog w =
   .ok (.slice (some ⟨w.heap.size,0,none⟩) (n+1) (grownCap w (n+1) n 42)) (w.drew.alloc (.cells ((xs.take (i*5)).toArray++Builtin.zeroCells (Value.cells (.agg #[.string ByteArray.empty,.string ByteArray.empty,.slice none 0 0,.slice none 0 0,.slice none 0 0])) (n+1-i)++Builtin.zeroCells (Value.cells (.agg #[.string ByteArray.empty,.string ByteArray.empty,.slice none 0 0,.slice none 0 0,.slice none 0 0])) (grownCap w (n+1) n 42-(n+1))) 42)):=fun ty=>by
  have h:=Lib.run_append_grow_zeros w 22 3 ty 42 i0 _ .i64 .i64 Tryz.underlying22 Tryz.underlying3 hi0 hz0 (some ⟨g,0,none⟩) i n (xs.take (i*5)) hold (n+1-i) (by omega) (by rw [hzs];omega) (by omega) (by omega) (by rw [hzb];omega) (by rw [hzb,hik];exact growslice_fits (by omega) (by omega))
  rw [hik] at h
  rw [hkk]
  exact h
 obtain ⟨G,hG⟩:∃ G,G=grownCap w (n+1) n 42:=⟨_,rfl⟩
 have hGn:n+1≤G:=by rw [hG];exact grownCap_ge w _ _ _
 have hGm:G≤maxLen:=by rw [hG];exact grownCap_le_maxLen w (n+1) n 42 (by unfold maxLen;omega)
 obtain ⟨ROW,hROW⟩:∃ ROW:List Value,ROW=xs.take (i*5)++((Builtin.zeroCells (Value.cells (.agg #[.string ByteArray.empty,.string ByteArray.empty,.slice none 0 0,.slice none 0 0,.slice none 0 0])) (n+1-i)).toList++(Builtin.zeroCells (Value.cells (.agg #[.string ByteArray.empty,.string ByteArray.empty,.slice none 0 0,.slice none 0 0,.slice none 0 0])) (G-(n+1))).toList):=⟨_,rfl⟩
 have hRA:(xs.take (i*5)).toArray++Builtin.zeroCells (Value.cells (.agg #[.string ByteArray.empty,.string ByteArray.empty,.slice none 0 0,.slice none 0 0,.slice none 0 0])) (n+1-i)++Builtin.zeroCells (Value.cells (.agg #[.string ByteArray.empty,.string ByteArray.empty,.slice none 0 0,.slice none 0 0,.slice none 0 0])) (G-(n+1))=ROW.toArray:=by
  rw [hROW]
  apply Array.toList_inj.1
  simp
 rw [← hG,hRA] at hrz
 have hRl:ROW.length=G*5:=by
  rw [hROW]
  simp [Builtin.zeroCells,Value.cells,hxl]
  omega
 have hRt:ROW.take (i*5)=xs.take (i*5):=by
  rw [hROW,List.take_append_of_le_length (by rw [List.length_take,hxl];omega),List.take_take,Nat.min_self]
 obtain ⟨W1,hW1⟩:∃ W1,W1=w.drew.alloc (.cells ROW.toArray 42):=⟨_,rfl⟩
 rw [← hW1] at hrz
 have hrow:W1.heap[w.heap.size]?=some (.cells ROW.toArray 42 (0,0)):=by rw [hW1];exact heap_alloc_new w.drew _
 have hgr0:w.grownBy W1 none:=by
  rw [hW1]
  exact ⟨rfl,rfl,rfl,by simp,fun k hk _=>Below.heap_alloc w.drew _ k hk⟩
 have HX2:=Lib.hid (show ∀ (W:World),W.heap[g]?=w.heap[g]?→∀ (j:Nat) (u:Value),(xs.drop (i*5))[j]?=some u→W.cell? ((⟨g,i*5,none⟩:Addr).add j)=some u from fun W hW j u hj=>by
  rw [List.getElem?_drop] at hj
  have e:(⟨g,i*5,none⟩:Addr).add j=⟨g,i*5+j,none⟩:=by unfold Addr.add;split <;> simp_all
  rw [e,Blk.cell (w:=W) (t:=42) (hW.trans hg),← hj,← hxs,List.getElem?_take,if_pos (by have:=(List.getElem?_eq_some_iff.1 hj).1;omega)]
  simp)
 have HV:=Lib.hid (show ∀ (w':World),w.grownBy w' none→∀ (j:Nat) (u:Value),news.toList[j]?=some u→w'.cell? ((⟨vb,0,none⟩:Addr).add j)=some u from fun w' hg' j u hj=>by
  rw [addr_add0,(hv.grown hg' (by simp)).cell j]
  simpa using hj)
 have HXS:=Lib.hid hxs
 have HCL:=Lib.hid hcl
 have HXL:=Lib.hid hxl
 have HN:=Lib.hid hnl
 have HROW:=Lib.hid hrow
 have HRL:=Lib.hid hRl
 have HRT:=Lib.hid hRt
 have HGR0:=Lib.hid hgr0
 unfold maxLen at hGm
 have hw1:IntKind.i64.wrap ((i:Int)+1)=(i:Int)+1:=by rw [IntKind.wrap_i64];omega
 have hb1:(0:Int)≤(i:Int)+1:=by omega
 have hin:i≤n:=by omega
 have htn:((i:Int)+1).toNat=i+1:=by omega
 have hb3:(i:Int)≤(n:Int):=by omega
 have hGi:¬ (G=i):=by omega
 have hGim:¬ (G=i+1):=by omega
 have hci:¬ (n=i):=by omega
 clear hg hxs hcl hxl hnl hv hold hkk hik hG hRA hROW hRl hRt hrow hgr0 hW1 hi0 hz0 hzs hzb
 go_enter Tryz.func121,Tryz.ntmps121
 go_wp2_with (first
  | (at_builtin;refine Lib.wpList_append_run _ rfl _ _ _ _ rfl _ _ rfl rfl _ _ (hrz _) ?_)
  | (with_reducible refine wpList_copyK rfl (.tmp 43) (.tmp 44) 22 22 rfl 42 5 Tryz.underlying22 Tryz.insSet_size w.heap.size (i*5) (n+1-i) (G-i) ⟨vb,0,none⟩ 1 1 1 rfl rfl ROW 42 HROW.out news.toList (by simp only [Nat.min_def];split <;> omega) (by rw [Array.length_toList,HN.out]) (HV.out W1 HGR0.out) (by rw [Array.length_toList,HN.out,HRL.out];omega) h1n ?_;intro w1 hg1 hgr1))
 clear hrz
 have hgr1':=grown_fresh HGR0.out hgr1 (Nat.le_refl _)
 obtain ⟨row1,hr1⟩:∃ row1,row1=splice ROW (i*5) news.toList:=⟨_,rfl⟩
 rw [← hr1] at hg1
 have hl1:row1.length=G*5:=by rw [hr1,length_splice _ _ _ (by rw [Array.length_toList,HN.out,HRL.out];omega)];exact HRL.out
 have HL1:=Lib.hid hl1
 have HR1:=Lib.hid hr1
 have HGR:=Lib.hid hgr1'
 clear hl1 hr1 hgr1 hgr1'
 go_region_law (refine step_copyK rfl _ _ 22 22 rfl 42 5 Tryz.underlying22 Tryz.insSet_size w.heap.size ((i+1)*5) (n-i) (G-(i+1)) ⟨g,i*5,none⟩ (n-i) (n-i) (n-i) (by simp [Act.eval,Act.put]) (by simp [Act.eval,Act.put]) row1 42 hg1.out (xs.drop (i*5)) (by simp only [Nat.min_def];split <;> omega) (by rw [List.length_drop,HXL.out];omega) (HX2.out w1.drew (HGR.out.block g hgl (by simp))) (by rw [List.length_drop,HXL.out,HL1.out];omega) (fun u hu=>h1x u (List.mem_of_mem_drop hu)) ?_;intro w2 hg2 hgr2)
 go_wp2_with fail
 go_ret
 refine ⟨_,rfl,?_,grown_fresh HGR.out (grown_drew hgr2) (Nat.le_refl _)⟩
 refine own_of_row hg2.out hb hGn (by unfold maxLen;exact hGm) ?_ ?_
 ·rw [length_splice _ _ _ (by rw [List.length_drop,HXL.out,HL1.out];omega)];exact HL1.out
 ·rw [HR1.out,show (n+1)*5=i*5+5+(n-i)*5 by omega,show (i+1)*5=i*5+5 by omega]
  exact take_grow HRT.out (by rw [List.length_take,HXL.out];omega) (by rw [Array.length_toList,HN.out]) (by rw [List.length_drop,HXL.out];omega)
set_option maxRecDepth 100000 in
include hnl h1n in
theorem insSet_end (A0:Option Addr) (c0:Nat) (w:World) (hown:w.ownsRow base 42 5 (.slice A0 n c0) n xs) (hb:base≤w.heap.size) (hn:n≤1000000000) (hv:Blk w vb T news) :
  Calls Tryz.prog 121 #[.slice A0 n c0,.int .i64 n,.slice (some ⟨vb,0,none⟩) 1 1] w fun e w' =>
   ∃ v,e=.returned v∧w'.ownsRow base 42 5 v (n+1) (xs++news.toList)∧w.grownBy w' (Value.slice A0 n c0).ownBlock:=by
 obtain ⟨i0,hi0,hz0,hz1,hz2⟩:=info_parts Tryz.insSet_info
 obtain ⟨hc,hm,_⟩:=own_reads hown
 unfold maxLen at hm
 have HN:=Lib.hid hnl
 have HNEW:=Lib.hid (show ∀ (j:Nat) (u:Value),news.toList[j]?=some u→w.cell? ((⟨vb,0,none⟩:Addr).add j)=some u from fun j u hj=>by rw [addr_add0,hv.cell j];simpa using hj)
 clear hnl hv
 by_cases hcn:c0=n
 ·subst hcn
  go_enter Tryz.func121,Tryz.ntmps121
  go_wp2_with (at_builtin;refine wpList_append_own _ rfl _ _ 22 rfl base 42 i0 (.agg #[.string ByteArray.empty,.string ByteArray.empty,.slice none 0 0,.slice none 0 0,.slice none 0 0]) 5 104 Tryz.underlying22 hi0 hz0 hz1 hz2 rfl (by decide) (.slice A0 c0 c0) c0 xs rfl hown ⟨vb,0,none⟩ 1 1 news.toList rfl (by rw [Array.length_toList,HN.out]) HNEW.out h1n (by unfold maxLen;omega) (by omega) hb ?_)
  intro v1 w1 hown1 hg1 _
  go_wp2_with fail
  go_ret
  exact ⟨v1,rfl,hown1,hg1⟩
 ·go_enter Tryz.func121,Tryz.ntmps121
  go_wp2_with (at_builtin;refine wpList_append_own _ rfl _ _ 22 rfl base 42 i0 (.agg #[.string ByteArray.empty,.string ByteArray.empty,.slice none 0 0,.slice none 0 0,.slice none 0 0]) 5 104 Tryz.underlying22 hi0 hz0 hz1 hz2 rfl (by decide) (.slice A0 n c0) n xs rfl hown ⟨vb,0,none⟩ 1 1 news.toList rfl (by rw [Array.length_toList,HN.out]) HNEW.out h1n (by unfold maxLen;omega) (by omega) hb ?_)
  intro v1 w1 hown1 hg1 _
  go_wp2_with fail
  go_ret
  exact ⟨v1,rfl,hown1,hg1⟩
include hnl h1n h1x in
/-- one element put in at a place -/
theorem insSet_any (A0:Option Addr) (c0:Nat) (w:World) (hi:i≤n) (hown:w.ownsRow base 42 5 (.slice A0 n c0) n xs) (hb:base≤w.heap.size) (hn:n≤1000000000) (hv:Blk w vb T news) (hne:(Value.slice A0 n c0).ownBlock≠some vb) :
  Calls Tryz.prog 121 #[.slice A0 n c0,.int .i64 i,.slice (some ⟨vb,0,none⟩) 1 1] w fun e w' =>
   ∃ v,e=.returned v∧w'.ownsRow base 42 5 v (n+1) (xs.take (i*5)++news.toList++xs.drop (i*5))∧w.grownBy w' (Value.slice A0 n c0).ownBlock:=by
 by_cases hin:i=n
 ·subst hin
  rw [List.take_of_length_le (by rw [hown.1];exact Nat.le_refl _),List.drop_eq_nil_of_le (by rw [hown.1];exact Nat.le_refl _),List.append_nil]
  exact insSet_end news hnl h1n xs vb T base i A0 c0 w hown hb hn hv
 ·rcases hown.2 with ⟨_,h0⟩ | ⟨g,cap,cur,hs,hbg,hh,hnc,hcm,hsz,hx⟩
  ·omega
  ·injection hs with e1 _ e2
   subst e1 e2
   by_cases hroom:n+1≤c0
   ·exact (insSet_shift news hnl h1n xs h1x vb T base n i g c0 w cur.toList (by omega) hroom hcm (by simpa using hh) (by simpa using hsz) hx hbg hv (fun e=>hne (by rw [e];rfl))).mono (fun e w' h=>h)
   ·obtain rfl:c0=n:=by omega
    refine (insSet_grow news hnl h1n xs h1x vb T base c0 i g w cur.toList (by omega) hn (by simpa using hh) (by simpa using hsz) hx hb hv).mono ?_
    rintro e w' ⟨v,h1,h2,h3⟩
    exact ⟨v,h1,h2,⟨h3.os,h3.tape,h3.output,h3.size,fun k hk _=>h3.block k hk (by simp)⟩⟩
end
end Go.Proofs.YtpbejobgickffaaGreatDoor
namespace Go.Proofs.YtpbejobgickffaaGreatDoor
open Go.RowKit
/-- the box's cells: (the store, the field, whose value is stored) -/
def fld (old:List Value) (m:Nat→Option Value):List (Nat×Nat×Nat)→Nat→Option Value
 | [],f=>old[f]?
 | (s,g,c) :: r,f=>if f=g∧(m s).isSome=true then m c else fld old m r f
def Closed (ops:Array Oper) (m:Nat→Option Value):Prop:=∀ j o',ops[j]?=some o'→(m j).isSome=true→∀ e∈o'.after,Region.binds .any e=true→(m e.on).isSome=true
theorem fld_other (old:List Value) (m:Nat→Option Value) (i:Nat) (v:Value) (hi:m i=none) (sts:List (Nat×Nat×Nat)) (hs:∀ s∈sts,s.1≠i) (hc:∀ s∈sts,(m s.1).isSome=true→(m s.2.2).isSome=true) (f:Nat):fld old (upd m i v) sts f=fld old m sts f:=by
 induction sts with
 | nil=>rfl
 | cons x r ih =>
  obtain ⟨s,g,c⟩:=x
  have h1:s≠i:=hs _ List.mem_cons_self
  have h2:=hc _ List.mem_cons_self
  simp only [fld,upd_ne m v h1]
  by_cases hh:f=g∧(m s).isSome=true
  ·rw [if_pos hh,if_pos hh]
   have h3:=h2 hh.2
   refine upd_ne m v fun e=>?_
   simp only [e,hi] at h3
   cases h3
  ·rw [if_neg hh,if_neg hh]
   exact ih (fun s hs'=>hs s (List.mem_cons_of_mem _ hs')) (fun s hs'=>hc s (List.mem_cons_of_mem _ hs'))
theorem fld_store (old:List Value) (m:Nat→Option Value) {i f c:Nat} (hi:m i=none) (u:Value) (hu:m c=some u) (sts:List (Nat×Nat×Nat)) (hmem:(i,f,c)∈sts) (hn:(sts.map (·.1)).Nodup) (hf:(sts.map (·.2.1)).Nodup) (hc:∀ s∈sts,(m s.1).isSome=true→(m s.2.2).isSome=true) (g:Nat) :
  fld old (upd m i undef) sts g=if g=f then some u else fld old m sts g:=by
 have hci:c≠i:=fun e=>by rw [e,hi] at hu;cases hu
 induction sts with
 | nil=>cases hmem
 | cons x r ih =>
  obtain ⟨s,g',c'⟩:=x
  simp only [List.map_cons,List.nodup_cons] at hn hf
  have h2:=hc _ List.mem_cons_self
  have hcr:∀ s∈r,(m s.1).isSome=true→(m s.2.2).isSome=true:=fun s hs'=>hc s (List.mem_cons_of_mem _ hs')
  rcases List.mem_cons.1 hmem with e | hmem
  ·cases e
   simp only [fld,upd_self,Option.isSome_some,and_true]
   by_cases hg:g=f
   ·rw [if_pos hg,if_pos hg,upd_ne m undef hci,hu]
   ·rw [if_neg hg,if_neg hg,if_neg (fun h=>hg h.1)]
    exact fld_other old m i undef hi r (fun s hs e=>hn.1 (by rw [← e];exact List.mem_map_of_mem (f:=(·.1)) hs)) hcr g
  ·have hsi:s≠i:=fun e=>hn.1 (by rw [e];exact List.mem_map_of_mem (f:=(·.1)) hmem)
   have hgf:g'≠f:=fun e=>hf.1 (by rw [e];exact List.mem_map_of_mem (f:=(·.2.1)) hmem)
   simp only [fld,upd_ne m undef hsi]
   by_cases hh:g=g'∧(m s).isSome=true
   ·rw [if_pos hh,if_pos hh,if_neg (fun e=>hgf (hh.1.symm.trans e))]
    have h3:=h2 hh.2
    refine upd_ne m undef fun e=>?_
    simp only [e,hi] at h3
    cases h3
   ·rw [if_neg hh,if_neg hh]
    exact ih hmem hn.2 hf.2 hcr
section
variable {P:Program} {ops:Array Oper}
def StaysB (b:Nat) (p:Value→World→Prop):Prop:=∀ v W W',p v W→W.grownBy W' (some b)→p v W'
theorem StaysB.pure {b:Nat} {q:Value→Prop}:StaysB b (fun v _=>q v):=fun _ _ _ h _=>h
theorem staysB_nil {b:Nat}:∀ p∈([]:List (Value→World→Prop)),StaysB b p:=fun _ h=>by cases h
theorem staysB_cons {b:Nat} {p:Value→World→Prop} {l:List (Value→World→Prop)} (hp:StaysB b p) (hl:∀ q∈l,StaysB b q):∀ q∈p :: l,StaysB b q:=by
 intro q hq
 rcases List.mem_cons.1 hq with rfl | h
 ·exact hp
 ·exact hl q h
theorem grown_of_below {W W':World} {r:Option Nat} (h:Below W.heap.size W W'):W.grownBy W' r:=⟨h.os,h.tape,h.output,h.size,fun k hk _=>h.block k hk⟩
theorem grown_tr {a b c:World} {r:Option Nat} (h:a.grownBy b r) (k:b.grownBy c r):a.grownBy c r :=
 ⟨k.os.trans h.os,k.tape.trans h.tape,k.output.trans h.output,Nat.le_trans h.size k.size,fun x hx hr=>(k.block x (Nat.lt_of_lt_of_le hx h.size) hr).trans (h.block x hx hr)⟩
theorem grown_box (w:World) (g i:Nat) (u:Value):w.grownBy (w.setCell ⟨g,i,none⟩ u) (some g):=⟨rfl,rfl,rfl,by simp [World.setCell],fun k _ hne=>Below.heap_setCell w ⟨g,i,none⟩ u k (fun e=>hne (by rw [e]))⟩
def stsOk (ops:Array Oper) (sts:List (Nat×Nat×Nat)) (n:Nat):Bool :=
 decide (sts.map (·.1)).Nodup && decide (sts.map (·.2.1)).Nodup && sts.all fun s=>decide (s.2.1<n) && match ops[s.1]? with
  | some o=>o.after.any fun e=>Region.binds .any e && decide (e.on=s.2.2)
  | none=>false
theorem wp_region_box {id:Nat} {a0:Act} {w:World} {Q:Exit→Act→World→Prop} (hm:P.follows .mixedOrders=true) (hok:regionOk ops a0.tmps.size=true) (b:Nat) (T:TypeId) (old:List Value) (sts:List (Nat×Nat×Nat)) (hsts:stsOk ops sts old.length=true)
  (Gs:List (Value→World→Prop)) (hst:∀ p∈Gs,StaysB b p) (hblk:Blk w b T old.toArray)
  (hstep:∀ i o,ops[i]?=some o→∀ (m:Nat→Option Value) (W:World),w.grownBy W (some b)→m i=none→Closed ops m→(∀ e∈o.after,Region.binds .any e=true→∃ v,m e.on=some v∧Says Gs e.on v W)→(∀ f,W.cell? ⟨b,f,none⟩=fld old m sts f)→(∀ f,W.frozen? ⟨b,f,none⟩=false)→b<W.heap.size →
   ∀ (A:Act) (K:Act→World→Prop),A=frameM a0 ops m→(∀ v W',Below W.heap.size W W'→Says Gs i v W'→(∀ s∈sts,s.1≠i)→K (A.put o.dst v) W')→(∀ f c u,(i,f,c)∈sts→m c=some u→Says Gs i undef (W.setCell ⟨b,f,none⟩ u)→K (A.put o.dst undef) (W.setCell ⟨b,f,none⟩ u)) →
    if Region.wanted o (yielded ops A.tmps)=true then o.wp P A W K Q else K (A.put o.dst undef) W)
  (hend:∀ (m:Nat→Option Value) (W:World),w.grownBy W (some b)→(∀ i,i<ops.size→∃ v,m i=some v∧Says Gs i v W)→(∃ cs:List Value,cs.length=old.length∧Blk W b T cs.toArray∧∀ f,cs[f]?=fld old m sts f)→Q .normal (frameM a0 ops m) W) :
  (Code.region id ops true).wp P Q a0 w:=by
 simp only [stsOk,Bool.and_eq_true,decide_eq_true_eq] at hsts
 obtain ⟨⟨hn,hf⟩,hall⟩:=hsts
 have hsay:∀ i v W W',Says Gs i v W→W.grownBy W' (some b)→Says Gs i v W':=by
  intro i v W W' h hb
  unfold Says at h ⊢
  cases hG:Gs[i]? with
  | none=>trivial
  | some p=>rw [hG] at h;exact hst p (List.mem_of_getElem? hG) v W W' h hb
 have hcs:∀ m,Closed ops m→∀ s∈sts,(m s.1).isSome=true→(m s.2.2).isSome=true:=by
  intro m hcl s hs hd
  have h1:=List.all_eq_true.1 hall s hs
  simp only [Bool.and_eq_true] at h1
  cases ho:ops[s.1]? with
  | none=>rw [ho] at h1;exact absurd h1.2 (by simp)
  | some o =>
   rw [ho] at h1
   obtain ⟨e,he,h2⟩:=Array.any_eq_true'.1 h1.2
   simp only [Bool.and_eq_true,decide_eq_true_eq] at h2
   rw [← h2.2]
   exact hcl _ _ ho hd e he h2.1
 refine wp_region_inv hm hok (fun m W=>w.grownBy W (some b)∧(∀ i v,m i=some v→Says Gs i v W)∧Closed ops m∧∃ cs:List Value,cs.length=old.length∧Blk W b T cs.toArray∧∀ f,cs[f]?=fld old m sts f) ⟨⟨rfl,rfl,rfl,Nat.le_refl _,fun _ _ _=>rfl⟩,fun _ _ h=>(by cases h),fun _ _ _ h=>(by cases h),old,rfl,hblk.drew,fun f=>?_⟩ ?_ ?_
 ·clear hn hf hall hcs hst hstep hend
  induction sts with
  | nil=>rfl
  | cons x r ih=>obtain ⟨s,g,c⟩:=x;simp only [fld,Option.isSome_none,Bool.false_eq_true,and_false,if_false];exact ih
 ·intro i o ho m W hJ hmi hdeps A K hA hK
  obtain ⟨hgr,hsy,hcl,cs,hcl2,hbk,hcf⟩:=hJ
  have hcl':∀ v,Closed ops (upd m i v):=by
   intro v j o' ho' hj e he hbi
   by_cases hei:e.on=i
   ·rw [hei,upd_self];rfl
   ·rw [upd_ne m v hei]
    by_cases hji:j=i
    ·subst hji
     rw [ho] at ho'
     cases ho'
     exact hdeps e he hbi
    ·rw [upd_ne m v hji] at hj
     exact hcl j o' ho' hj e he hbi
  have hsu:∀ v W',W.grownBy W' (some b)→Says Gs i v W'→∀ j u,upd m i v j=some u→Says Gs j u W':=by
   intro v W' hb hS j u hu
   by_cases hj:j=i
   ·subst hj
    rw [upd_self] at hu
    cases hu
    exact hS
   ·rw [upd_ne m v hj] at hu
    exact hsay j u W W' (hsy j u hu) hb
  refine hstep i o ho m W hgr hmi hcl (fun e he hb=>?_) (fun f=>by rw [hbk.cell f,zF];exact hcf f) (fun f=>hbk.frozen f) hbk.lt A K hA (fun v W' hb hS hns=>hK v W' ⟨grown_tr hgr (grown_of_below hb),hsu v W' (grown_of_below hb) hS,hcl' v,cs,hcl2,hbk.below hb hbk.lt,fun f=>?_⟩) (fun f c u hmem hu hS=>hK undef _ ⟨grown_tr hgr (grown_box W b f u),hsu undef _ (grown_box W b f u) hS,hcl' undef,cs.set f u,by rw [List.length_set];exact hcl2,?_,fun g=>?_⟩)
  ·have:=hdeps e he hb
   cases hme:m e.on with
   | none=>rw [hme] at this;cases this
   | some v=>exact ⟨v,rfl,hsy _ _ hme⟩
  ·rw [hcf f]
   exact (fld_other old m i v hmi sts hns (hcs m hcl) f).symm
  ·have:=hbk.set_ f u
   have e:cs.toArray.setIfInBounds f u=(cs.set f u).toArray:=by simp
   rw [e] at this
   exact this
  ·rw [fld_store old m hmi u hu sts hmem hn hf (hcs m hcl) g]
   have h1:=List.all_eq_true.1 hall _ hmem
   simp only [Bool.and_eq_true,decide_eq_true_eq] at h1
   by_cases hg:g=f
   ·subst hg
    rw [if_pos rfl,List.getElem?_set,if_pos rfl,if_pos (by rw [hcl2];exact h1.1)]
   ·rw [if_neg hg,List.getElem?_set,if_neg (fun e=>hg e.symm)]
    exact hcf g
 ·intro m W hJ hall
  refine hend m W hJ.1 (fun i hi=>?_) hJ.2.2.2
  have:=hall i hi
  cases hmi:m i with
  | none=>rw [hmi] at this;cases this
  | some v=>exact ⟨v,rfl,hJ.2.1 _ _ hmi⟩
end
end Go.Proofs.YtpbejobgickffaaGreatDoor
namespace Go.Proofs.YtpbejobgickffaaGreatDoor
open Go.RowKit
def setL (xs:List Value):Nat→List Value→List Value
 | _,[]=>xs
 | o,u :: r=>setL (xs.set o u) (o+1) r
theorem grown_trans {a b c:World} {r:Option Nat} (h:a.grownBy b r) (k:b.grownBy c r):a.grownBy c r :=
 ⟨k.os.trans h.os,k.tape.trans h.tape,k.output.trans h.output,Nat.le_trans h.size k.size,fun x hx hr=>(k.block x (Nat.lt_of_lt_of_le hx h.size) hr).trans (h.block x hx hr)⟩
theorem stored_all {base size n cap g:Nat} {e:TypeId} (cs:List Value):∀ (w:World) (xs:List Value) (o:Nat),w.ownsRow base e size (.slice (some ⟨g,0,none⟩) n cap) n xs →
  (w.setCells g o cs).ownsRow base e size (.slice (some ⟨g,0,none⟩) n cap) n (setL xs o cs)∧w.grownBy (w.setCells g o cs) (some g):=by
 induction cs with
 | nil=>intro w xs o h;exact ⟨h,rfl,rfl,rfl,Nat.le_refl _,fun _ _ _=>rfl⟩
 | cons u r ih =>
  intro w xs o h
  obtain ⟨h1,h2⟩:=h.stored o u
  obtain ⟨h3,h4⟩:=ih _ _ (o+1) h1
  exact ⟨h3,grown_trans h2 h4⟩
/-- a row of lo ..< hi -/
def RowW (w:World) (lo hi:Nat) (T:TypeId) (k:Nat) (v:Value) (n:Nat) (xs:List Value):Prop:=w.ownsRow lo T k v n xs∧∀ g,v.ownBlock=some g→g<hi
def RowX (w:World) (lo hi:Nat) (T:TypeId) (k:Nat) (v:Value):Prop:=∃ n xs,RowW w lo hi T k v n xs
theorem RowX.nil (w:World) (lo hi:Nat) (T:TypeId) (k:Nat):RowX w lo hi T k (.slice none 0 0):=⟨0,[],World.ownsRow_nil _ _ _ _,fun g h=>by simp [Value.ownBlock] at h⟩
section
variable {w w':World} {lo hi base size n cap g:Nat} {e:TypeId} {xs:List Value}
theorem RowW.kept {T:TypeId} {k m:Nat} {v:Value} {ys:List Value} (h:RowW w lo hi T k v m ys) (hg:w.grownBy w' (some g)) (hne:v.ownBlock≠some g):RowW w' lo hi T k v m ys:=⟨h.1.kept hg (.inr hne),h.2⟩
theorem own_blk {T:TypeId} {k m c:Nat} {ys:List Value} (h:w.ownsRow lo T k (.slice (some ⟨g,0,none⟩) m c) m ys):∃ cur,Blk w g T cur:=by
 rcases h.2 with ⟨h0,_⟩ | ⟨g',cap',cur,hv,_,hg,_⟩
 ·cases h0
 ·cases hv
  exact ⟨cur,hg⟩
/-- a row is as it was, or it is the row that is written -/
theorem RowW.or (hrow:w.ownsRow base e size (.slice (some ⟨g,0,none⟩) n cap) n xs) {T:TypeId} {k m:Nat} {v:Value} {ys:List Value} (h:RowW w lo hi T k v m ys) (o:Nat) (cs:List Value) :
  RowW (w.setCells g o cs) lo hi T k v m ys∨T=e∧v.ownBlock=some g∧RowW (w.setCells g o cs) lo hi T k v m (setL ys o cs):=by
 by_cases hb:v.ownBlock=some g
 ·refine .inr ?_
  rcases h.1.2 with ⟨rfl,_⟩ | ⟨g',cap',cur,hv,hlo,hg,h1,h2,h3,h4⟩
  ·simp [Value.ownBlock] at hb
  ·subst hv
   have:g'=g:=by simpa [Value.ownBlock] using hb
   subst this
   obtain ⟨cur2,hk⟩:=own_blk hrow
   have hk':Blk w g' T cur:=hg
   have hT:T=e:=by
    unfold Blk at hk hk'
    rw [hk'] at hk
    injection hk with hk
    injection hk
   exact ⟨hT,rfl,(stored_all cs w ys o h.1).1,h.2⟩
 ·exact .inl (h.kept (stored_all cs w xs o hrow).2 hb)
theorem RowX.set (hrow:w.ownsRow base e size (.slice (some ⟨g,0,none⟩) n cap) n xs) {T:TypeId} {k:Nat} {v:Value} (h:RowX w lo hi T k v) (o:Nat) (cs:List Value):RowX (w.setCells g o cs) lo hi T k v:=by
 obtain ⟨m,ys,h⟩:=h
 rcases h.or hrow o cs with h | ⟨_,_,h⟩
 ·exact ⟨m,ys,h⟩
 ·exact ⟨m,_,h⟩
theorem RowX.below {T:TypeId} {k:Nat} {v:Value} (h:RowX w lo hi T k v) (hb:Below w.heap.size w w'):RowX w' lo hi T k v:=by
 obtain ⟨n,xs,h⟩:=h
 exact ⟨n,xs,own_below h.1 hb,h.2⟩
end
/-- what changed lies in lo ..< hi -/
structure OnlyIn (lo hi:Nat) (w w':World):Prop where
 low:Below lo w w'
 high:∀ k,hi≤k→k<w.heap.size→w'.heap[k]?=w.heap[k]?
theorem OnlyIn.refl (lo hi:Nat) (w:World):OnlyIn lo hi w w:=⟨Below.refl _ _,fun _ _ _=>rfl⟩
theorem OnlyIn.trans {lo hi:Nat} {a b c:World} (h:OnlyIn lo hi a b) (k:OnlyIn lo hi b c):OnlyIn lo hi a c :=
 ⟨h.low.trans k.low,fun x hx hs=>(k.high x hx (Nat.lt_of_lt_of_le hs h.low.size)).trans (h.high x hx hs)⟩
theorem OnlyIn.of_below {lo hi:Nat} {w w':World} (h:Below w.heap.size w w') (hlo:lo≤w.heap.size):OnlyIn lo hi w w':=⟨h.mono hlo,fun k _ hs=>h.block k hs⟩
theorem OnlyIn.grown {lo hi g:Nat} {w w':World} (h:w.grownBy w' (some g)) (h1:lo≤g) (h2:g<hi) (hlo:lo≤w.heap.size):OnlyIn lo hi w w' :=
 ⟨⟨h.os,h.tape,h.output,h.size,fun k hk=>h.block k (by omega) (by simp;omega)⟩,fun k hk hs=>h.block k hs (by simp;omega)⟩
theorem own_only {lo hi base size n:Nat} {e:TypeId} {v:Value} {xs:List Value} {w w':World} (h:w.ownsRow base e size v n xs) (hb:hi≤base) (ho:OnlyIn lo hi w w'):w'.ownsRow base e size v n xs:=by
 refine ⟨h.1,?_⟩
 rcases h.2 with h0 | ⟨g,cap,cur,h1,h2,h3,h4⟩
 ·exact .inl h0
 ·refine .inr ⟨g,cap,cur,h1,h2,?_,h4⟩
  rw [ho.high g (by omega) (Blk.lt (cs:=cur) (t:=e) h3)]
  exact h3
theorem FS.own.only {α:Type} {w w':World} {lo hi base k:Nat} {t:TypeId} {enc:α→List Value} {s:FS α} (h:s.own w base t k enc) (hb:hi≤base) (ho:OnlyIn lo hi w w'):s.own w' base t k enc:=⟨h.1,own_only h.2 hb ho⟩
section
variable {w w':World} {base lo hi:Nat}
theorem RowW.of_own {T:TypeId} {k n:Nat} {v:Value} {xs:List Value} (h:w.ownsRow lo T k v n xs):RowW w lo w.heap.size T k v n xs:=⟨h,fun g hg=>(h.lt g hg).2⟩
theorem FS.own.rowx {α:Type} {k:Nat} {t:TypeId} {enc:α→List Value} {s:FS α} (h:s.own w lo t k enc):RowX w lo w.heap.size t k s.val:=⟨_,_,RowW.of_own h.2⟩
end
/-! ### an element of a row -/
theorem RowW.el {w:World} {lo hi k n:Nat} {T:TypeId} {v:Value} {xs:List Value} (h:RowW w lo hi T k v n xs) {i:Nat} (hi':i<n) :
  ∃ g c,v=.slice (some ⟨g,0,none⟩) n c∧lo≤g∧g<hi∧n≤maxLen∧(∀ j,j<n*k→w.cell? ⟨g,j,none⟩=xs[j]?)∧w.there g (i*k) k∧w.ownsRow lo T k (.slice (some ⟨g,0,none⟩) n c) n xs:=by
 obtain ⟨ho,hh⟩:=h
 rcases ho.2 with ⟨_,h0⟩ | ⟨g,cap,cur,hv,hlo,hg,hnc,hcm,hcs,htk⟩
 ·omega
 ·subst hv
  have hle:(i+1)*k≤n*k:=Nat.mul_le_mul_right _ hi'
  rw [Nat.add_mul,Nat.one_mul] at hle
  have hk2:n*k≤cap*k:=Nat.mul_le_mul_right _ hnc
  have hc:∀ j,w.cell? ⟨g,j,none⟩=cur[j]?:=fun j=>cell_of_row w g j cur T (0,0) hg
  refine ⟨g,cap,rfl,hlo,hh g rfl,by omega,fun j hj=>?_,fun j hj=>⟨?_,(Blk.frozen (w:=w) (g:=g) (t:=T) (cs:=cur) hg) _⟩,ho⟩
  ·rw [hc,← htk,List.getElem?_take,if_pos hj,Array.getElem?_toList]
  ·rw [hc]
   simp
   omega
end Go.Proofs.YtpbejobgickffaaGreatDoor
namespace Go.Proofs.YtpbejobgickffaaGreatDoor
open Go.RowKit
set_option maxRecDepth 100000 in
set_option maxHeartbeats 1000000 in
theorem searchSet_any {α:Type} (f0 f1 f2 f3 f4:α→Value) (cf:α→Int) (l:List α) (hl:SignAsc cf l) (n:Nat) (hnl:n=l.length) (A:Option Addr) (c:Nat) (tgt:Value) (w:World) (B:Nat)
  (hr:Reads w B 5 A n (cellsK (fun x=>[f0 x,f1 x,f2 x,f3 x,f4 x]) l)) (hB:B≤w.heap.size) (hn:n≤5000000000000)
  (hcmp:∀ x W,Below w.heap.size w W→Calls Tryz.prog 119 #[.agg #[f0 x,f1 x,f2 x,f3 x,f4 x],tgt] W fun e W'=>e=.returned (.int .i64 (cf x))∧Below W.heap.size W W') :
  Calls Tryz.prog 118 #[.slice A n c,tgt,.func (.func 119) #[] #[]] w fun e w'=>e=.returned (.tuple #[.int .i64 (posF cf l),.bool (atF cf l)])∧Below w.heap.size w w':=by
 have HN:=Lib.hid hnl
 have HL:=Lib.hid hl
 have HC:=Lib.hid hcmp
 clear hnl hl hcmp
 go_enter Tryz.func118,Tryz.ntmps118
 go_wp2_with fail
 go_loopw [9,10] (fun i j wr=>∃ a b:Nat,a≤b∧b≤n∧i=.int .i64 (a:Int)∧j=.int .i64 (b:Int)∧Hid ((∀ (k:Nat) (x:α),k<a→l[k]?=some x→cf x<0)∧∀ (k:Nat) (x:α),b≤k→l[k]?=some x→0≤cf x)∧Below w.heap.size w wr) (fun i j _=>(intOf j).toNat-(intOf i).toNat)
 case atStart=>exact ⟨0,n,Nat.zero_le _,Nat.le_refl _,rfl,rfl,⟨fun k x hk _=>by omega,fun k x hk hx=>by have:=(List.getElem?_eq_some_iff.1 hx).1;have:=HN.out;omega⟩,Below.refl _ _⟩
 case round =>
  obtain ⟨a,b,hab,hbn,rfl,rfl,hI,hbw⟩:=hrel
  by_cases hlt:a<b
  ·obtain ⟨h,hh⟩:∃ h,h=(a+b) / 2:=⟨_,rfl⟩
   have hha:a≤h:=by omega
   have hhb:h<b:=by omega
   have hlI:(a:Int)<(b:Int):=by omega
   have hrw:=hr.below (hbw.mono hB)
   obtain ⟨ad,rfl,hadB,c0,c1,c2,c3,c4⟩:=hrw.el5 HN.out (show h<n by omega)
   obtain ⟨x,hx⟩:∃ x,x=l[h]'(by have:=HN.out;omega):=⟨_,rfl⟩
   rw [← hx] at c0 c1 c2 c3 c4
   have HX:=Lib.hid (show l[h]?=some x by rw [hx];exact List.getElem?_eq_getElem _)
   have HH:=Lib.hid hh
   have hcx:=HC.out x wr hbw
   obtain ⟨z,hz⟩:∃ z,z=cf x:=⟨_,rfl⟩
   rw [← hz] at hcx
   have HZ:=Lib.hid hz
   clear hx hr hz
   rw [hh] at c0 c1 c2 c3 c4
   clear hh
   go_wp2_with fail
   refine hcx.mono ?_
   clear hcx
   rintro e w1 ⟨rfl,hb1⟩
   have hbw1:=hbw.trans (hb1.mono hbw.size)
   by_cases hz0:z<0
   ·go_wp2_with fail
    go_roundw
    case rel =>
     refine ⟨h+1,b,by omega,hbn,by rw [HH.out];go_num,rfl,⟨fun k y hk hy=>?_,hI.out.2⟩,hbw1⟩
     by_cases hkh:k=h
     ·subst hkh
      have:=HX.out
      rw [hy] at this
      cases this
      have:=HZ.out
      omega
     ·exact HL.out k h y x (by omega) hy HX.out (by have:=HZ.out;omega)
    case measure=>simp [intOf];omega
   ·go_wp2_with fail
    go_roundw
    case rel =>
     refine ⟨a,h,by omega,by omega,rfl,by rw [HH.out];go_num,⟨hI.out.1,fun k y hk hy=>?_⟩,hbw1⟩
     by_cases hkh:k=h
     ·subst hkh
      have:=HX.out
      rw [hy] at this
      cases this
      have:=HZ.out
      omega
     ·have h1:=HL.out h k x y (by omega) HX.out hy
      have:=HZ.out
      omega
    case measure=>simp [intOf];omega
  ·obtain rfl:a=b:=by omega
   have hpos:posF cf l=a:=posF_eq cf l a (by have:=HN.out;omega) hI.out.1 (fun x hx=>hI.out.2 a x (Nat.le_refl _) hx)
   have hrw:=hr.below (hbw.mono hB)
   by_cases han:a<n
   ·obtain ⟨ad,rfl,hadB,c0,c1,c2,c3,c4⟩:=hrw.el5 HN.out han
    obtain ⟨x,hx⟩:∃ x,x=l[a]'(by have:=HN.out;omega):=⟨_,rfl⟩
    rw [← hx] at c0 c1 c2 c3 c4
    have hat:atF cf l=(cf x == 0):=by
     unfold atF
     rw [hpos,List.getElem?_eq_getElem (by have:=HN.out;omega),← hx]
     rfl
    have hcx:=HC.out x wr hbw
    obtain ⟨z,hz⟩:∃ z,z=cf x:=⟨_,rfl⟩
    rw [← hz] at hcx hat
    have HZ:=Lib.hid hz
    have HPOS:=Lib.hid hpos
    have HAT:=Lib.hid hat
    clear hx hr hrw hpos hat hz
    go_wp2_with fail
    refine hcx.mono ?_
    clear hcx
    rintro e w1 ⟨rfl,hb1⟩
    have hbw1:=hbw.trans (hb1.mono hbw.size)
    go_wp2_with fail
    go_ret2
    exact ⟨by rw [HPOS.out,HAT.out];rfl,hbw1⟩
   ·have hat:atF cf l=false:=by
     unfold atF
     rw [hpos,List.getElem?_eq_none (by have:=HN.out;omega)]
     rfl
    have HPOS:=Lib.hid hpos
    have HAT:=Lib.hid hat
    clear hr hrw hpos hat
    go_wp2_with fail
    go_ret2
    exact ⟨by rw [HPOS.out,HAT.out];rfl,hbw⟩
end Go.Proofs.YtpbejobgickffaaGreatDoor
namespace Go.Proofs.YtpbejobgickffaaGreatDoor
open Go.RowKit
set_option maxRecDepth 100000 in
set_option maxHeartbeats 1000000 in
theorem fiS_index {α:Type} (f:α→Value) (p:α→Bool) (l:List α) (n:Nat) (hnl:n=l.length) (A:Option Addr) (c:Nat) (w:World) (B:Nat)
  (hr:Reads w B 1 A n (l.map f)) (hB:B≤w.heap.size) (hn:n≤5000000000000)
  (hp:∀ x∈l,∀ W,Calls Tryz.prog 140 #[f x] W fun e W'=>e=.returned (.bool (p x))∧Below W.heap.size W W') :
  Calls Tryz.prog 178 #[.slice A n c,.func (.func 140) #[] #[]] w fun e w'=>e=.returned (.int .i64 (firstI p l))∧Below w.heap.size w w':=by
 have HN:=Lib.hid hnl
 have HP:=Lib.hid hp
 clear hnl hp
 go_enter Tryz.func178,Tryz.ntmps178
 go_wp2_with fail
 go_loopw [8] (fun j wr=>∃ k:Nat,k≤n∧j=.int .i64 (k:Int)∧Hid (∀ y∈l.take k,p y=false)∧Below w.heap.size w wr) (fun j _=>n-(intOf j).toNat)
 case atStart=>exact ⟨0,Nat.zero_le _,rfl,(show ∀ y∈_,_ by simp),Below.refl _ _⟩
 case round =>
  obtain ⟨k,hk,rfl,hno,hbw⟩:=hrel
  by_cases hlt:k<n
  ·have hki:(k:Int)<(n:Int):=by omega
   have hkl:k<l.length:=by have:=HN.out;omega
   obtain ⟨ad,u,rfl,_,hxu,hcell⟩:=(hr.below (hbw.mono hB)).at_ hlt
   obtain ⟨x,hx⟩:∃ x,x=l[k]'hkl:=⟨_,rfl⟩
   have hux:u=f x:=by
    rw [List.getElem?_map,List.getElem?_eq_getElem hkl] at hxu
    rw [hx]
    exact (Option.some.inj hxu).symm
   subst hux
   clear hxu
   have htk:=List.take_succ_eq_append_getElem hkl
   rw [← hx] at htk
   have HTK:=Lib.hid htk
   have HX:=Lib.hid (show l[k]?=some x by rw [hx];exact List.getElem?_eq_getElem _)
   have hc:=HP.out x (List.mem_of_getElem? HX.out) wr
   obtain ⟨b,hb⟩:∃ b,b=p x:=⟨_,rfl⟩
   rw [← hb] at hc
   have HBX:=Lib.hid hb
   clear hx htk hr hb
   obtain ⟨fx,hfx⟩:∃ v,v=f x:=⟨_,rfl⟩
   rw [← hfx] at hc hcell
   clear hfx
   go_wp2_with fail
   refine hc.mono ?_
   clear hc
   rintro e w1 ⟨rfl,hb1⟩
   have hbw1:=hbw.trans (hb1.mono hbw.size)
   cases b with
   | true =>
    go_wp2_with fail
    go_ret
    have hf:=firstP_eq p l k x hno.out HX.out HBX.out.symm
    exact ⟨by unfold firstI;rw [hf,if_pos hkl];rfl,hbw1⟩
   | false =>
    go_wp2_with fail
    go_roundw
    case rel =>
     refine ⟨k+1,by omega,by go_num,?_,hbw1⟩
     show ∀ y∈l.take (k+1),p y=false
     intro y hy
     rw [HTK.out] at hy
     rcases List.mem_append.1 hy with hy | hy
     ·exact hno.out y hy
     ·simp at hy;subst hy;exact HBX.out.symm
    case measure=>simp [intOf];omega
  ·have hkn:k=n:=by omega
   have HF:Hid (firstI p l=-1):=by
    show _=_
    unfold firstI
    rw [firstP_none p l (fun y hy=>hno.out y (by rw [List.take_of_length_le (by rw [hkn,HN.out];exact Nat.le_refl _)];exact hy)),if_neg (Nat.lt_irrefl _)]
   clear hr hkn
   go_wp2_with fail
   go_ret
   exact ⟨by rw [HF.out];rfl,hbw⟩
theorem fiS_contains {α:Type} (f:α→Value) (p:α→Bool) (l:List α) (n:Nat) (hnl:n=l.length) (A:Option Addr) (c:Nat) (w:World) (B:Nat)
  (hr:Reads w B 1 A n (l.map f)) (hB:B≤w.heap.size) (hn:n≤5000000000000)
  (hp:∀ x∈l,∀ W,Calls Tryz.prog 140 #[f x] W fun e W'=>e=.returned (.bool (p x))∧Below W.heap.size W W') :
  Calls Tryz.prog 139 #[.slice A n c,.func (.func 140) #[] #[]] w fun e w'=>e=.returned (.bool (l.any p))∧Below w.heap.size w w':=by
 have hcall:=Lib.hid (fiS_index f p l n hnl A c w B hr hB hn hp)
 have HA:=Lib.hid (firstI_any p l)
 clear hnl hr hp
 go_enter Tryz.func139,Tryz.ntmps139
 go_wp2_with fail
 refine hcall.out.mono ?_
 rintro e w1 ⟨rfl,hb⟩
 go_wp2_with fail
 go_ret
 exact ⟨by rw [← HA.out];rfl,hb⟩
end Go.Proofs.YtpbejobgickffaaGreatDoor
namespace Go.Proofs.YtpbejobgickffaaGreatDoor
open Go.RowKit
section
variable {P:Program}
theorem run_clear_rowK (w:World) (t ty e:TypeId) (z:Value) (ht:P.underlying t=some (.slice e)) (hv:∀ w,(zeroValue e).run P w=.ok z w) (h1:∀ u∈z.cells.toList,u.oneCell'=true)
  (g o n c:Nat) (cur:List Value) (T:TypeId) (hg:w.heap[g]?=some (.cells cur.toArray T (0,0))) (hn:0<n) (hfit:o+n*z.cells.size≤cur.length) :
  (Builtin.clear_ #[t] ty #[.slice (some ⟨g,o,none⟩) n c]).run P w=.ok (.tuple #[]) (w.setRow g (splice cur o (Builtin.zeroCells z.cells n).toList).toArray):=by
 have hzl:(Builtin.zeroCells z.cells n).toList.length=n*z.cells.size:=by simp [Builtin.zeroCells]
 have hz1:∀ u∈(Builtin.zeroCells z.cells n).toList,u.oneCell'=true:=by
  intro u hu
  simp only [Builtin.zeroCells,Array.toList_map,Array.toList_range,List.mem_map,List.mem_range] at hu
  obtain ⟨i,hi,rfl⟩:=hu
  have hk:0<z.cells.size:=by
   rcases Nat.eq_zero_or_pos z.cells.size with h | h
   ·rw [h] at hi;omega
   ·exact h
  have hm:=Nat.mod_lt i hk
  rw [getElem!_pos z.cells _ hm]
  exact h1 _ (by simp)
 have hst:=run_storeCells_at P g o T (Builtin.zeroCells z.cells n).toList 0 cur.toArray w hg (by rw [hzl];simpa using hfit) hz1
 obtain ⟨m,rfl⟩:∃ m,n=m+1:=⟨n-1,by omega⟩
 simp [Builtin.clear_,run_underlying ht,hv,hst,splice]
theorem wp_clearK {o:Oper} {a:Act} {w:World} {K:Act→World→Prop} {Q:Exit→Act→World→Prop} (d:Operand) (t:TypeId)
  (ho:o.op=.call { callee:=.builtin .clear,args:=#[d],argTypes:=#[t] }) (e:TypeId) (z:Value) (ht:P.underlying t=some (.slice e)) (hv:∀ w,(zeroValue e).run P w=.ok z w) (h1:∀ u∈z.cells.toList,u.oneCell'=true)
  (g off n c:Nat) (hd:a.eval d=.slice (some ⟨g,off,none⟩) n c) (cur:List Value) (T:TypeId) (hg:w.heap[g]?=some (.cells cur.toArray T (0,0))) (hfit:off+n*z.cells.size≤cur.length)
  (h:∀ w' zs,zs.length=n*z.cells.size→Hid (w'.heap[g]?=some (.cells (splice cur off zs).toArray T (0,0)))→w.grownBy w' (some g)→K (a.put o.dst (.tuple #[])) w'):o.wp P a w K Q:=by
 rcases Nat.eq_zero_or_pos n with h0 | h0
 ·subst h0
  have hrun:(Builtin.clear_ #[t] o.type #[.slice (some ⟨g,off,none⟩) 0 c]).run P w=.ok (.tuple #[]) w:=by simp [Builtin.clear_,run_underlying ht]
  unfold Oper.wp
  simp [execOp,ho,resolve,invoke,builtin,hd,hrun,Result.andThen]
  exact h w [] (by simp) (show _=_ by simpa [splice] using hg) (World.grownBy.refl _ _)
 ·have hrun:=run_clear_rowK (P:=P) w t o.type e z ht hv h1 g off n c cur T hg h0 hfit
  unfold Oper.wp
  simp [execOp,ho,resolve,invoke,builtin,hd,hrun,Result.andThen]
  exact h _ _ (by simp [Builtin.zeroCells]) (show _=_ from setRow_heap w g _ _ T _ hg) (grown_setRow _)
theorem wpList_clearK {w:World} {ops:Array Oper} {rest:List Oper} {o:Oper} {a:Act} {Q:Exit→Act→World→Prop} (hgd:o.guard=none) (d:Operand) (t:TypeId)
  (ho:o.op=.call { callee:=.builtin .clear,args:=#[d],argTypes:=#[t] }) (e:TypeId) (z:Value) (ht:P.underlying t=some (.slice e)) (hv:∀ w,(zeroValue e).run P w=.ok z w) (h1:∀ u∈z.cells.toList,u.oneCell'=true)
  (g off n c:Nat) (hd:a.eval d=.slice (some ⟨g,off,none⟩) n c) (cur:List Value) (T:TypeId) (hg:w.heap[g]?=some (.cells cur.toArray T (0,0))) (hfit:off+n*z.cells.size≤cur.length)
  (h:∀ w' zs,zs.length=n*z.cells.size→Hid (w'.heap[g]?=some (.cells (splice cur off zs).toArray T (0,0)))→w.grownBy w' (some g)→wpList P ops Q rest (a.put o.dst (.tuple #[])) w'):wpList P ops Q (o :: rest) a w :=
 wpList_plain hgd fun _ hK=>wp_clearK d t ho e z ht hv h1 g off n c hd cur T hg hfit (fun w' zs h0 h1 h2=>hK _ _ (h w' zs h0 h1 h2))
end
end Go.Proofs.YtpbejobgickffaaGreatDoor
namespace Go.Proofs.YtpbejobgickffaaGreatDoor
open Go.RowKit
def cmpS (x y:BS):Int:=if Op.bytesLess x y=true then -1 else if Op.bytesLess y x=true then 1 else 0
theorem cmpS_neg (x y:BS):cmpS x y<0↔Op.bytesLess x y=true:=by
 unfold cmpS
 split
 ·rename_i h;simp [h]
 ·rename_i h
  split
  ·simp [h]
  ·simp [h]
theorem cmpS_zero (x y:BS):cmpS x y=0↔x=y:=by
 unfold cmpS
 split
 ·rename_i h
  constructor
  ·intro e;cases e
  ·intro e;exact absurd e (bl_ne h)
 ·rename_i h
  split
  ·rename_i h2
   constructor
   ·intro e;cases e
   ·intro e;exact absurd e.symm (bl_ne h2)
  ·rename_i h2
   constructor
   ·intro _
    by_cases e:x=y
    ·exact e
    ·exact absurd (bl_tri x y (by simpa using h) e) h2
   ·intro _;rfl
set_option maxRecDepth 100000 in
theorem isNaNS_any (x:BS) (w:World):Calls Tryz.prog 166 #[.string ⟨x.toArray⟩] w fun e w'=>e=.returned (.bool false)∧∃ q,w'=w.drewN q:=by
 go_enter Tryz.func166,Tryz.ntmps166
 go_wp2_with fail
 go_ret
 exact ⟨rfl,0,rfl⟩
set_option maxRecDepth 100000 in
theorem compareS_any (x y:BS) (w:World):Calls Tryz.prog 120 #[.string ⟨x.toArray⟩,.string ⟨y.toArray⟩] w fun e w'=>e=.returned (.int .i64 (cmpS x y))∧∃ q,w'=w.drewN q:=by
 have hlss:=lssS 9 x y
 have hgtr:=gtrS 9 x y
 go_enter Tryz.func120,Tryz.ntmps120
 go_wp2_with fail
 refine (isNaNS_any x _).mono ?_
 rintro e w1 ⟨rfl,q1,rfl⟩
 go_wp2_with fail
 refine (isNaNS_any y _).mono ?_
 rintro e w1 ⟨rfl,q2,rfl⟩
 cases h1:Op.bytesLess x y with
 | true =>
  have HV:Hid (cmpS x y=-1):=by show _=_;unfold cmpS;rw [if_pos h1]
  rw [h1] at hlss hgtr
  clear h1
  go_wp2_with fail
  go_ret
  exact ⟨by rw [HV.out];rfl,q1+q2,rfl⟩
 | false =>
  by_cases h2:x=y
  ·have HV:Hid (cmpS x y=0):=(cmpS_zero x y).2 h2
   have hd:(Op.bytesLess x y || x == y)=true:=by simp [h2]
   rw [hd] at hgtr
   rw [h1] at hlss
   clear h1 h2 hd
   go_wp2_with fail
   go_ret
   exact ⟨by rw [HV.out];rfl,q1+q2,rfl⟩
  ·have HV:Hid (cmpS x y=1):=by show _=_;unfold cmpS;rw [if_neg (by rw [h1];simp),if_pos (bl_tri x y h1 h2)]
   have hd:(Op.bytesLess x y || x == y)=false:=by rw [h1];simpa using h2
   rw [hd] at hgtr
   rw [h1] at hlss
   clear h1 h2 hd
   go_wp2_with fail
   go_ret
   exact ⟨by rw [HV.out];rfl,q1+q2,rfl⟩
end Go.Proofs.YtpbejobgickffaaGreatDoor
namespace Go.Proofs.YtpbejobgickffaaGreatDoor
open Go.RowKit
theorem cellsK_setF {α:Type} {enc:α→List Value} {k:Nat} (hk:∀ x,(enc x).length=k) (l:List α) (i j:Nat) (hj:j<k) (x':α) (u:Value) (he:∀ x,l[i]?=some x→enc x'=(enc x).set j u) :
  cellsK enc (l.set i x')=(cellsK enc l).set (i*k+j) u:=by
 induction l generalizing i with
 | nil=>simp [cellsK]
 | cons x l ih =>
  cases i with
  | zero =>
   show enc x'++cellsK enc l=(enc x++cellsK enc l).set (0*k+j) u
   rw [he x rfl,Nat.zero_mul,Nat.zero_add,List.set_append_left _ _ (by rw [hk];exact hj)]
  | succ i =>
   show enc x++cellsK enc (l.set i x')=(enc x++cellsK enc l).set ((i+1)*k+j) u
   rw [ih i (fun y hy=>he y hy),Nat.succ_mul,List.set_append_right _ _ (by rw [hk];omega),hk]
   congr 2
   omega
section
variable {α:Type} {w w':World} {base k g:Nat} {t T:TypeId} {enc:α→List Value} {s:FS α}
/-- one field of one element stored -/
theorem FS.own.field (h:s.own w base t k enc) (hk:∀ x,(enc x).length=k) (hA:s.A=some ⟨g,0,none⟩) (i j:Nat) (hj:j<k) (x':α) (u:Value) (he:∀ x,s.l[i]?=some x→enc x'=(enc x).set j u) :
  FS.own (w.setCell ⟨g,i*k+j,none⟩ u) base t k enc ⟨s.A,s.n,s.c,s.l.set i x'⟩∧w.grownBy (w.setCell ⟨g,i*k+j,none⟩ u) (some g):=by
 obtain ⟨A,n,c,l⟩:=s
 simp only at hA
 subst hA
 have h2:=World.ownsRow.stored h.2 (i*k+j) u
 refine ⟨⟨by rw [List.length_set];exact h.1,?_⟩,h2.2⟩
 show World.ownsRow _ base t k _ n (cellsK enc (l.set i x'))
 rw [cellsK_setF hk l i j hj x' u he]
 exact h2.1
/-- a row that is not empty is a block of its own -/
theorem FS.own.blk (h:s.own w base t k enc) (h0:0<s.n):∃ g cs,s.A=some ⟨g,0,none⟩∧base≤g∧Blk w g t cs:=by
 obtain ⟨A,n,c,l⟩:=s
 rcases h.2.2 with ⟨e,e0⟩ | ⟨g,cap,cur,e,hb,hg,_⟩
 ·simp only at h0 e0
  omega
 ·unfold FS.val at e
  injection e with e1 e2 e3
  exact ⟨g,cur,e1,hb,hg⟩
/-- what is grown in a block of another element type keeps a row -/
theorem FS.own.keptT {cs:Array Value} (h:s.own w base t k enc) (hg:w.grownBy w' (some g)) (hb:Blk w g T cs) (hne:t≠T):s.own w' base t k enc :=
 ⟨h.1,h.2.kept hg (.inr (own_blk_ne h.2 hb hne))⟩
end
end Go.Proofs.YtpbejobgickffaaGreatDoor
namespace Go.Proofs.YtpbejobgickffaaGreatDoor
open Go.RowKit
/-- what lies in the slot of an operation that has come up -/
theorem tO {ops:Array Oper} {a0 A:Act} {m:Nat→Option Value} {k i:Nat} {v:Value} (hA:A=frameM a0 ops m) (hv:m i=some v) (hw:ownerOf ops k=some i:=by kernel_rfl) (hk:k<a0.tmps.size:=by exact of_decide_eq_true (by kernel_rfl)):A.tmps[k]?.getD undef=v:=by
 rw [hA]
 exact tmps_own hw hv hk
/-- what lies in a slot of no operation's -/
theorem tF {ops:Array Oper} {a0 A:Act} {m:Nat→Option Value} {k:Nat} {v:Value} (hA:A=frameM a0 ops m) (hw:ownerOf ops k=none:=by kernel_rfl) (hv:a0.tmps[k]?.getD undef=v:=by rfl):A.tmps[k]?.getD undef=v:=by
 rw [hA,← hv]
 exact tmps_free hw
/-- an operation whose value is said -/
theorem dV {m:Nat→Option Value} {j:Nat} {p:Value→Prop} {val:Value} (h:∃ v,m j=some v∧p v) (hp:∀ v,p v→v=val:=by exact fun _ h=>h):m j=some val:=by
 obtain ⟨v,h1,h2⟩:=h
 rw [h1,hp v h2]
end Go.Proofs.YtpbejobgickffaaGreatDoor
