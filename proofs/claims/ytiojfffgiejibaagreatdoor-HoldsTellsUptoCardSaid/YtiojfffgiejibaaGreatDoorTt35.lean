/-
  slices.Insert of one element into a row of the call's own, by its contract. 'append' into a row that is known whole and has room. slices.BinarySearch at strings, by its contract. slices.Clone at strings: of nothing it is a row without room.
-/
import Derived.Test.YtiojfffgiejibaaGreatDoorTtM1
import Derived.Test.YtiojfffgiejibaaGreatDoorRows
import Derived.Handy
import Derived.Lib.AppendZeros
import Derived.WalkKit
import Derived.WalkSpells
import Derived.Below
import Derived.Laws.OwnMore
import Derived.Deep.AppendLies
import Derived.Deep.Draws
import Derived.Laws.Rows
import Derived.Maps.AppendAt
import Derived.RegionTactic
import Derived.OwnWalk
import Derived.Deep.QuietTactic
import Derived.BigQuiet
import Derived.Lib.Hide
import Derived.Laws.CopyOwn
import Derived.IntWalk
import Derived.Lib.Overlaps
import Derived.Lib.AppendZerosOnto
import Derived.Deep.RegionLaw
import Derived.Deep.Quiet
import Derived.Sort.Walk0
import Derived.Sort.KeysCollected
import Derived.Laws.BytesString
import Derived.Laws.IdiomStrings
import Derived.Lib.ConvBytes
import Derived.Lib.Strings
import Derived.Test.YtiojfffgiejibaaGreatDoorT0
import Derived.Test.YtiojfffgiejibaaGreatDoorTt1
import Derived.Test.YtiojfffgiejibaaGreatDoorTt5
import Derived.Test.YtiojfffgiejibaaGreatDoorTt7
import Derived.Test.YtiojfffgiejibaaGreatDoorTt8
import Derived.Test.YtiojfffgiejibaaGreatDoorTt21
import Derived.Test.YtiojfffgiejibaaGreatDoorTt33
namespace Go.Proofs.YtiojfffgiejibaaGreatDoor
open Go.RowKit
theorem Tryz.insTx_info:(Tryz.prog.info? 9).map (fun i=>(i.zero,i.size,i.bytes))=some (some (.string ByteArray.empty),1,16):=tZ2
theorem Tryz.insTx_size:(Tryz.prog.info? 9).map (·.size)=some 1:=tZ2
theorem Tryz.insTx_ov:Tryz.prog.funcs[134]?=some Tryz.f134:=tZ2
section
variable (news:Array Value) (hnl:news.size=1) (h1n:∀ u∈news.toList,u.oneCell'=true) (xs:List Value) (h1x:∀ u∈xs,u.oneCell'=true) (vb:Nat) (T:TypeId) (base n i:Nat)
set_option maxRecDepth 100000 in
include hnl h1n h1x in
theorem insTx_shift (g c0:Nat) (w:World) (cur:List Value) (hlt:i<n) (hroom:n+1≤c0) (hcm:c0≤maxLen) (hg:w.heap[g]?=some (.cells cur.toArray 9 (0,0))) (hcl:cur.length=c0) (hxs:cur.take (n)=xs) (hbg:base≤g) (hv:Blk w vb T news) (hne:g≠vb) :
  Calls Tryz.prog 82 #[.slice (some ⟨g,0,none⟩) n c0,.int .i64 i,.slice (some ⟨vb,0,none⟩) 1 1] w fun e w' =>
   ∃ v,e=.returned v∧w'.ownsRow base 9 1 v (n+1) (xs.take (i)++news.toList++xs.drop (i))∧w.grownBy w' (some g):=by
 have hxl:xs.length=n:=tZ124
 have hsb:=shape_of hg
 have hsa:=shape_of hv
 have HX2:=Lib.hid (show ∀ (j:Nat) (u:Value),(xs.drop (i))[j]?=some u→w.cell? ((⟨g,i,none⟩:Addr).add j)=some u from fun j u hj=>by
  rw [List.getElem?_drop] at hj
  have e:(⟨g,i,none⟩:Addr).add j=⟨g,i+j,none⟩:=tZ49
  rw [e,Blk.cell (t:=9) hg,← hj,← hxs,List.getElem?_take,if_pos tZ102]
  simp)
 have HV:=Lib.hid (show ∀ (w':World),w.grownBy w' (some g)→∀ (j:Nat) (u:Value),news.toList[j]?=some u→w'.cell? ((⟨vb,0,none⟩:Addr).add j)=some u from fun w' hg' j u hj=>by
  rw [addr_add0,(hv.grown hg' (by intro e;injection e with e;exact hne e.symm)).cell j]
  simpa using hj)
 have hov:∀ lb cb,(callFunc 134 #[.slice (some ⟨vb,0,none⟩) 1 1,.slice (some ⟨g,(i+1),none⟩) lb cb]).run Tryz.prog w=.ok (.value (.bool false)) w:=fun lb cb=>by
  rw [run_callFunc_extern Tryz.insTx_ov tZ2 tZ2 tZ2 (e:=Extern.SlicesOverlaps.overlaps #[51,51] #[4]) tZ2,
   Lib.run_overlaps_apart w 51 4 9 Tryz.underlying51 1 (by intro w;exact Tryz.sizeOf9 w) ⟨vb,0,none⟩ ⟨g,(i+1),none⟩ 1 1 lb cb (fun e=>hne e.symm) T 9 news.size cur.toArray.size hsa hsb (by rw [List.size_toArray,hcl];omega) (hv.frozen 0) (by rw [hnl];exact hv.frozen 1)]
  rfl
 have HG:=Lib.hid hg
 have HXS:=Lib.hid hxs
 have HCL:=Lib.hid hcl
 have HXL:=Lib.hid hxl
 have HN:=Lib.hid hnl
 unfold maxLen at hcm
 have hw1:IntKind.i64.wrap ((i:Int)+1)=(i:Int)+1:=tZ117
 have hb1:(0:Int)≤(i:Int)+1:=tZ1
 have hin:i≤n:=tZ1
 have htn:((i:Int)+1).toNat=i+1:=tZ1
 have hb2:¬ (c0=i+1):=tZ1
 have hb3:(i:Int)≤(n:Int)+1:=tZ1
 have hb4:¬ (c0=i):=tZ1
 clear hg hxs hcl hxl hsa hsb hnl hv
 go_enter Tryz.func82,Tryz.ntmps82
 go_wp2_with (simp only [hov])
 go_region_law (refine step_copyK rfl _ _ 51 51 rfl 9 1 Tryz.underlying51 Tryz.insTx_size g (i+1) (n-i) (c0-(i+1)) ⟨g,i,none⟩ (n+1-i) (c0-i) (n-i) tZ30 tZ30 cur 9 HG.out (xs.drop (i)) tZ61 tZ136 HX2.out tZ109 (fun u hu=>h1x u (List.mem_of_mem_drop hu)) ?_;intro w1 hg1 hgr1)
 have hgr1':=grown_drew hgr1
 obtain ⟨cur1,hc1⟩:∃ cur1,cur1=splice cur (i+1) (xs.drop (i)):=⟨_,rfl⟩
 rw [← hc1] at hg1
 have hl1:cur1.length=c0:=by rw [hc1,length_splice _ _ _ tZ109];exact HCL.out
 have HL1:=Lib.hid hl1
 have HC1:=Lib.hid hc1
 have HGR:=Lib.hid hgr1'
 clear hl1 hc1 hgr1 hgr1' hov hw1 htn
 go_wp2_with (with_reducible refine wpList_copyK rfl (.tmp 80) (.tmp 81) 51 51 rfl 9 1 Tryz.underlying51 Tryz.insTx_size g (i) (n+1-i) (c0-i) ⟨vb,0,none⟩ 1 1 1 rfl rfl cur1 9 hg1.out news.toList tZ61 tZ53 (HV.out w1 HGR.out) tZ105 h1n ?_;intro w2 hg2 hgr2)
 go_ret
 refine ⟨_,rfl,?_,HGR.out.trans hgr2⟩
 refine own_of_row hg2.out hbg hroom (by unfold maxLen;exact hcm) ?_ ?_
 ·rw [length_splice _ _ _ tZ105,Nat.mul_one];exact HL1.out
 ·rw [HC1.out,Nat.mul_one]
  exact take_shift HXS.out tZ1 tZ53 (by rw [HCL.out];omega)
set_option maxRecDepth 100000 in
include hnl h1n h1x in
theorem insTx_grow (g:Nat) (w:World) (cur:List Value) (hlt:i<n) (hn:n≤5000000000000) (hg:w.heap[g]?=some (.cells cur.toArray 9 (0,0))) (hcl:cur.length=n) (hxs:cur.take (n)=xs) (hb:base≤w.heap.size) (hv:Blk w vb T news) :
  Calls Tryz.prog 82 #[.slice (some ⟨g,0,none⟩) n n,.int .i64 i,.slice (some ⟨vb,0,none⟩) 1 1] w fun e w' =>
   ∃ v,e=.returned v∧w'.ownsRow base 9 1 v (n+1) (xs.take (i)++news.toList++xs.drop (i))∧w.grownBy w' none:=by
 obtain ⟨i0,hi0,hz0,hzs,hzb⟩:=info_parts Tryz.insTx_info
 have hxl:xs.length=n:=tZ124
 have hgl:=heap_lt hg
 have hvl:=hv.lt
 have hold:(Builtin.firstCells i0.size i (.slice (some ⟨g,0,none⟩) i n)).run Tryz.prog w.drew=.ok (xs.take (i)).toArray w.drew:=by
  rw [hzs]
  exact run_firstCells_some w.drew 1 i ⟨g,0,none⟩ i n (xs.take (i)) tZ148 (fun j v hj=>by
   rw [addr_add0]
   rw [List.getElem?_take] at hj
   split at hj
   ·have:(w.drew).cell? ⟨g,j,none⟩=cur.toArray[j]?:=Blk.cell (t:=9) hg j
    rw [this,← hj,← hxs,List.getElem?_take,if_pos tZ1]
    simp
   ·cases hj)
 have hkk:(n:Int)+1-(i:Int)=((n+1-i:Nat):Int):=tZ1
 have hik:i+(n+1-i)=n+1:=tZ1
 have hrz:∀ ty,(Builtin.append_ #[51,3] ty #[.slice (some ⟨g,0,none⟩) i n,.int .i64 ((n:Int)+1-(i:Int))]).run Tryz.prog w =
   .ok (.slice (some ⟨w.heap.size,0,none⟩) (n+1) (grownCap w (n+1) n 9)) (w.drew.alloc (.cells ((xs.take (i)).toArray++Builtin.zeroCells (Value.cells (.string ByteArray.empty)) (n+1-i)++Builtin.zeroCells (Value.cells (.string ByteArray.empty)) (grownCap w (n+1) n 9-(n+1))) 9)):=fun ty=>by
  have h:=Lib.run_append_grow_zeros w 51 3 ty 9 i0 _ .i64 .i64 Tryz.underlying51 Tryz.underlying3 hi0 hz0 (some ⟨g,0,none⟩) i n (xs.take (i)) hold (n+1-i) tZ1 (by rw [hzs];omega) tZ1 tZ1 (by rw [hzb];omega) (by rw [hzb,hik];exact growslice_fits tZ1 tZ1)
  rw [hik] at h
  rw [hkk]
  exact h
 obtain ⟨G,hG⟩:∃ G,G=grownCap w (n+1) n 9:=⟨_,rfl⟩
 have hGn:n+1≤G:=by rw [hG];exact grownCap_ge w _ _ _
 have hGm:G≤maxLen:=by rw [hG];exact grownCap_le_maxLen w (n+1) n 9 tZ12
 obtain ⟨ROW,hROW⟩:∃ ROW:List Value,ROW=xs.take (i)++((Builtin.zeroCells (Value.cells (.string ByteArray.empty)) (n+1-i)).toList++(Builtin.zeroCells (Value.cells (.string ByteArray.empty)) (G-(n+1))).toList):=⟨_,rfl⟩
 have hRA:(xs.take (i)).toArray++Builtin.zeroCells (Value.cells (.string ByteArray.empty)) (n+1-i)++Builtin.zeroCells (Value.cells (.string ByteArray.empty)) (G-(n+1))=ROW.toArray:=by
  rw [hROW]
  apply Array.toList_inj.1
  simp
 rw [← hG,hRA] at hrz
 have hRl:ROW.length=G:=by
  rw [hROW]
  simp [Builtin.zeroCells,Value.cells,hxl]
  omega
 have hRt:ROW.take (i)=xs.take (i):=by
  rw [hROW,List.take_append_of_le_length tZ148,List.take_take,Nat.min_self]
 obtain ⟨W1,hW1⟩:∃ W1,W1=w.drew.alloc (.cells ROW.toArray 9):=⟨_,rfl⟩
 rw [← hW1] at hrz
 have hrow:W1.heap[w.heap.size]?=some (.cells ROW.toArray 9 (0,0)):=by rw [hW1];exact heap_alloc_new w.drew _
 have hgr0:w.grownBy W1 none:=by
  rw [hW1]
  exact ⟨rfl,rfl,rfl,by simp,fun k hk _=>Below.heap_alloc w.drew _ k hk⟩
 have HX2:=Lib.hid (show ∀ (W:World),W.heap[g]?=w.heap[g]?→∀ (j:Nat) (u:Value),(xs.drop (i))[j]?=some u→W.cell? ((⟨g,i,none⟩:Addr).add j)=some u from fun W hW j u hj=>by
  rw [List.getElem?_drop] at hj
  have e:(⟨g,i,none⟩:Addr).add j=⟨g,i+j,none⟩:=tZ49
  rw [e,Blk.cell (w:=W) (t:=9) (hW.trans hg),← hj,← hxs,List.getElem?_take,if_pos tZ102]
  simp)
 have HV:=Lib.hid (show ∀ (w':World),w.grownBy w' none→∀ (j:Nat) (u:Value),news.toList[j]?=some u→w'.cell? ((⟨vb,0,none⟩:Addr).add j)=some u from fun w' hg' j u hj=>by
  rw [addr_add0,(hv.grown hg' tZ4).cell j]
  simpa using hj)
 have HXS:=Lib.hid hxs
 have HCL:=Lib.hid hcl
 have HXL:=Lib.hid hxl
 have HN:=Lib.hid hnl
 have HROW:=Lib.hid hrow
 have HRL:=Lib.hid hRl
 have HRT:=Lib.hid hRt
 have HGR0:=Lib.hid hgr0
 unfold maxLen at hGm
 have hw1:IntKind.i64.wrap ((i:Int)+1)=(i:Int)+1:=tZ117
 have hb1:(0:Int)≤(i:Int)+1:=tZ1
 have hin:i≤n:=tZ1
 have htn:((i:Int)+1).toNat=i+1:=tZ1
 have hb3:(i:Int)≤(n:Int):=tZ1
 have hGi:¬ (G=i):=tZ1
 have hGim:¬ (G=i+1):=tZ1
 have hci:¬ (n=i):=tZ1
 clear hg hxs hcl hxl hnl hv hold hkk hik hG hRA hROW hRl hRt hrow hgr0 hW1 hi0 hz0 hzs hzb
 go_enter Tryz.func82,Tryz.ntmps82
 go_wp2_with (first
  | (at_builtin;refine Lib.wpList_append_run _ rfl _ _ _ _ rfl _ _ rfl rfl _ _ (hrz _) ?_)
  | (with_reducible refine wpList_copyK rfl (.tmp 43) (.tmp 44) 51 51 rfl 9 1 Tryz.underlying51 Tryz.insTx_size w.heap.size (i) (n+1-i) (G-i) ⟨vb,0,none⟩ 1 1 1 rfl rfl ROW 9 HROW.out news.toList tZ61 tZ53 (HV.out W1 HGR0.out) tZ106 h1n ?_;intro w1 hg1 hgr1))
 clear hrz
 have hgr1':=grown_fresh HGR0.out hgr1 (Nat.le_refl _)
 obtain ⟨row1,hr1⟩:∃ row1,row1=splice ROW (i) news.toList:=⟨_,rfl⟩
 rw [← hr1] at hg1
 have hl1:row1.length=G:=by rw [hr1,length_splice _ _ _ tZ106];exact HRL.out
 have HL1:=Lib.hid hl1
 have HR1:=Lib.hid hr1
 have HGR:=Lib.hid hgr1'
 clear hl1 hr1 hgr1 hgr1'
 go_region_law (refine step_copyK rfl _ _ 51 51 rfl 9 1 Tryz.underlying51 Tryz.insTx_size w.heap.size (i+1) (n-i) (G-(i+1)) ⟨g,i,none⟩ (n-i) (n-i) (n-i) tZ30 tZ30 row1 9 hg1.out (xs.drop (i)) tZ61 tZ136 (HX2.out w1.drew (HGR.out.block g hgl tZ4)) tZ110 (fun u hu=>h1x u (List.mem_of_mem_drop hu)) ?_;intro w2 hg2 hgr2)
 go_wp2_with fail
 go_ret
 refine ⟨_,rfl,?_,grown_fresh HGR.out (grown_drew hgr2) (Nat.le_refl _)⟩
 refine own_of_row hg2.out hb hGn (by unfold maxLen;exact hGm) ?_ ?_
 ·rw [length_splice _ _ _ tZ110,Nat.mul_one];exact HL1.out
 ·rw [HR1.out,Nat.mul_one,show (n+1)=i+1+(n-i) by omega]
  exact take_grow HRT.out (by rw [List.length_take,HXL.out];omega) tZ53 (by rw [List.length_drop,HXL.out])
set_option maxRecDepth 100000 in
include hnl h1n in
theorem insTx_end (A0:Option Addr) (c0:Nat) (w:World) (hown:w.ownsRow base 9 1 (.slice A0 n c0) n xs) (hb:base≤w.heap.size) (hn:n≤5000000000000) (hv:Blk w vb T news) :
  Calls Tryz.prog 82 #[.slice A0 n c0,.int .i64 n,.slice (some ⟨vb,0,none⟩) 1 1] w fun e w' =>
   ∃ v,e=.returned v∧w'.ownsRow base 9 1 v (n+1) (xs++news.toList)∧w.grownBy w' (Value.slice A0 n c0).ownBlock:=by
 obtain ⟨i0,hi0,hz0,hz1,hz2⟩:=info_parts Tryz.insTx_info
 obtain ⟨hc,hm,_⟩:=own_reads hown
 unfold maxLen at hm
 have HN:=Lib.hid hnl
 have HNEW:=Lib.hid (show ∀ (j:Nat) (u:Value),news.toList[j]?=some u→w.cell? ((⟨vb,0,none⟩:Addr).add j)=some u from fun j u hj=>by rw [addr_add0,hv.cell j];simpa using hj)
 clear hnl hv
 by_cases hcn:c0=n
 ·subst hcn
  go_enter Tryz.func82,Tryz.ntmps82
  go_wp2_with (at_builtin;refine wpList_append_own _ rfl _ _ 51 rfl base 9 i0 (.string ByteArray.empty) 1 16 Tryz.underlying51 hi0 hz0 hz1 hz2 rfl tZ3 (.slice A0 c0 c0) c0 xs rfl hown ⟨vb,0,none⟩ 1 1 news.toList rfl tZ53 HNEW.out h1n tZ12 tZ1 hb ?_)
  intro v1 w1 hown1 hg1 _
  go_wp2_with fail
  go_ret
  exact ⟨v1,rfl,hown1,hg1⟩
 ·go_enter Tryz.func82,Tryz.ntmps82
  go_wp2_with (at_builtin;refine wpList_append_own _ rfl _ _ 51 rfl base 9 i0 (.string ByteArray.empty) 1 16 Tryz.underlying51 hi0 hz0 hz1 hz2 rfl tZ3 (.slice A0 n c0) n xs rfl hown ⟨vb,0,none⟩ 1 1 news.toList rfl tZ53 HNEW.out h1n tZ12 tZ1 hb ?_)
  intro v1 w1 hown1 hg1 _
  go_wp2_with fail
  go_ret
  exact ⟨v1,rfl,hown1,hg1⟩
include hnl h1n h1x in
/-- one element put in at a place -/
theorem insTx_any (A0:Option Addr) (c0:Nat) (w:World) (hi:i≤n) (hown:w.ownsRow base 9 1 (.slice A0 n c0) n xs) (hb:base≤w.heap.size) (hn:n≤5000000000000) (hv:Blk w vb T news) (hne:(Value.slice A0 n c0).ownBlock≠some vb) :
  Calls Tryz.prog 82 #[.slice A0 n c0,.int .i64 i,.slice (some ⟨vb,0,none⟩) 1 1] w fun e w' =>
   ∃ v,e=.returned v∧w'.ownsRow base 9 1 v (n+1) (xs.take (i)++news.toList++xs.drop (i))∧w.grownBy w' (Value.slice A0 n c0).ownBlock:=by
 by_cases hin:i=n
 ·subst hin
  rw [List.take_of_length_le (by rw [hown.1];omega),List.drop_eq_nil_of_le (by rw [hown.1];omega),List.append_nil]
  exact insTx_end news hnl h1n xs vb T base i A0 c0 w hown hb hn hv
 ·rcases hown.2 with ⟨_,h0⟩ | ⟨g,cap,cur,hs,hbg,hh,hnc,hcm,hsz,hx⟩
  ·omega
  ·injection hs with e1 _ e2
   subst e1 e2
   by_cases hroom:n+1≤c0
   ·exact (insTx_shift news hnl h1n xs h1x vb T base n i g c0 w cur.toList tZ1 hroom hcm (by simpa using hh) tZ114 tZ45 hbg hv (fun e=>hne (by rw [e];rfl))).mono (fun e w' h=>h)
   ·obtain rfl:c0=n:=tZ1
    refine (insTx_grow news hnl h1n xs h1x vb T base c0 i g w cur.toList tZ1 hn (by simpa using hh) tZ114 tZ45 hb hv).mono ?_
    rintro e w' ⟨v,h1,h2,h3⟩
    exact ⟨v,h1,h2,⟨h3.os,h3.tape,h3.output,h3.size,fun k hk _=>h3.block k hk tZ4⟩⟩
end
end Go.Proofs.YtiojfffgiejibaaGreatDoor
namespace Go.Proofs.YtiojfffgiejibaaGreatDoor
open Go.RowKit
section
variable {P:Program}
theorem run_append_rowK (w:World) (t ty elem:TypeId) (k:Nat) (g sLen sCap:Nat) (a:Addr) (xLen xCap:Nat) (cur:List Value) (T:TypeId) (cs:List Value)
  (hu:P.underlying t=some (.slice elem)) (hs:(P.info? elem).map (·.size)=some k)
  (hg:w.heap[g]?=some (.cells cur.toArray T (0,0))) (hn:cs.length=xLen*k)
  (hsrc:∀ j v,cs[j]?=some v→w.cell? (a.add j)=some v) (hfit:sLen*k+cs.length≤cur.length) (hroom:sLen+xLen≤sCap) (h1:∀ v∈cs,v.oneCell'=true) :
  (Builtin.append_ #[t,t] ty #[.slice (some ⟨g,0,none⟩) sLen sCap,.slice (some a) xLen xCap]).run P w =
   .ok (.slice (some ⟨g,0,none⟩) (sLen+xLen) sCap) (w.setRow g (splice cur (sLen*k) cs).toArray):=by
 have hl:=run_loadCells_list (P:=P) w a cs hsrc
 have hst:=run_storeCells_at P g (sLen*k) T cs 0 cur.toArray w hg (by simpa using hfit) h1
 cases hq:P.info? elem with
 | none=>simp [hq] at hs
 | some i =>
  have hi:i.size=k:=by simpa [hq] using hs
  simp [Builtin.append_,run_underlying hu,Builtin.lenOf,Builtin.firstCells,sizeOf,typeInfo,hq,hi,← hn,hl,hroom,addr_add0,hst,splice]
theorem wp_appendK {o:Oper} {a:Act} {w:World} {K:Act→World→Prop} {Q:Exit→Act→World→Prop} (d s:Operand) (t:TypeId)
  (ho:o.op=.call { callee:=.builtin .append,args:=#[d,s],argTypes:=#[t,t] }) (elem:TypeId) (k:Nat) (hu:P.underlying t=some (.slice elem)) (hsz:(P.info? elem).map (·.size)=some k)
  (g sLen sCap:Nat) (ad:Addr) (xLen xCap:Nat) (hd:a.eval d=.slice (some ⟨g,0,none⟩) sLen sCap) (hs:a.eval s=.slice (some ad) xLen xCap)
  (cur:List Value) (T:TypeId) (hg:w.heap[g]?=some (.cells cur.toArray T (0,0))) (cs:List Value) (hn:cs.length=xLen*k)
  (hsrc:∀ j v,cs[j]?=some v→w.cell? (ad.add j)=some v) (hfit:sLen*k+cs.length≤cur.length) (hroom:sLen+xLen≤sCap) (h1:∀ v∈cs,v.oneCell'=true)
  (h:∀ w',Hid (w'.heap[g]?=some (.cells (splice cur (sLen*k) cs).toArray T (0,0)))→w.grownBy w' (some g)→K (a.put o.dst (.slice (some ⟨g,0,none⟩) (sLen+xLen) sCap)) w'):o.wp P a w K Q:=by
 have hrun:=run_append_rowK (P:=P) w t o.type elem k g sLen sCap ad xLen xCap cur T cs hu hsz hg hn hsrc hfit hroom h1
 unfold Oper.wp
 simp [execOp,ho,resolve,invoke,builtin,hd,hs,hrun,Result.andThen]
 exact h _ (show _=_ by simpa [splice] using setRow_heap w g _ _ T _ hg) (grown_setRow _)
theorem step_appendK {ops:Array Oper} {o:Oper} {a:Act} {w:World} {K:Act→World→Prop} {Q:Exit→Act→World→Prop} {E:Prop} (hgd:o.guard=none) (d s:Operand) (t:TypeId)
  (ho:o.op=.call { callee:=.builtin .append,args:=#[d,s],argTypes:=#[t,t] }) (elem:TypeId) (k:Nat) (hu:P.underlying t=some (.slice elem)) (hsz:(P.info? elem).map (·.size)=some k)
  (g sLen sCap:Nat) (ad:Addr) (xLen xCap:Nat) (hd:a.eval d=.slice (some ⟨g,0,none⟩) sLen sCap) (hs:a.eval s=.slice (some ad) xLen xCap)
  (cur:List Value) (T:TypeId) (hg:w.heap[g]?=some (.cells cur.toArray T (0,0))) (cs:List Value) (hn:cs.length=xLen*k)
  (hsrc:∀ j v,cs[j]?=some v→w.cell? (ad.add j)=some v) (hfit:sLen*k+cs.length≤cur.length) (hroom:sLen+xLen≤sCap) (h1:∀ v∈cs,v.oneCell'=true)
  (h:∀ w',Hid (w'.heap[g]?=some (.cells (splice cur (sLen*k) cs).toArray T (0,0)))→w.grownBy w' (some g)→K (a.put o.dst (.slice (some ⟨g,0,none⟩) (sLen+xLen) sCap)) w') :
  if Region.wanted o (yielded ops a.tmps)=true then Oper.wp P o a w K Q else E:=by
 have hw:Region.wanted o (yielded ops a.tmps)=true:=tZ127
 rw [if_pos hw]
 exact wp_appendK d s t ho elem k hu hsz g sLen sCap ad xLen xCap hd hs cur T hg cs hn hsrc hfit hroom h1 h
end
end Go.Proofs.YtiojfffgiejibaaGreatDoor
namespace Go.Proofs.YtiojfffgiejibaaGreatDoor
open Go.RowKit
set_option maxRecDepth 100000 in
theorem lessT_any (x y:BS) (w:World):Calls Tryz.prog 132 #[.string ⟨x.toArray⟩,.string ⟨y.toArray⟩] w fun e w'=>e=.returned (.bool (Op.bytesLess x y))∧∃ q,w'=w.drewN q:=by
 exact mZ39
set_option maxRecDepth 100000 in
theorem isNaNT_any (x:BS) (w:World):Calls Tryz.prog 133 #[.string ⟨x.toArray⟩] w fun e w'=>e=.returned (.bool false)∧∃ q,w'=w.drewN q:=by
 go_enter Tryz.func133,Tryz.ntmps133
 exact mZ18
set_option maxRecDepth 100000 in
set_option maxHeartbeats 2000000 in
theorem searchT_any (l:List BS) (g:BS) (hl:SignAsc (fun x=>cmpS x g) l) (n:Nat) (hnl:n=l.length) (A:Option Addr) (c:Nat) (w:World) (B:Nat)
  (hr:Reads w B 1 A n (scells l)) (hB:B≤w.heap.size) (hn:n≤5000000000000) :
  Calls Tryz.prog 81 #[.slice A n c,.string ⟨g.toArray⟩] w fun e w'=>e=.returned (.tuple #[.int .i64 (posF (fun x=>cmpS x g) l),.bool (atF (fun x=>cmpS x g) l)])∧Below w.heap.size w w':=by
 have HN:=Lib.hid hnl
 have HL:=Lib.hid hl
 clear hnl hl
 go_enter Tryz.func81,Tryz.ntmps81
 go_wp2_with fail
 go_loopw [7,8] (fun i j wr=>∃ a b:Nat,a≤b∧b≤n∧i=.int .i64 (a:Int)∧j=.int .i64 (b:Int)∧Hid ((∀ (k:Nat) (x:BS),k<a→l[k]?=some x→cmpS x g<0)∧∀ (k:Nat) (x:BS),b≤k→l[k]?=some x→0≤cmpS x g)∧Below w.heap.size w wr) (fun i j _=>(intOf j).toNat-(intOf i).toNat)
 case atStart=>exact ⟨0,n,Nat.zero_le _,Nat.le_refl _,rfl,rfl,⟨fun k x hk _=>by omega,fun k x hk hx=>by have:=(List.getElem?_eq_some_iff.1 hx).1;have:=HN.out;omega⟩,Below.refl _ _⟩
 case round =>
  obtain ⟨a,b,hab,hbn,rfl,rfl,hI,hbw⟩:=hrel
  by_cases hlt:a<b
  ·obtain ⟨h,hh⟩:∃ h,h=(a+b) / 2:=⟨_,rfl⟩
   have hha:a≤h:=tZ1
   have hhb:h<b:=tZ1
   have hlI:(a:Int)<(b:Int):=tZ1
   have hrw:=hr.below (hbw.mono hB)
   obtain ⟨ad,rfl,hadB,c0⟩:=strs_at hrw HN.out (show h<n by omega)
   obtain ⟨x,hx⟩:∃ x,x=l[h]'tZ9:=⟨_,rfl⟩
   rw [← hx] at c0
   simp only [strV] at c0
   have HX:=Lib.hid (show l[h]?=some x by rw [hx];exact List.getElem?_eq_getElem _)
   have HH:=Lib.hid hh
   have hcx:=lessT_any x g wr
   obtain ⟨z,hz⟩:∃ z,z=Op.bytesLess x g:=⟨_,rfl⟩
   rw [← hz] at hcx
   have HZ:Hid (cmpS x g<0↔z=true):=by show _↔_;rw [hz];exact cmpS_neg x g
   clear hx hr hz
   rw [hh] at c0
   clear hh
   go_wp2_with fail
   refine hcx.mono ?_
   clear hcx
   rintro e w1 ⟨rfl,q,hw1⟩
   have hbw1:Below w.heap.size w w1:=tZ146
   clear hw1
   cases z with
   | true =>
    have HZ2:Hid (cmpS x g<0):=HZ.out.2 rfl
    clear HZ
    go_wp2_with fail
    go_roundw
    case rel =>
     refine ⟨h+1,b,by omega,hbn,by rw [HH.out];go_num,rfl,⟨fun k y hk hy=>?_,hI.out.2⟩,hbw1⟩
     by_cases hkh:k=h
     ·subst hkh
      have:=HX.out
      rw [hy] at this
      cases this
      exact HZ2.out
     ·exact HL.out k h y x tZ1 hy HX.out HZ2.out
    case measure=>simp [intOf];omega
   | false =>
    have HZ2:Hid (¬ cmpS x g<0):=fun h0=>by cases HZ.out.1 h0
    clear HZ
    go_wp2_with fail
    go_roundw
    case rel =>
     refine ⟨a,h,by omega,by omega,rfl,by rw [HH.out];go_num,⟨hI.out.1,fun k y hk hy=>?_⟩,hbw1⟩
     by_cases hkh:k=h
     ·subst hkh
      have:=HX.out
      rw [hy] at this
      cases this
      have:=HZ2.out
      omega
     ·have h1:cmpS y g<0→cmpS x g<0:=HL.out h k x y tZ1 HX.out hy
      have:=HZ2.out
      omega
    case measure=>simp [intOf];omega
  ·obtain rfl:a=b:=tZ1
   have hpos:posF (fun x=>cmpS x g) l=a:=posF_eq _ l a tZ9 hI.out.1 (fun x hx=>hI.out.2 a x (Nat.le_refl _) hx)
   have hrw:=hr.below (hbw.mono hB)
   by_cases han:a<n
   ·have hani:(a:Int)<(n:Int):=tZ1
    obtain ⟨ad,rfl,hadB,c0⟩:=strs_at hrw HN.out han
    obtain ⟨x,hx⟩:∃ x,x=l[a]'tZ9:=⟨_,rfl⟩
    rw [← hx] at c0
    simp only [strV] at c0
    have hat:atF (fun x=>cmpS x g) l=(cmpS x g == 0):=by
     unfold atF
     rw [hpos,List.getElem?_eq_getElem tZ9,← hx]
     rfl
    have HPOS:=Lib.hid hpos
    have hna:=isNaNT_any x wr
    by_cases hxg:x=g
    ·have HAT:Hid (atF (fun x=>cmpS x g) l=true):=by show _=_;rw [hat,(cmpS_zero x g).2 hxg];rfl
     clear hx hr hrw hpos hat
     subst hxg
     go_wp2_with fail
     go_ret2
     exact ⟨by rw [HPOS.out,HAT.out];rfl,hbw⟩
    ·have HAT:Hid (atF (fun x=>cmpS x g) l=false):=by show _=_;rw [hat];simpa using fun h=>hxg ((cmpS_zero x g).1 h)
     have hxg1:(x == g)=false:=by simpa using hxg
     have hxg2:(x.toArray == g.toArray)=false:=by simpa using hxg
     clear hx hr hrw hpos hat hxg
     go_wp2_with fail
     refine hna.mono ?_
     clear hna
     rintro e w1 ⟨rfl,q,hw1⟩
     have hbw1:Below w.heap.size w w1:=tZ146
     clear hw1
     go_wp2_with fail
     go_ret2
     exact ⟨by rw [HPOS.out,HAT.out];rfl,hbw1⟩
   ·have hat:atF (fun x=>cmpS x g) l=false:=by
     unfold atF
     rw [hpos,List.getElem?_eq_none tZ9]
     rfl
    have HPOS:=Lib.hid hpos
    have HAT:=Lib.hid hat
    clear hr hrw hpos hat
    go_wp2_with fail
    go_ret2
    exact ⟨by rw [HPOS.out,HAT.out];rfl,hbw⟩
end Go.Proofs.YtiojfffgiejibaaGreatDoor
namespace Go.Proofs.YtiojfffgiejibaaGreatDoor
open Go.RowKit
theorem Tryz.cloneS0_size:(Tryz.prog.info? 9).map (·.size)=some 1:=tZ2
section
variable {P:Program}
theorem wpList_appendK {ops:Array Oper} {rest:List Oper} {o:Oper} {a:Act} {w:World} {Q:Exit→Act→World→Prop} (hgd:o.guard=none) (d s:Operand) (t:TypeId)
  (ho:o.op=.call { callee:=.builtin .append,args:=#[d,s],argTypes:=#[t,t] }) (elem:TypeId) (k:Nat) (hu:P.underlying t=some (.slice elem)) (hsz:(P.info? elem).map (·.size)=some k)
  (g sLen sCap:Nat) (ad:Addr) (xLen xCap:Nat) (hd:a.eval d=.slice (some ⟨g,0,none⟩) sLen sCap) (hs:a.eval s=.slice (some ad) xLen xCap)
  (cur:List Value) (T:TypeId) (hg:w.heap[g]?=some (.cells cur.toArray T (0,0))) (cs:List Value) (hn:cs.length=xLen*k)
  (hsrc:∀ j v,cs[j]?=some v→w.cell? (ad.add j)=some v) (hfit:sLen*k+cs.length≤cur.length) (hroom:sLen+xLen≤sCap) (h1:∀ v∈cs,v.oneCell'=true)
  (h:∀ w',Hid (w'.heap[g]?=some (.cells (splice cur (sLen*k) cs).toArray T (0,0)))→w.grownBy w' (some g)→wpList P ops Q rest (a.put o.dst (.slice (some ⟨g,0,none⟩) (sLen+xLen) sCap)) w'):wpList P ops Q (o :: rest) a w :=
 wpList_plain hgd fun _ hK=>wp_appendK d s t ho elem k hu hsz g sLen sCap ad xLen xCap hd hs cur T hg cs hn hsrc hfit hroom h1 fun w' h2 h3=>hK _ _ (h w' h2 h3)
end
set_option maxRecDepth 100000 in
theorem cloneS0_any (A:Option Addr) (c:Nat) (w:World) :
  Calls Tryz.prog 83 #[.slice A 0 c] w fun e w'=>∃ A',e=.returned (.slice A' 0 0)∧w'.ownsRow w.heap.size 9 1 (.slice A' 0 0) 0 []∧Below w.heap.size w w':=by
 rcases A with _ | ad
 ·exact mZ137
 ·have heq:=fun W=>Lib.run_eql_slice_nil (P:=Tryz.prog) W 51 9 (some ad) 0 c 0 0 Tryz.underlying51
  go_enter Tryz.func83,Tryz.ntmps83
  go_wp2_with (at_builtin;(refine wpList_appendK rfl (.tmp 5) (.tmp 6) _ rfl 9 1 Tryz.underlying51 Tryz.cloneS0_size w.heap.size 0 0 ad 0 c rfl rfl [] 9 (Blk.new w 9 #[]) [] rfl (fun j v h=>by simp at h) (Nat.le_refl _) (Nat.le_refl _) (fun v h=>by simp at h) ?_);intro w2 hh1 hg1)
  go_ret
  refine ⟨_,rfl,⟨rfl,.inr ⟨w.heap.size,0,#[],rfl,Nat.le_refl _,hh1,Nat.le_refl _,by simp [maxLen],rfl,rfl⟩⟩,((Below.refl _ _).alloc (Nat.le_refl _) _).grown hg1 tZ4 (fun k hk=>?_)⟩
  injection hk with hk
  omega
theorem cloneS2_any (xs:List Value) (n:Nat) (A:Option Addr) (c:Nat) (w:World) (B:Nat) (hr:Reads w B 1 A n xs) (hB:B≤w.heap.size) (h1:∀ u∈xs,u.oneCell'=true) (hn:n*16≤140737488355328) :
  Calls Tryz.prog 83 #[.slice A n c] w fun e w'=>∃ A' c',e=.returned (.slice A' n c')∧(n=0→c'=0)∧w'.ownsRow w.heap.size 9 1 (.slice A' n c') n xs∧Below w.heap.size w w':=by
 rcases Nat.eq_zero_or_pos n with h0 | h0
 ·subst h0
  obtain rfl:xs=[]:=List.eq_nil_of_length_eq_zero tZ67
  refine (cloneS0_any A c w).mono ?_
  rintro e w' ⟨A',rfl,ho,hb⟩
  exact ⟨A',0,rfl,fun _=>rfl,ho,hb⟩
 ·refine (cloneSt_any xs n A c w B hr hB h1 hn).mono ?_
  rintro e w' ⟨v,rfl,ho,hb⟩
  obtain ⟨v1,v3,rfl,_⟩:=own_form ho
  exact ⟨v1,v3,rfl,fun h=>by omega,ho,hb⟩
/-- a row of tags is another block than a row of one other tag -/
theorem own_ne_one {W:World} {base n b:Nat} {A:Option Addr} {c:Nat} {xs:List Value} {u:Value} (h:W.ownsRow base 9 1 (.slice A n c) n xs) (hc:n=0→c=0) (hb:Blk W b 9 #[u]) (hne:xs≠[u]):(Value.slice A n c).ownBlock≠some b:=by
 intro e
 rcases h.2 with ⟨h1,_⟩ | ⟨g,cap,cur,h1,_,hg,hn,_,hs,hx⟩
 ·rw [h1] at e;simp [Value.ownBlock] at e
 ·rw [h1] at e
  have e:g=b:=by simpa [Value.ownBlock] using e
  subst e
  injection h1 with h2 h3 h4
  subst h4
  have hg2:W.heap[g]?=some (.cells #[u] 9 (0,0)):=hb
  rw [hg] at hg2
  injection hg2 with hg2
  injection hg2 with hg2
  subst hg2
  have h5:c=1:=by simpa using hs.symm
  have h6:n=1:=tZ1
  subst h6
  exact hne (by simpa using hx.symm)
end Go.Proofs.YtiojfffgiejibaaGreatDoor
