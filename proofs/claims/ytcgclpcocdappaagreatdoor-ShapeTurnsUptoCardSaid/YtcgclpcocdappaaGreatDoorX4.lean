/-
  A region's class walk, with the slots as a list: lighter steps. A wide store into a block that has been made before. Contents of blocks: what may be is small; the block's size. A wide struct's load in a region that is walked by a class of worlds. A world for the witness: the settled one, utf8's two tables holding what their initialisers lay. slices.Insert of one element into a row of the call's own, by its contract. slices.Insert of one element into a row of the call's own, by its contract. slices.Insert of one element into a row of the call's own, by its contract.
-/
import Derived.Test.YtcgclpcocdappaaGreatDoorXM1
import Derived.Test.YtcgclpcocdappaaGreatDoorX0
import Derived.Test.YtcgclpcocdappaaGreatDoorX2
import Derived.Test.YtcgclpcocdappaaGreatDoorX1
import Derived.Test.YtcgclpcocdappaaGreatDoorRows
import Derived.ProofKit
import Derived.Test.YtcgclpcocdappaaGreatDoorCards
import Derived.Test.YtcgclpcocdappaaGreatDoorTie
import Derived.Deep.DeepHandedRow
import Derived.Lib.LaidTab
import Derived.Test.YtcgclpcocdappaaGreatDoorX3
import Derived.Handy
import Derived.Lib.AppendZeros
namespace Go.Proofs.YtcgclpcocdappaaGreatDoor
open Go.RowKit
section
variable {P:Program} {ops:Array Oper} {C:World→Prop} {Q:Act→Prop}
theorem put_toArray (l:List Value) (d:List Deferred) (k:Nat) (v:Value):(Act.put ⟨l.toArray,d⟩ (some k) v)=⟨(l.set k v).toArray,d⟩:=by
 simp [Act.put]
theorem wpC_readS {o:Oper} {rest:List Oper} {l:List Value} {d:List Deferred} {v:Value} {k:Nat} (hg:o.guard=none) (hd:o.dst=some k) (h:∀ w,C w→o.quietAt P ⟨l.toArray,d⟩ C w v) (hn:wpQuiet P ops C Q rest ⟨(l.set k v).toArray,d⟩):wpQuiet P ops C Q (o :: rest) ⟨l.toArray,d⟩ :=
 wpC_read hg h (by rw [hd,put_toArray];exact hn)
theorem wpC_greadS {o:Oper} {rest:List Oper} {l:List Value} {d:List Deferred} {v:Value} {j g k:Nat} {b:Bool} (hg:o.guard=some (g,b)) (hj:o.dst=some j) (hd:(ops[g]?).bind (·.dst)=some k) (ht:l[k]?.getD undef=.bool b)
  (h:∀ w,C w→o.quietAt P ⟨l.toArray,d⟩ C w v) (hn:wpQuiet P ops C Q rest ⟨(l.set j v).toArray,d⟩):wpQuiet P ops C Q (o :: rest) ⟨l.toArray,d⟩ :=
 wpC_gread hg hd (by simpa using ht) h tZ176
theorem wpC_skipS {o:Oper} {rest:List Oper} {l:List Value} {d:List Deferred} {j g k:Nat} {b:Bool} (hg:o.guard=some (g,b)) (hj:o.dst=some j) (hd:(ops[g]?).bind (·.dst)=some k) (ht:l[k]?.getD undef=.bool (!b)∨l[k]?.getD undef=undef)
  (hn:wpQuiet P ops C Q rest ⟨(l.set j undef).toArray,d⟩):wpQuiet P ops C Q (o :: rest) ⟨l.toArray,d⟩ :=
 wpC_skip hg hd (by simpa using ht) tZ176
end
end Go.Proofs.YtcgclpcocdappaaGreatDoor
namespace Go.Proofs.YtcgclpcocdappaaGreatDoor
open Go.RowKit
theorem Blk.setCells {g:Nat} {t:TypeId} (cs:List Value):∀ (w:World) (pre post:List Value),post.length=cs.length→Blk w g t (pre++post).toArray→Blk (w.setCells g pre.length cs) g t (pre++cs).toArray:=by
 induction cs with
 | nil =>
  intro w pre post h hb
  rw [List.eq_nil_of_length_eq_zero h] at hb
  exact hb
 | cons v cs ih =>
  intro w pre post h hb
  cases post with
  | nil=>simp at h
  | cons p post =>
   have h1:=hb.set_ pre.length v
   rw [show (pre++p :: post).toArray.setIfInBounds pre.length v=((pre++[v])++post).toArray by simp [List.set_append_right]] at h1
   have:=ih (w.setCell ⟨g,pre.length,none⟩ v) (pre++[v]) post tZ72 h1
   rw [List.length_append] at this
   rw [show pre++v :: cs=pre++[v]++cs by simp]
   exact this
theorem below_setCells {B g:Nat} {a:World} (hg:B≤g) (cs:List Value):∀ (w:World) (o:Nat),Below B a w→Below B a (w.setCells g o cs):=by
 induction cs with
 | nil=>intro w o h;exact h
 | cons v cs ih=>intro w o h;exact ih _ _ (h.setCell (p:=⟨g,o,none⟩) hg v)
theorem Blk.there {w:World} {g:Nat} {t:TypeId} {cs:Array Value} (h:Blk w g t cs) (n:Nat) (hn:n≤cs.size):w.there g 0 n:=by
 intro j hj
 rw [Nat.zero_add]
 exact ⟨by rw [h.cell j];simp;omega,h.frozen j⟩
end Go.Proofs.YtcgclpcocdappaaGreatDoor
namespace Go.Proofs.YtcgclpcocdappaaGreatDoor
open Go.RowKit
theorem Tryz.infoB:(Tryz.prog.info? 75).map (fun i=>(i.zero,i.size,i.bytes))=some (some (.agg #[.int .i64 0,.string ByteArray.empty]),2,24):=tZ2
theorem okFrom_small (p:Int) (l:BL) (hp:-1≤p) (h:okFrom (some p) l=true):(l.length:Int)+p<1024∨l=[]:=by
 induction l generalizing p with
 | nil=>exact .inr rfl
 | cons x l ih =>
  simp only [okFrom,Bool.and_eq_true,decide_eq_true_eq] at h
  obtain ⟨⟨⟨⟨h1,h2⟩,_⟩,h4⟩,h5⟩:=h
  left
  rcases ih x.1 tZ1 h5 with h | rfl
  ·rw [List.length_cons];omega
  ·simp;omega
theorem okL_small (l:BL) (h:okL l=true):l.length≤1024:=by
 cases l with
 | nil=>simp
 | cons x l =>
  unfold okL at h
  simp only [okFrom,Bool.and_eq_true,decide_eq_true_eq] at h
  obtain ⟨⟨⟨⟨h1,h2⟩,_⟩,_⟩,h5⟩:=h
  rcases okFrom_small x.1 l tZ1 h5 with h | rfl
  ·rw [List.length_cons];omega
  ·simp
end Go.Proofs.YtcgclpcocdappaaGreatDoor
namespace Go.Proofs.YtcgclpcocdappaaGreatDoor
open Go.RowKit
theorem quiet_load_at {P:Program} {o:Oper} {a:Act} {C:World→Prop} {w:World} (ty:TypeId) (x:Operand) (ho:o.op=.load ty x) (ad:Addr) (hx:a.eval x=.pointer (some ad)) (cs:List Value) (d:TypeDesc)
  (hc:∀ (j:Nat) (v:Value),cs[j]?=some v→w.cell? (ad.add j)=some v) (hu:P.underlying ty=some d) (hd:d.isRow=true) (hi:(P.info? ty).map (·.size)=some cs.length):o.quietAt P a C w (.agg cs.toArray):=by
 unfold Oper.quietAt execOp
 simp only [ho,hx,Instr.loadAt,Instr.sureAddr,Sem.run_bind,Sem.run_pure,Result.andThen_ok,run_loadVar_at w ad ty cs d hc hu hd hi]
 exact ⟨rfl,rfl⟩
end Go.Proofs.YtcgclpcocdappaaGreatDoor
namespace Go.Proofs.YtcgclpcocdappaaGreatDoor
def u8s (l:List Nat):Array Value:=(l.map fun (n:Nat)=>Value.int .u8 (Int.ofNat n)).toArray
def layCells (c:Array Value):Obj→Obj
 | .cells _ t frozen=>.cells c t frozen
 | o=>o
noncomputable def laidWorld (os:Os):World :=
 { World.holding Tryz.prog os ⟨#[],#[],[]⟩ with heap:=((World.holding Tryz.prog os ⟨#[],#[],[]⟩).heap.modify 2 (layCells (u8s ([128,191,160,191,128,159,144,191,128,143]++List.replicate 22 0)))).modify 1 (layCells (u8s Go.Pinned.utf8FirstZ)) }
end Go.Proofs.YtcgclpcocdappaaGreatDoor
namespace Go.Proofs.YtcgclpcocdappaaGreatDoor
open Go.RowKit
theorem Tryz.insSet_info:(Tryz.prog.info? 42).map (fun i=>(i.zero,i.size,i.bytes))=some (some (.agg #[.string ByteArray.empty,.string ByteArray.empty,.slice none 0 0,.slice none 0 0,.slice none 0 0]),5,104):=tZ2
theorem Tryz.insSet_size:(Tryz.prog.info? 42).map (·.size)=some 5:=tZ2
theorem Tryz.insSet_ov:Tryz.prog.funcs[189]?=some Tryz.f189:=tZ2
section
variable (news:Array Value) (hnl:news.size=5) (h1n:∀ u∈news.toList,u.oneCell'=true) (xs:List Value) (h1x:∀ u∈xs,u.oneCell'=true) (vb:Nat) (T:TypeId) (base n i:Nat)
set_option maxRecDepth 100000 in
include hnl h1n h1x in
theorem insSet_shift (g c0:Nat) (w:World) (cur:List Value) (hlt:i<n) (hroom:n+1≤c0) (hcm:c0≤maxLen) (hg:w.heap[g]?=some (.cells cur.toArray 42 (0,0))) (hcl:cur.length=c0*5) (hxs:cur.take (n*5)=xs) (hbg:base≤g) (hv:Blk w vb T news) (hne:g≠vb) :
  Calls Tryz.prog 148 #[.slice (some ⟨g,0,none⟩) n c0,.int .i64 i,.slice (some ⟨vb,0,none⟩) 1 1] w fun e w' =>
   ∃ v,e=.returned v∧w'.ownsRow base 42 5 v (n+1) (xs.take (i*5)++news.toList++xs.drop (i*5))∧w.grownBy w' (some g):=by
 have hxl:xs.length=n*5:=tZ46
 have hsb:=shape_of hg
 have hsa:=shape_of hv
 have HX2:=Lib.hid (show ∀ (j:Nat) (u:Value),(xs.drop (i*5))[j]?=some u→w.cell? ((⟨g,i*5,none⟩:Addr).add j)=some u from fun j u hj=>by
  rw [List.getElem?_drop] at hj
  have e:(⟨g,i*5,none⟩:Addr).add j=⟨g,i*5+j,none⟩:=tZ26
  rw [e,Blk.cell (t:=42) hg,← hj,← hxs,List.getElem?_take,if_pos tZ36]
  simp)
 have HV:=Lib.hid (show ∀ (w':World),w.grownBy w' (some g)→∀ (j:Nat) (u:Value),news.toList[j]?=some u→w'.cell? ((⟨vb,0,none⟩:Addr).add j)=some u from fun w' hg' j u hj=>by
  rw [addr_add0,(hv.grown hg' (by intro e;injection e with e;exact hne e.symm)).cell j]
  simpa using hj)
 have hov:∀ lb cb,(callFunc 189 #[.slice (some ⟨vb,0,none⟩) 1 1,.slice (some ⟨g,(i+1)*5,none⟩) lb cb]).run Tryz.prog w=.ok (.value (.bool false)) w:=fun lb cb=>by
  rw [run_callFunc_extern Tryz.insSet_ov tZ2 tZ2 tZ2 (e:=Extern.SlicesOverlaps.overlaps #[22,22] #[4]) tZ2,
   Lib.run_overlaps_apart w 22 4 42 Tryz.underlying22 5 (by intro w;exact Tryz.sizeOf42 w) ⟨vb,0,none⟩ ⟨g,(i+1)*5,none⟩ 1 1 lb cb (fun e=>hne e.symm) T 42 news.size cur.toArray.size hsa hsb tZ118 (hv.frozen 0) (by rw [hnl];exact hv.frozen 5)]
  rfl
 have HG:=Lib.hid hg
 have HXS:=Lib.hid hxs
 have HCL:=Lib.hid hcl
 have HXL:=Lib.hid hxl
 have HN:=Lib.hid hnl
 unfold maxLen at hcm
 have hw1:IntKind.i64.wrap ((i:Int)+1)=(i:Int)+1:=tZ22
 have hb1:(0:Int)≤(i:Int)+1:=tZ1
 have hin:i≤n:=tZ1
 have htn:((i:Int)+1).toNat=i+1:=tZ1
 have hb2:¬ (c0=i+1):=tZ1
 have hb3:(i:Int)≤(n:Int)+1:=tZ1
 have hb4:¬ (c0=i):=tZ1
 clear hg hxs hcl hxl hsa hsb hnl hv
 go_enter Tryz.func148,Tryz.ntmps148
 go_wp2_with (simp only [hov])
 go_region_law (refine step_copyK rfl _ _ 22 22 rfl 42 5 Tryz.underlying22 Tryz.insSet_size g ((i+1)*5) (n-i) (c0-(i+1)) ⟨g,i*5,none⟩ (n+1-i) (c0-i) (n-i) tZ19 tZ19 cur 42 HG.out (xs.drop (i*5)) tZ16 tZ41 HX2.out tZ40 (fun u hu=>h1x u (List.mem_of_mem_drop hu)) ?_;intro w1 hg1 hgr1)
 have hgr1':=grown_drew hgr1
 obtain ⟨cur1,hc1⟩:∃ cur1,cur1=splice cur ((i+1)*5) (xs.drop (i*5)):=⟨_,rfl⟩
 rw [← hc1] at hg1
 have hl1:cur1.length=c0*5:=by rw [hc1,length_splice _ _ _ tZ40];exact HCL.out
 have HL1:=Lib.hid hl1
 have HC1:=Lib.hid hc1
 have HGR:=Lib.hid hgr1'
 clear hl1 hc1 hgr1 hgr1' hov hw1 htn
 go_wp2_with (with_reducible refine wpList_copyK rfl (.tmp 80) (.tmp 81) 22 22 rfl 42 5 Tryz.underlying22 Tryz.insSet_size g (i*5) (n+1-i) (c0-i) ⟨vb,0,none⟩ 1 1 1 rfl rfl cur1 42 hg1.out news.toList tZ16 tZ17 (HV.out w1 HGR.out) tZ65 h1n ?_;intro w2 hg2 hgr2)
 go_ret
 refine ⟨_,rfl,?_,HGR.out.trans hgr2⟩
 refine own_of_row hg2.out hbg hroom (by unfold maxLen;exact hcm) ?_ ?_
 ·exact mZ41
 ·rw [HC1.out,show (n+1)*5=n*5+5 by omega,show (i+1)*5=i*5+5 by omega]
  exact mZ40
set_option maxRecDepth 100000 in
include hnl h1n h1x in
theorem insSet_grow (g:Nat) (w:World) (cur:List Value) (hlt:i<n) (hn:n≤1000000000) (hg:w.heap[g]?=some (.cells cur.toArray 42 (0,0))) (hcl:cur.length=n*5) (hxs:cur.take (n*5)=xs) (hb:base≤w.heap.size) (hv:Blk w vb T news) :
  Calls Tryz.prog 148 #[.slice (some ⟨g,0,none⟩) n n,.int .i64 i,.slice (some ⟨vb,0,none⟩) 1 1] w fun e w' =>
   ∃ v,e=.returned v∧w'.ownsRow base 42 5 v (n+1) (xs.take (i*5)++news.toList++xs.drop (i*5))∧w.grownBy w' none:=by
 obtain ⟨i0,hi0,hz0,hzs,hzb⟩:=info_parts Tryz.insSet_info
 have hxl:xs.length=n*5:=tZ46
 have hgl:=heap_lt hg
 have hvl:=hv.lt
 have hold:(Builtin.firstCells i0.size i (.slice (some ⟨g,0,none⟩) i n)).run Tryz.prog w.drew=.ok (xs.take (i*5)).toArray w.drew:=by
  rw [hzs]
  exact run_firstCells_some w.drew 5 i ⟨g,0,none⟩ i n (xs.take (i*5)) tZ84 (fun j v hj=>by
   rw [addr_add0]
   rw [List.getElem?_take] at hj
   split at hj
   ·have:(w.drew).cell? ⟨g,j,none⟩=cur.toArray[j]?:=Blk.cell (t:=42) hg j
    exact mZ47
   ·cases hj)
 have hkk:(n:Int)+1-(i:Int)=((n+1-i:Nat):Int):=tZ1
 have hik:i+(n+1-i)=n+1:=tZ1
 have hrz:∀ ty,(Builtin.append_ #[22,3] ty #[.slice (some ⟨g,0,none⟩) i n,.int .i64 ((n:Int)+1-(i:Int))]).run Tryz.prog w =
   .ok (.slice (some ⟨w.heap.size,0,none⟩) (n+1) (grownCap w (n+1) n 42)) (w.drew.alloc (.cells ((xs.take (i*5)).toArray++Builtin.zeroCells (Value.cells (.agg #[.string ByteArray.empty,.string ByteArray.empty,.slice none 0 0,.slice none 0 0,.slice none 0 0])) (n+1-i)++Builtin.zeroCells (Value.cells (.agg #[.string ByteArray.empty,.string ByteArray.empty,.slice none 0 0,.slice none 0 0,.slice none 0 0])) (grownCap w (n+1) n 42-(n+1))) 42)):=fun ty=>by
  have h:=Lib.run_append_grow_zeros w 22 3 ty 42 i0 _ .i64 .i64 Tryz.underlying22 Tryz.underlying3 hi0 hz0 (some ⟨g,0,none⟩) i n (xs.take (i*5)) hold (n+1-i) tZ1 (by rw [hzs];omega) tZ1 tZ1 (by rw [hzb];omega) (by rw [hzb,hik];exact growslice_fits tZ1 tZ1)
  rw [hik] at h
  rw [hkk]
  exact h
 obtain ⟨G,hG⟩:∃ G,G=grownCap w (n+1) n 42:=⟨_,rfl⟩
 have hGn:n+1≤G:=tZ117
 have hGm:G≤maxLen:=by rw [hG];exact grownCap_le_maxLen w (n+1) n 42 tZ9
 obtain ⟨ROW,hROW⟩:∃ ROW:List Value,ROW=xs.take (i*5)++((Builtin.zeroCells (Value.cells (.agg #[.string ByteArray.empty,.string ByteArray.empty,.slice none 0 0,.slice none 0 0,.slice none 0 0])) (n+1-i)).toList++(Builtin.zeroCells (Value.cells (.agg #[.string ByteArray.empty,.string ByteArray.empty,.slice none 0 0,.slice none 0 0,.slice none 0 0])) (G-(n+1))).toList):=⟨_,rfl⟩
 have hRA:(xs.take (i*5)).toArray++Builtin.zeroCells (Value.cells (.agg #[.string ByteArray.empty,.string ByteArray.empty,.slice none 0 0,.slice none 0 0,.slice none 0 0])) (n+1-i)++Builtin.zeroCells (Value.cells (.agg #[.string ByteArray.empty,.string ByteArray.empty,.slice none 0 0,.slice none 0 0,.slice none 0 0])) (G-(n+1))=ROW.toArray:=by
  rw [hROW]
  apply Array.toList_inj.1
  simp
 rw [← hG,hRA] at hrz
 have hRl:ROW.length=G*5:=by
  exact mZ46
 have hRt:ROW.take (i*5)=xs.take (i*5):=by
  exact mZ45
 obtain ⟨W1,hW1⟩:∃ W1,W1=w.drew.alloc (.cells ROW.toArray 42):=⟨_,rfl⟩
 rw [← hW1] at hrz
 have hrow:W1.heap[w.heap.size]?=some (.cells ROW.toArray 42 (0,0)):=tZ97
 have hgr0:w.grownBy W1 none:=by
  exact mZ44
 have HX2:=Lib.hid (show ∀ (W:World),W.heap[g]?=w.heap[g]?→∀ (j:Nat) (u:Value),(xs.drop (i*5))[j]?=some u→W.cell? ((⟨g,i*5,none⟩:Addr).add j)=some u from fun W hW j u hj=>by
  rw [List.getElem?_drop] at hj
  have e:(⟨g,i*5,none⟩:Addr).add j=⟨g,i*5+j,none⟩:=tZ26
  rw [e,Blk.cell (w:=W) (t:=42) (hW.trans hg),← hj,← hxs,List.getElem?_take,if_pos tZ36]
  simp)
 have HV:=Lib.hid (show ∀ (w':World),w.grownBy w' none→∀ (j:Nat) (u:Value),news.toList[j]?=some u→w'.cell? ((⟨vb,0,none⟩:Addr).add j)=some u from fun w' hg' j u hj=>by
  rw [addr_add0,(hv.grown hg' tZ3).cell j]
  simpa using hj)
 have HXS:=Lib.hid hxs
 have HCL:=Lib.hid hcl
 have HXL:=Lib.hid hxl
 have HN:=Lib.hid hnl
 have HROW:=Lib.hid hrow
 have HRL:=Lib.hid hRl
 have HRT:=Lib.hid hRt
 have HGR0:=Lib.hid hgr0
 unfold maxLen at hGm
 have hw1:IntKind.i64.wrap ((i:Int)+1)=(i:Int)+1:=tZ22
 have hb1:(0:Int)≤(i:Int)+1:=tZ1
 have hin:i≤n:=tZ1
 have htn:((i:Int)+1).toNat=i+1:=tZ1
 have hb3:(i:Int)≤(n:Int):=tZ1
 have hGi:¬ (G=i):=tZ1
 have hGim:¬ (G=i+1):=tZ1
 have hci:¬ (n=i):=tZ1
 clear hg hxs hcl hxl hnl hv hold hkk hik hG hRA hROW hRl hRt hrow hgr0 hW1 hi0 hz0 hzs hzb
 go_enter Tryz.func148,Tryz.ntmps148
 go_wp2_with (first
  | (at_builtin;refine Lib.wpList_append_run _ rfl _ _ _ _ rfl _ _ rfl rfl _ _ (hrz _) ?_)
  | (with_reducible refine wpList_copyK rfl (.tmp 43) (.tmp 44) 22 22 rfl 42 5 Tryz.underlying22 Tryz.insSet_size w.heap.size (i*5) (n+1-i) (G-i) ⟨vb,0,none⟩ 1 1 1 rfl rfl ROW 42 HROW.out news.toList tZ16 tZ17 (HV.out W1 HGR0.out) tZ37 h1n ?_;intro w1 hg1 hgr1))
 clear hrz
 have hgr1':=grown_fresh HGR0.out hgr1 (Nat.le_refl _)
 obtain ⟨row1,hr1⟩:∃ row1,row1=splice ROW (i*5) news.toList:=⟨_,rfl⟩
 rw [← hr1] at hg1
 have hl1:row1.length=G*5:=by rw [hr1,length_splice _ _ _ tZ37];exact HRL.out
 have HL1:=Lib.hid hl1
 have HR1:=Lib.hid hr1
 have HGR:=Lib.hid hgr1'
 clear hl1 hr1 hgr1 hgr1'
 go_region_law (refine step_copyK rfl _ _ 22 22 rfl 42 5 Tryz.underlying22 Tryz.insSet_size w.heap.size ((i+1)*5) (n-i) (G-(i+1)) ⟨g,i*5,none⟩ (n-i) (n-i) (n-i) tZ19 tZ19 row1 42 hg1.out (xs.drop (i*5)) tZ16 tZ41 (HX2.out w1.drew (HGR.out.block g hgl tZ3)) tZ67 (fun u hu=>h1x u (List.mem_of_mem_drop hu)) ?_;intro w2 hg2 hgr2)
 go_wp2_with fail
 go_ret
 refine ⟨_,rfl,?_,grown_fresh HGR.out (grown_drew hgr2) (Nat.le_refl _)⟩
 refine own_of_row hg2.out hb hGn (by unfold maxLen;exact hGm) ?_ ?_
 ·exact mZ43
 ·rw [HR1.out,show (n+1)*5=i*5+5+(n-i)*5 by omega,show (i+1)*5=i*5+5 by omega]
  exact mZ42
set_option maxRecDepth 100000 in
include hnl h1n in
theorem insSet_end (A0:Option Addr) (c0:Nat) (w:World) (hown:w.ownsRow base 42 5 (.slice A0 n c0) n xs) (hb:base≤w.heap.size) (hn:n≤1000000000) (hv:Blk w vb T news) :
  Calls Tryz.prog 148 #[.slice A0 n c0,.int .i64 n,.slice (some ⟨vb,0,none⟩) 1 1] w fun e w' =>
   ∃ v,e=.returned v∧w'.ownsRow base 42 5 v (n+1) (xs++news.toList)∧w.grownBy w' (Value.slice A0 n c0).ownBlock:=by
 obtain ⟨i0,hi0,hz0,hz1,hz2⟩:=info_parts Tryz.insSet_info
 obtain ⟨hc,hm,_⟩:=own_reads hown
 unfold maxLen at hm
 have HN:=Lib.hid hnl
 have HNEW:=Lib.hid (show ∀ (j:Nat) (u:Value),news.toList[j]?=some u→w.cell? ((⟨vb,0,none⟩:Addr).add j)=some u from fun j u hj=>by rw [addr_add0,hv.cell j];simpa using hj)
 clear hnl hv
 by_cases hcn:c0=n
 ·subst hcn
  go_enter Tryz.func148,Tryz.ntmps148
  go_wp2_with (at_builtin;refine wpList_append_own _ rfl _ _ 22 rfl base 42 i0 (.agg #[.string ByteArray.empty,.string ByteArray.empty,.slice none 0 0,.slice none 0 0,.slice none 0 0]) 5 104 Tryz.underlying22 hi0 hz0 hz1 hz2 rfl tZ4 (.slice A0 c0 c0) c0 xs rfl hown ⟨vb,0,none⟩ 1 1 news.toList rfl tZ17 HNEW.out h1n tZ9 tZ1 hb ?_)
  exact mZ48
 ·go_enter Tryz.func148,Tryz.ntmps148
  go_wp2_with (at_builtin;refine wpList_append_own _ rfl _ _ 22 rfl base 42 i0 (.agg #[.string ByteArray.empty,.string ByteArray.empty,.slice none 0 0,.slice none 0 0,.slice none 0 0]) 5 104 Tryz.underlying22 hi0 hz0 hz1 hz2 rfl tZ4 (.slice A0 n c0) n xs rfl hown ⟨vb,0,none⟩ 1 1 news.toList rfl tZ17 HNEW.out h1n tZ9 tZ1 hb ?_)
  exact mZ48
include hnl h1n h1x in
/-- one element put in at a place -/
theorem insSet_any (A0:Option Addr) (c0:Nat) (w:World) (hi:i≤n) (hown:w.ownsRow base 42 5 (.slice A0 n c0) n xs) (hb:base≤w.heap.size) (hn:n≤1000000000) (hv:Blk w vb T news) (hne:(Value.slice A0 n c0).ownBlock≠some vb) :
  Calls Tryz.prog 148 #[.slice A0 n c0,.int .i64 i,.slice (some ⟨vb,0,none⟩) 1 1] w fun e w' =>
   ∃ v,e=.returned v∧w'.ownsRow base 42 5 v (n+1) (xs.take (i*5)++news.toList++xs.drop (i*5))∧w.grownBy w' (Value.slice A0 n c0).ownBlock:=by
 by_cases hin:i=n
 ·subst hin
  rw [List.take_of_length_le tZ60,List.drop_eq_nil_of_le tZ60,List.append_nil]
  exact insSet_end news hnl h1n xs vb T base i A0 c0 w hown hb hn hv
 ·rcases hown.2 with ⟨_,h0⟩ | ⟨g,cap,cur,hs,hbg,hh,hnc,hcm,hsz,hx⟩
  ·omega
  ·injection hs with e1 _ e2
   subst e1 e2
   by_cases hroom:n+1≤c0
   ·exact (insSet_shift news hnl h1n xs h1x vb T base n i g c0 w cur.toList tZ1 hroom hcm tZ102 tZ80 hx hbg hv (fun e=>hne (by rw [e];rfl))).mono (fun e w' h=>h)
   ·obtain rfl:c0=n:=tZ1
    refine (insSet_grow news hnl h1n xs h1x vb T base c0 i g w cur.toList tZ1 hn tZ102 tZ80 hx hb hv).mono ?_
    exact mZ49
end
end Go.Proofs.YtcgclpcocdappaaGreatDoor
namespace Go.Proofs.YtcgclpcocdappaaGreatDoor
open Go.RowKit
theorem Tryz.insP_info:(Tryz.prog.info? 78).map (fun i=>(i.zero,i.size,i.bytes))=some (some (.agg #[.string ByteArray.empty,.string ByteArray.empty]),2,32):=tZ2
theorem Tryz.insP_size:(Tryz.prog.info? 78).map (·.size)=some 2:=tZ2
theorem Tryz.insP_ov:Tryz.prog.funcs[197]?=some Tryz.f197:=tZ2
section
variable (news:Array Value) (hnl:news.size=2) (h1n:∀ u∈news.toList,u.oneCell'=true) (xs:List Value) (h1x:∀ u∈xs,u.oneCell'=true) (vb:Nat) (T:TypeId) (base n i:Nat)
set_option maxRecDepth 100000 in
include hnl h1n h1x in
theorem insP_shift (g c0:Nat) (w:World) (cur:List Value) (hlt:i<n) (hroom:n+1≤c0) (hcm:c0≤maxLen) (hg:w.heap[g]?=some (.cells cur.toArray 78 (0,0))) (hcl:cur.length=c0*2) (hxs:cur.take (n*2)=xs) (hbg:base≤g) (hv:Blk w vb T news) (hne:g≠vb) :
  Calls Tryz.prog 162 #[.slice (some ⟨g,0,none⟩) n c0,.int .i64 i,.slice (some ⟨vb,0,none⟩) 1 1] w fun e w' =>
   ∃ v,e=.returned v∧w'.ownsRow base 78 2 v (n+1) (xs.take (i*2)++news.toList++xs.drop (i*2))∧w.grownBy w' (some g):=by
 have hxl:xs.length=n*2:=tZ46
 have hsb:=shape_of hg
 have hsa:=shape_of hv
 have HX2:=Lib.hid (show ∀ (j:Nat) (u:Value),(xs.drop (i*2))[j]?=some u→w.cell? ((⟨g,i*2,none⟩:Addr).add j)=some u from fun j u hj=>by
  rw [List.getElem?_drop] at hj
  have e:(⟨g,i*2,none⟩:Addr).add j=⟨g,i*2+j,none⟩:=tZ26
  rw [e,Blk.cell (t:=78) hg,← hj,← hxs,List.getElem?_take,if_pos tZ36]
  simp)
 have HV:=Lib.hid (show ∀ (w':World),w.grownBy w' (some g)→∀ (j:Nat) (u:Value),news.toList[j]?=some u→w'.cell? ((⟨vb,0,none⟩:Addr).add j)=some u from fun w' hg' j u hj=>by
  rw [addr_add0,(hv.grown hg' (by intro e;injection e with e;exact hne e.symm)).cell j]
  simpa using hj)
 have hov:∀ lb cb,(callFunc 197 #[.slice (some ⟨vb,0,none⟩) 1 1,.slice (some ⟨g,(i+1)*2,none⟩) lb cb]).run Tryz.prog w=.ok (.value (.bool false)) w:=fun lb cb=>by
  rw [run_callFunc_extern Tryz.insP_ov tZ2 tZ2 tZ2 (e:=Extern.SlicesOverlaps.overlaps #[40,40] #[4]) tZ2,
   Lib.run_overlaps_apart w 40 4 78 Tryz.underlying40 2 (by intro w;exact Tryz.sizeOf78 w) ⟨vb,0,none⟩ ⟨g,(i+1)*2,none⟩ 1 1 lb cb (fun e=>hne e.symm) T 78 news.size cur.toArray.size hsa hsb tZ118 (hv.frozen 0) (by rw [hnl];exact hv.frozen 2)]
  rfl
 have HG:=Lib.hid hg
 have HXS:=Lib.hid hxs
 have HCL:=Lib.hid hcl
 have HXL:=Lib.hid hxl
 have HN:=Lib.hid hnl
 unfold maxLen at hcm
 have hw1:IntKind.i64.wrap ((i:Int)+1)=(i:Int)+1:=tZ22
 have hb1:(0:Int)≤(i:Int)+1:=tZ1
 have hin:i≤n:=tZ1
 have htn:((i:Int)+1).toNat=i+1:=tZ1
 have hb2:¬ (c0=i+1):=tZ1
 have hb3:(i:Int)≤(n:Int)+1:=tZ1
 have hb4:¬ (c0=i):=tZ1
 clear hg hxs hcl hxl hsa hsb hnl hv
 go_enter Tryz.func162,Tryz.ntmps162
 go_wp2_with (simp only [hov])
 go_region_law (refine step_copyK rfl _ _ 40 40 rfl 78 2 Tryz.underlying40 Tryz.insP_size g ((i+1)*2) (n-i) (c0-(i+1)) ⟨g,i*2,none⟩ (n+1-i) (c0-i) (n-i) tZ19 tZ19 cur 78 HG.out (xs.drop (i*2)) tZ16 tZ41 HX2.out tZ40 (fun u hu=>h1x u (List.mem_of_mem_drop hu)) ?_;intro w1 hg1 hgr1)
 have hgr1':=grown_drew hgr1
 obtain ⟨cur1,hc1⟩:∃ cur1,cur1=splice cur ((i+1)*2) (xs.drop (i*2)):=⟨_,rfl⟩
 rw [← hc1] at hg1
 have hl1:cur1.length=c0*2:=by rw [hc1,length_splice _ _ _ tZ40];exact HCL.out
 have HL1:=Lib.hid hl1
 have HC1:=Lib.hid hc1
 have HGR:=Lib.hid hgr1'
 clear hl1 hc1 hgr1 hgr1' hov hw1 htn
 go_wp2_with (with_reducible refine wpList_copyK rfl (.tmp 80) (.tmp 81) 40 40 rfl 78 2 Tryz.underlying40 Tryz.insP_size g (i*2) (n+1-i) (c0-i) ⟨vb,0,none⟩ 1 1 1 rfl rfl cur1 78 hg1.out news.toList tZ16 tZ17 (HV.out w1 HGR.out) tZ65 h1n ?_;intro w2 hg2 hgr2)
 exact mZ50
set_option maxRecDepth 100000 in
include hnl h1n h1x in
theorem insP_grow (g:Nat) (w:World) (cur:List Value) (hlt:i<n) (hn:n≤2000000000000) (hg:w.heap[g]?=some (.cells cur.toArray 78 (0,0))) (hcl:cur.length=n*2) (hxs:cur.take (n*2)=xs) (hb:base≤w.heap.size) (hv:Blk w vb T news) :
  Calls Tryz.prog 162 #[.slice (some ⟨g,0,none⟩) n n,.int .i64 i,.slice (some ⟨vb,0,none⟩) 1 1] w fun e w' =>
   ∃ v,e=.returned v∧w'.ownsRow base 78 2 v (n+1) (xs.take (i*2)++news.toList++xs.drop (i*2))∧w.grownBy w' none:=by
 obtain ⟨i0,hi0,hz0,hzs,hzb⟩:=info_parts Tryz.insP_info
 have hxl:xs.length=n*2:=tZ46
 have hgl:=heap_lt hg
 have hvl:=hv.lt
 have hold:(Builtin.firstCells i0.size i (.slice (some ⟨g,0,none⟩) i n)).run Tryz.prog w.drew=.ok (xs.take (i*2)).toArray w.drew:=by
  rw [hzs]
  exact run_firstCells_some w.drew 2 i ⟨g,0,none⟩ i n (xs.take (i*2)) tZ84 (fun j v hj=>by
   rw [addr_add0]
   rw [List.getElem?_take] at hj
   split at hj
   ·have:(w.drew).cell? ⟨g,j,none⟩=cur.toArray[j]?:=Blk.cell (t:=78) hg j
    exact mZ47
   ·cases hj)
 have hkk:(n:Int)+1-(i:Int)=((n+1-i:Nat):Int):=tZ1
 have hik:i+(n+1-i)=n+1:=tZ1
 have hrz:∀ ty,(Builtin.append_ #[40,3] ty #[.slice (some ⟨g,0,none⟩) i n,.int .i64 ((n:Int)+1-(i:Int))]).run Tryz.prog w =
   .ok (.slice (some ⟨w.heap.size,0,none⟩) (n+1) (grownCap w (n+1) n 78)) (w.drew.alloc (.cells ((xs.take (i*2)).toArray++Builtin.zeroCells (Value.cells (.agg #[.string ByteArray.empty,.string ByteArray.empty])) (n+1-i)++Builtin.zeroCells (Value.cells (.agg #[.string ByteArray.empty,.string ByteArray.empty])) (grownCap w (n+1) n 78-(n+1))) 78)):=fun ty=>by
  have h:=Lib.run_append_grow_zeros w 40 3 ty 78 i0 _ .i64 .i64 Tryz.underlying40 Tryz.underlying3 hi0 hz0 (some ⟨g,0,none⟩) i n (xs.take (i*2)) hold (n+1-i) tZ1 (by rw [hzs];omega) tZ1 tZ1 (by rw [hzb];omega) (by rw [hzb,hik];exact growslice_fits tZ1 tZ1)
  rw [hik] at h
  rw [hkk]
  exact h
 obtain ⟨G,hG⟩:∃ G,G=grownCap w (n+1) n 78:=⟨_,rfl⟩
 have hGn:n+1≤G:=tZ117
 have hGm:G≤maxLen:=by rw [hG];exact grownCap_le_maxLen w (n+1) n 78 tZ9
 obtain ⟨ROW,hROW⟩:∃ ROW:List Value,ROW=xs.take (i*2)++((Builtin.zeroCells (Value.cells (.agg #[.string ByteArray.empty,.string ByteArray.empty])) (n+1-i)).toList++(Builtin.zeroCells (Value.cells (.agg #[.string ByteArray.empty,.string ByteArray.empty])) (G-(n+1))).toList):=⟨_,rfl⟩
 have hRA:(xs.take (i*2)).toArray++Builtin.zeroCells (Value.cells (.agg #[.string ByteArray.empty,.string ByteArray.empty])) (n+1-i)++Builtin.zeroCells (Value.cells (.agg #[.string ByteArray.empty,.string ByteArray.empty])) (G-(n+1))=ROW.toArray:=by
  rw [hROW]
  apply Array.toList_inj.1
  simp
 rw [← hG,hRA] at hrz
 have hRl:ROW.length=G*2:=by
  exact mZ46
 have hRt:ROW.take (i*2)=xs.take (i*2):=by
  exact mZ45
 obtain ⟨W1,hW1⟩:∃ W1,W1=w.drew.alloc (.cells ROW.toArray 78):=⟨_,rfl⟩
 rw [← hW1] at hrz
 have hrow:W1.heap[w.heap.size]?=some (.cells ROW.toArray 78 (0,0)):=tZ97
 have hgr0:w.grownBy W1 none:=by
  exact mZ44
 have HX2:=Lib.hid (show ∀ (W:World),W.heap[g]?=w.heap[g]?→∀ (j:Nat) (u:Value),(xs.drop (i*2))[j]?=some u→W.cell? ((⟨g,i*2,none⟩:Addr).add j)=some u from fun W hW j u hj=>by
  rw [List.getElem?_drop] at hj
  have e:(⟨g,i*2,none⟩:Addr).add j=⟨g,i*2+j,none⟩:=tZ26
  rw [e,Blk.cell (w:=W) (t:=78) (hW.trans hg),← hj,← hxs,List.getElem?_take,if_pos tZ36]
  simp)
 have HV:=Lib.hid (show ∀ (w':World),w.grownBy w' none→∀ (j:Nat) (u:Value),news.toList[j]?=some u→w'.cell? ((⟨vb,0,none⟩:Addr).add j)=some u from fun w' hg' j u hj=>by
  rw [addr_add0,(hv.grown hg' tZ3).cell j]
  simpa using hj)
 have HXS:=Lib.hid hxs
 have HCL:=Lib.hid hcl
 have HXL:=Lib.hid hxl
 have HN:=Lib.hid hnl
 have HROW:=Lib.hid hrow
 have HRL:=Lib.hid hRl
 have HRT:=Lib.hid hRt
 have HGR0:=Lib.hid hgr0
 unfold maxLen at hGm
 have hw1:IntKind.i64.wrap ((i:Int)+1)=(i:Int)+1:=tZ22
 have hb1:(0:Int)≤(i:Int)+1:=tZ1
 have hin:i≤n:=tZ1
 have htn:((i:Int)+1).toNat=i+1:=tZ1
 have hb3:(i:Int)≤(n:Int):=tZ1
 have hGi:¬ (G=i):=tZ1
 have hGim:¬ (G=i+1):=tZ1
 have hci:¬ (n=i):=tZ1
 clear hg hxs hcl hxl hnl hv hold hkk hik hG hRA hROW hRl hRt hrow hgr0 hW1 hi0 hz0 hzs hzb
 go_enter Tryz.func162,Tryz.ntmps162
 go_wp2_with (first
  | (at_builtin;refine Lib.wpList_append_run _ rfl _ _ _ _ rfl _ _ rfl rfl _ _ (hrz _) ?_)
  | (with_reducible refine wpList_copyK rfl (.tmp 43) (.tmp 44) 40 40 rfl 78 2 Tryz.underlying40 Tryz.insP_size w.heap.size (i*2) (n+1-i) (G-i) ⟨vb,0,none⟩ 1 1 1 rfl rfl ROW 78 HROW.out news.toList tZ16 tZ17 (HV.out W1 HGR0.out) tZ37 h1n ?_;intro w1 hg1 hgr1))
 clear hrz
 have hgr1':=grown_fresh HGR0.out hgr1 (Nat.le_refl _)
 obtain ⟨row1,hr1⟩:∃ row1,row1=splice ROW (i*2) news.toList:=⟨_,rfl⟩
 rw [← hr1] at hg1
 have hl1:row1.length=G*2:=by rw [hr1,length_splice _ _ _ tZ37];exact HRL.out
 have HL1:=Lib.hid hl1
 have HR1:=Lib.hid hr1
 have HGR:=Lib.hid hgr1'
 clear hl1 hr1 hgr1 hgr1'
 go_region_law (refine step_copyK rfl _ _ 40 40 rfl 78 2 Tryz.underlying40 Tryz.insP_size w.heap.size ((i+1)*2) (n-i) (G-(i+1)) ⟨g,i*2,none⟩ (n-i) (n-i) (n-i) tZ19 tZ19 row1 78 hg1.out (xs.drop (i*2)) tZ16 tZ41 (HX2.out w1.drew (HGR.out.block g hgl tZ3)) tZ67 (fun u hu=>h1x u (List.mem_of_mem_drop hu)) ?_;intro w2 hg2 hgr2)
 exact mZ51
set_option maxRecDepth 100000 in
include hnl h1n in
theorem insP_end (A0:Option Addr) (c0:Nat) (w:World) (hown:w.ownsRow base 78 2 (.slice A0 n c0) n xs) (hb:base≤w.heap.size) (hn:n≤2000000000000) (hv:Blk w vb T news) :
  Calls Tryz.prog 162 #[.slice A0 n c0,.int .i64 n,.slice (some ⟨vb,0,none⟩) 1 1] w fun e w' =>
   ∃ v,e=.returned v∧w'.ownsRow base 78 2 v (n+1) (xs++news.toList)∧w.grownBy w' (Value.slice A0 n c0).ownBlock:=by
 obtain ⟨i0,hi0,hz0,hz1,hz2⟩:=info_parts Tryz.insP_info
 obtain ⟨hc,hm,_⟩:=own_reads hown
 unfold maxLen at hm
 have HN:=Lib.hid hnl
 have HNEW:=Lib.hid (show ∀ (j:Nat) (u:Value),news.toList[j]?=some u→w.cell? ((⟨vb,0,none⟩:Addr).add j)=some u from fun j u hj=>by rw [addr_add0,hv.cell j];simpa using hj)
 clear hnl hv
 by_cases hcn:c0=n
 ·subst hcn
  go_enter Tryz.func162,Tryz.ntmps162
  go_wp2_with (at_builtin;refine wpList_append_own _ rfl _ _ 40 rfl base 78 i0 (.agg #[.string ByteArray.empty,.string ByteArray.empty]) 2 32 Tryz.underlying40 hi0 hz0 hz1 hz2 rfl tZ4 (.slice A0 c0 c0) c0 xs rfl hown ⟨vb,0,none⟩ 1 1 news.toList rfl tZ17 HNEW.out h1n tZ9 tZ1 hb ?_)
  exact mZ48
 ·go_enter Tryz.func162,Tryz.ntmps162
  go_wp2_with (at_builtin;refine wpList_append_own _ rfl _ _ 40 rfl base 78 i0 (.agg #[.string ByteArray.empty,.string ByteArray.empty]) 2 32 Tryz.underlying40 hi0 hz0 hz1 hz2 rfl tZ4 (.slice A0 n c0) n xs rfl hown ⟨vb,0,none⟩ 1 1 news.toList rfl tZ17 HNEW.out h1n tZ9 tZ1 hb ?_)
  exact mZ48
include hnl h1n h1x in
/-- one element put in at a place -/
theorem insP_any (A0:Option Addr) (c0:Nat) (w:World) (hi:i≤n) (hown:w.ownsRow base 78 2 (.slice A0 n c0) n xs) (hb:base≤w.heap.size) (hn:n≤2000000000000) (hv:Blk w vb T news) (hne:(Value.slice A0 n c0).ownBlock≠some vb) :
  Calls Tryz.prog 162 #[.slice A0 n c0,.int .i64 i,.slice (some ⟨vb,0,none⟩) 1 1] w fun e w' =>
   ∃ v,e=.returned v∧w'.ownsRow base 78 2 v (n+1) (xs.take (i*2)++news.toList++xs.drop (i*2))∧w.grownBy w' (Value.slice A0 n c0).ownBlock:=by
 by_cases hin:i=n
 ·subst hin
  rw [List.take_of_length_le tZ60,List.drop_eq_nil_of_le tZ60,List.append_nil]
  exact insP_end news hnl h1n xs vb T base i A0 c0 w hown hb hn hv
 ·rcases hown.2 with ⟨_,h0⟩ | ⟨g,cap,cur,hs,hbg,hh,hnc,hcm,hsz,hx⟩
  ·omega
  ·injection hs with e1 _ e2
   subst e1 e2
   by_cases hroom:n+1≤c0
   ·exact (insP_shift news hnl h1n xs h1x vb T base n i g c0 w cur.toList tZ1 hroom hcm tZ102 tZ80 hx hbg hv (fun e=>hne (by rw [e];rfl))).mono (fun e w' h=>h)
   ·obtain rfl:c0=n:=tZ1
    refine (insP_grow news hnl h1n xs h1x vb T base c0 i g w cur.toList tZ1 hn tZ102 tZ80 hx hb hv).mono ?_
    exact mZ49
end
end Go.Proofs.YtcgclpcocdappaaGreatDoor
namespace Go.Proofs.YtcgclpcocdappaaGreatDoor
open Go.RowKit
theorem Tryz.insBk_info:(Tryz.prog.info? 75).map (fun i=>(i.zero,i.size,i.bytes))=some (some (.agg #[.int .i64 0,.string ByteArray.empty]),2,24):=tZ2
theorem Tryz.insBk_size:(Tryz.prog.info? 75).map (·.size)=some 2:=tZ2
theorem Tryz.insBk_ov:Tryz.prog.funcs[193]?=some Tryz.f193:=tZ2
section
variable (news:Array Value) (hnl:news.size=2) (h1n:∀ u∈news.toList,u.oneCell'=true) (xs:List Value) (h1x:∀ u∈xs,u.oneCell'=true) (vb:Nat) (T:TypeId) (base n i:Nat)
set_option maxRecDepth 100000 in
include hnl h1n h1x in
theorem insBk_shift (g c0:Nat) (w:World) (cur:List Value) (hlt:i<n) (hroom:n+1≤c0) (hcm:c0≤maxLen) (hg:w.heap[g]?=some (.cells cur.toArray 75 (0,0))) (hcl:cur.length=c0*2) (hxs:cur.take (n*2)=xs) (hbg:base≤g) (hv:Blk w vb T news) (hne:g≠vb) :
  Calls Tryz.prog 155 #[.slice (some ⟨g,0,none⟩) n c0,.int .i64 i,.slice (some ⟨vb,0,none⟩) 1 1] w fun e w' =>
   ∃ v,e=.returned v∧w'.ownsRow base 75 2 v (n+1) (xs.take (i*2)++news.toList++xs.drop (i*2))∧w.grownBy w' (some g):=by
 have hxl:xs.length=n*2:=tZ46
 have hsb:=shape_of hg
 have hsa:=shape_of hv
 have HX2:=Lib.hid (show ∀ (j:Nat) (u:Value),(xs.drop (i*2))[j]?=some u→w.cell? ((⟨g,i*2,none⟩:Addr).add j)=some u from fun j u hj=>by
  rw [List.getElem?_drop] at hj
  have e:(⟨g,i*2,none⟩:Addr).add j=⟨g,i*2+j,none⟩:=tZ26
  rw [e,Blk.cell (t:=75) hg,← hj,← hxs,List.getElem?_take,if_pos tZ36]
  simp)
 have HV:=Lib.hid (show ∀ (w':World),w.grownBy w' (some g)→∀ (j:Nat) (u:Value),news.toList[j]?=some u→w'.cell? ((⟨vb,0,none⟩:Addr).add j)=some u from fun w' hg' j u hj=>by
  rw [addr_add0,(hv.grown hg' (by intro e;injection e with e;exact hne e.symm)).cell j]
  simpa using hj)
 have hov:∀ lb cb,(callFunc 193 #[.slice (some ⟨vb,0,none⟩) 1 1,.slice (some ⟨g,(i+1)*2,none⟩) lb cb]).run Tryz.prog w=.ok (.value (.bool false)) w:=fun lb cb=>by
  rw [run_callFunc_extern Tryz.insBk_ov tZ2 tZ2 tZ2 (e:=Extern.SlicesOverlaps.overlaps #[38,38] #[4]) tZ2,
   Lib.run_overlaps_apart w 38 4 75 Tryz.underlying38 2 (by intro w;exact Tryz.sizeOf75 w) ⟨vb,0,none⟩ ⟨g,(i+1)*2,none⟩ 1 1 lb cb (fun e=>hne e.symm) T 75 news.size cur.toArray.size hsa hsb tZ118 (hv.frozen 0) (by rw [hnl];exact hv.frozen 2)]
  rfl
 have HG:=Lib.hid hg
 have HXS:=Lib.hid hxs
 have HCL:=Lib.hid hcl
 have HXL:=Lib.hid hxl
 have HN:=Lib.hid hnl
 unfold maxLen at hcm
 have hw1:IntKind.i64.wrap ((i:Int)+1)=(i:Int)+1:=tZ22
 have hb1:(0:Int)≤(i:Int)+1:=tZ1
 have hin:i≤n:=tZ1
 have htn:((i:Int)+1).toNat=i+1:=tZ1
 have hb2:¬ (c0=i+1):=tZ1
 have hb3:(i:Int)≤(n:Int)+1:=tZ1
 have hb4:¬ (c0=i):=tZ1
 clear hg hxs hcl hxl hsa hsb hnl hv
 go_enter Tryz.func155,Tryz.ntmps155
 go_wp2_with (simp only [hov])
 go_region_law (refine step_copyK rfl _ _ 38 38 rfl 75 2 Tryz.underlying38 Tryz.insBk_size g ((i+1)*2) (n-i) (c0-(i+1)) ⟨g,i*2,none⟩ (n+1-i) (c0-i) (n-i) tZ19 tZ19 cur 75 HG.out (xs.drop (i*2)) tZ16 tZ41 HX2.out tZ40 (fun u hu=>h1x u (List.mem_of_mem_drop hu)) ?_;intro w1 hg1 hgr1)
 have hgr1':=grown_drew hgr1
 obtain ⟨cur1,hc1⟩:∃ cur1,cur1=splice cur ((i+1)*2) (xs.drop (i*2)):=⟨_,rfl⟩
 rw [← hc1] at hg1
 have hl1:cur1.length=c0*2:=by rw [hc1,length_splice _ _ _ tZ40];exact HCL.out
 have HL1:=Lib.hid hl1
 have HC1:=Lib.hid hc1
 have HGR:=Lib.hid hgr1'
 clear hl1 hc1 hgr1 hgr1' hov hw1 htn
 go_wp2_with (with_reducible refine wpList_copyK rfl (.tmp 80) (.tmp 81) 38 38 rfl 75 2 Tryz.underlying38 Tryz.insBk_size g (i*2) (n+1-i) (c0-i) ⟨vb,0,none⟩ 1 1 1 rfl rfl cur1 75 hg1.out news.toList tZ16 tZ17 (HV.out w1 HGR.out) tZ65 h1n ?_;intro w2 hg2 hgr2)
 exact mZ50
set_option maxRecDepth 100000 in
include hnl h1n h1x in
theorem insBk_grow (g:Nat) (w:World) (cur:List Value) (hlt:i<n) (hn:n≤5000000000000) (hg:w.heap[g]?=some (.cells cur.toArray 75 (0,0))) (hcl:cur.length=n*2) (hxs:cur.take (n*2)=xs) (hb:base≤w.heap.size) (hv:Blk w vb T news) :
  Calls Tryz.prog 155 #[.slice (some ⟨g,0,none⟩) n n,.int .i64 i,.slice (some ⟨vb,0,none⟩) 1 1] w fun e w' =>
   ∃ v,e=.returned v∧w'.ownsRow base 75 2 v (n+1) (xs.take (i*2)++news.toList++xs.drop (i*2))∧w.grownBy w' none:=by
 obtain ⟨i0,hi0,hz0,hzs,hzb⟩:=info_parts Tryz.insBk_info
 have hxl:xs.length=n*2:=tZ46
 have hgl:=heap_lt hg
 have hvl:=hv.lt
 have hold:(Builtin.firstCells i0.size i (.slice (some ⟨g,0,none⟩) i n)).run Tryz.prog w.drew=.ok (xs.take (i*2)).toArray w.drew:=by
  rw [hzs]
  exact run_firstCells_some w.drew 2 i ⟨g,0,none⟩ i n (xs.take (i*2)) tZ84 (fun j v hj=>by
   rw [addr_add0]
   rw [List.getElem?_take] at hj
   split at hj
   ·have:(w.drew).cell? ⟨g,j,none⟩=cur.toArray[j]?:=Blk.cell (t:=75) hg j
    exact mZ47
   ·cases hj)
 have hkk:(n:Int)+1-(i:Int)=((n+1-i:Nat):Int):=tZ1
 have hik:i+(n+1-i)=n+1:=tZ1
 have hrz:∀ ty,(Builtin.append_ #[38,3] ty #[.slice (some ⟨g,0,none⟩) i n,.int .i64 ((n:Int)+1-(i:Int))]).run Tryz.prog w =
   .ok (.slice (some ⟨w.heap.size,0,none⟩) (n+1) (grownCap w (n+1) n 75)) (w.drew.alloc (.cells ((xs.take (i*2)).toArray++Builtin.zeroCells (Value.cells (.agg #[.int .i64 0,.string ByteArray.empty])) (n+1-i)++Builtin.zeroCells (Value.cells (.agg #[.int .i64 0,.string ByteArray.empty])) (grownCap w (n+1) n 75-(n+1))) 75)):=fun ty=>by
  have h:=Lib.run_append_grow_zeros w 38 3 ty 75 i0 _ .i64 .i64 Tryz.underlying38 Tryz.underlying3 hi0 hz0 (some ⟨g,0,none⟩) i n (xs.take (i*2)) hold (n+1-i) tZ1 (by rw [hzs];omega) tZ1 tZ1 (by rw [hzb];omega) (by rw [hzb,hik];exact growslice_fits tZ1 tZ1)
  rw [hik] at h
  rw [hkk]
  exact h
 obtain ⟨G,hG⟩:∃ G,G=grownCap w (n+1) n 75:=⟨_,rfl⟩
 have hGn:n+1≤G:=tZ117
 have hGm:G≤maxLen:=by rw [hG];exact grownCap_le_maxLen w (n+1) n 75 tZ9
 obtain ⟨ROW,hROW⟩:∃ ROW:List Value,ROW=xs.take (i*2)++((Builtin.zeroCells (Value.cells (.agg #[.int .i64 0,.string ByteArray.empty])) (n+1-i)).toList++(Builtin.zeroCells (Value.cells (.agg #[.int .i64 0,.string ByteArray.empty])) (G-(n+1))).toList):=⟨_,rfl⟩
 have hRA:(xs.take (i*2)).toArray++Builtin.zeroCells (Value.cells (.agg #[.int .i64 0,.string ByteArray.empty])) (n+1-i)++Builtin.zeroCells (Value.cells (.agg #[.int .i64 0,.string ByteArray.empty])) (G-(n+1))=ROW.toArray:=by
  rw [hROW]
  apply Array.toList_inj.1
  simp
 rw [← hG,hRA] at hrz
 have hRl:ROW.length=G*2:=by
  exact mZ46
 have hRt:ROW.take (i*2)=xs.take (i*2):=by
  exact mZ45
 obtain ⟨W1,hW1⟩:∃ W1,W1=w.drew.alloc (.cells ROW.toArray 75):=⟨_,rfl⟩
 rw [← hW1] at hrz
 have hrow:W1.heap[w.heap.size]?=some (.cells ROW.toArray 75 (0,0)):=tZ97
 have hgr0:w.grownBy W1 none:=by
  exact mZ44
 have HX2:=Lib.hid (show ∀ (W:World),W.heap[g]?=w.heap[g]?→∀ (j:Nat) (u:Value),(xs.drop (i*2))[j]?=some u→W.cell? ((⟨g,i*2,none⟩:Addr).add j)=some u from fun W hW j u hj=>by
  rw [List.getElem?_drop] at hj
  have e:(⟨g,i*2,none⟩:Addr).add j=⟨g,i*2+j,none⟩:=tZ26
  rw [e,Blk.cell (w:=W) (t:=75) (hW.trans hg),← hj,← hxs,List.getElem?_take,if_pos tZ36]
  simp)
 have HV:=Lib.hid (show ∀ (w':World),w.grownBy w' none→∀ (j:Nat) (u:Value),news.toList[j]?=some u→w'.cell? ((⟨vb,0,none⟩:Addr).add j)=some u from fun w' hg' j u hj=>by
  rw [addr_add0,(hv.grown hg' tZ3).cell j]
  simpa using hj)
 have HXS:=Lib.hid hxs
 have HCL:=Lib.hid hcl
 have HXL:=Lib.hid hxl
 have HN:=Lib.hid hnl
 have HROW:=Lib.hid hrow
 have HRL:=Lib.hid hRl
 have HRT:=Lib.hid hRt
 have HGR0:=Lib.hid hgr0
 unfold maxLen at hGm
 have hw1:IntKind.i64.wrap ((i:Int)+1)=(i:Int)+1:=tZ22
 have hb1:(0:Int)≤(i:Int)+1:=tZ1
 have hin:i≤n:=tZ1
 have htn:((i:Int)+1).toNat=i+1:=tZ1
 have hb3:(i:Int)≤(n:Int):=tZ1
 have hGi:¬ (G=i):=tZ1
 have hGim:¬ (G=i+1):=tZ1
 have hci:¬ (n=i):=tZ1
 clear hg hxs hcl hxl hnl hv hold hkk hik hG hRA hROW hRl hRt hrow hgr0 hW1 hi0 hz0 hzs hzb
 go_enter Tryz.func155,Tryz.ntmps155
 go_wp2_with (first
  | (at_builtin;refine Lib.wpList_append_run _ rfl _ _ _ _ rfl _ _ rfl rfl _ _ (hrz _) ?_)
  | (with_reducible refine wpList_copyK rfl (.tmp 43) (.tmp 44) 38 38 rfl 75 2 Tryz.underlying38 Tryz.insBk_size w.heap.size (i*2) (n+1-i) (G-i) ⟨vb,0,none⟩ 1 1 1 rfl rfl ROW 75 HROW.out news.toList tZ16 tZ17 (HV.out W1 HGR0.out) tZ37 h1n ?_;intro w1 hg1 hgr1))
 clear hrz
 have hgr1':=grown_fresh HGR0.out hgr1 (Nat.le_refl _)
 obtain ⟨row1,hr1⟩:∃ row1,row1=splice ROW (i*2) news.toList:=⟨_,rfl⟩
 rw [← hr1] at hg1
 have hl1:row1.length=G*2:=by rw [hr1,length_splice _ _ _ tZ37];exact HRL.out
 have HL1:=Lib.hid hl1
 have HR1:=Lib.hid hr1
 have HGR:=Lib.hid hgr1'
 clear hl1 hr1 hgr1 hgr1'
 go_region_law (refine step_copyK rfl _ _ 38 38 rfl 75 2 Tryz.underlying38 Tryz.insBk_size w.heap.size ((i+1)*2) (n-i) (G-(i+1)) ⟨g,i*2,none⟩ (n-i) (n-i) (n-i) tZ19 tZ19 row1 75 hg1.out (xs.drop (i*2)) tZ16 tZ41 (HX2.out w1.drew (HGR.out.block g hgl tZ3)) tZ67 (fun u hu=>h1x u (List.mem_of_mem_drop hu)) ?_;intro w2 hg2 hgr2)
 exact mZ51
set_option maxRecDepth 100000 in
include hnl h1n in
theorem insBk_end (A0:Option Addr) (c0:Nat) (w:World) (hown:w.ownsRow base 75 2 (.slice A0 n c0) n xs) (hb:base≤w.heap.size) (hn:n≤5000000000000) (hv:Blk w vb T news) :
  Calls Tryz.prog 155 #[.slice A0 n c0,.int .i64 n,.slice (some ⟨vb,0,none⟩) 1 1] w fun e w' =>
   ∃ v,e=.returned v∧w'.ownsRow base 75 2 v (n+1) (xs++news.toList)∧w.grownBy w' (Value.slice A0 n c0).ownBlock:=by
 obtain ⟨i0,hi0,hz0,hz1,hz2⟩:=info_parts Tryz.insBk_info
 obtain ⟨hc,hm,_⟩:=own_reads hown
 unfold maxLen at hm
 have HN:=Lib.hid hnl
 have HNEW:=Lib.hid (show ∀ (j:Nat) (u:Value),news.toList[j]?=some u→w.cell? ((⟨vb,0,none⟩:Addr).add j)=some u from fun j u hj=>by rw [addr_add0,hv.cell j];simpa using hj)
 clear hnl hv
 by_cases hcn:c0=n
 ·subst hcn
  go_enter Tryz.func155,Tryz.ntmps155
  go_wp2_with (at_builtin;refine wpList_append_own _ rfl _ _ 38 rfl base 75 i0 (.agg #[.int .i64 0,.string ByteArray.empty]) 2 24 Tryz.underlying38 hi0 hz0 hz1 hz2 rfl tZ4 (.slice A0 c0 c0) c0 xs rfl hown ⟨vb,0,none⟩ 1 1 news.toList rfl tZ17 HNEW.out h1n tZ9 tZ1 hb ?_)
  exact mZ48
 ·go_enter Tryz.func155,Tryz.ntmps155
  go_wp2_with (at_builtin;refine wpList_append_own _ rfl _ _ 38 rfl base 75 i0 (.agg #[.int .i64 0,.string ByteArray.empty]) 2 24 Tryz.underlying38 hi0 hz0 hz1 hz2 rfl tZ4 (.slice A0 n c0) n xs rfl hown ⟨vb,0,none⟩ 1 1 news.toList rfl tZ17 HNEW.out h1n tZ9 tZ1 hb ?_)
  exact mZ48
include hnl h1n h1x in
/-- one element put in at a place -/
theorem insBk_any (A0:Option Addr) (c0:Nat) (w:World) (hi:i≤n) (hown:w.ownsRow base 75 2 (.slice A0 n c0) n xs) (hb:base≤w.heap.size) (hn:n≤5000000000000) (hv:Blk w vb T news) (hne:(Value.slice A0 n c0).ownBlock≠some vb) :
  Calls Tryz.prog 155 #[.slice A0 n c0,.int .i64 i,.slice (some ⟨vb,0,none⟩) 1 1] w fun e w' =>
   ∃ v,e=.returned v∧w'.ownsRow base 75 2 v (n+1) (xs.take (i*2)++news.toList++xs.drop (i*2))∧w.grownBy w' (Value.slice A0 n c0).ownBlock:=by
 by_cases hin:i=n
 ·subst hin
  rw [List.take_of_length_le tZ60,List.drop_eq_nil_of_le tZ60,List.append_nil]
  exact insBk_end news hnl h1n xs vb T base i A0 c0 w hown hb hn hv
 ·rcases hown.2 with ⟨_,h0⟩ | ⟨g,cap,cur,hs,hbg,hh,hnc,hcm,hsz,hx⟩
  ·omega
  ·injection hs with e1 _ e2
   subst e1 e2
   by_cases hroom:n+1≤c0
   ·exact (insBk_shift news hnl h1n xs h1x vb T base n i g c0 w cur.toList tZ1 hroom hcm tZ102 tZ80 hx hbg hv (fun e=>hne (by rw [e];rfl))).mono (fun e w' h=>h)
   ·obtain rfl:c0=n:=tZ1
    refine (insBk_grow news hnl h1n xs h1x vb T base c0 i g w cur.toList tZ1 hn tZ102 tZ80 hx hb hv).mono ?_
    exact mZ49
end
end Go.Proofs.YtcgclpcocdappaaGreatDoor
