/-
  'append' into a row that is known whole and has room. 'clear' of a piece of a row that is known whole. tree.Clones, by its contract. slices.Delete of one element, at elements of 5 cells, by its contract. shape.Destroy's look at the stages: is one of them to go into a path? shape.held: has a set a snapshot with tags?
-/
import Derived.Test.YtiojfffgiejibaaGreatDoorQsM1
import Derived.WalkKit
import Derived.WalkSpells
import Derived.Below
import Derived.Laws.OwnMore
import Derived.Deep.AppendLies
import Derived.Deep.Draws
import Derived.Laws.Rows
import Derived.Maps.AppendAt
import Derived.RegionTactic
import Derived.OwnWalk
import Derived.Deep.QuietTactic
import Derived.BigQuiet
import Derived.Lib.Hide
import Derived.Laws.CopyOwn
import Derived.IntWalk
import Derived.Lib.Overlaps
import Derived.Lib.AppendZerosOnto
import Derived.Deep.RegionLaw
import Derived.Test.YtiojfffgiejibaaGreatDoorRows
import Derived.Handy
import Derived.Deep.Quiet
import Derived.Orders
import Derived.Lib.SplitLaws
import Derived.Lib.LastIndexByte
import Derived.Lib.Strings
import Derived.ShutString
import Derived.Sort.Walk0
import Derived.Sort.KeysCollected
import Derived.Shelf.Strings.Search1
import Derived.Shelf.Strings.Search2
import Derived.Shelf.Strings.Search3
import Derived.Shelf.Strings.Cut
import Derived.Shelf.Strings.Count
import Derived.Shelf.LaysM
import Derived.Shelf.Strings.Shaped
import Derived.Shelf.Strings.LastIndex
import Derived.Shelf.Strings.Split
import Derived.Shelf.Strings.SplitShaped
import Derived.Shelf.Unicode.Decode
import Derived.Shelf.Strings.RuneCount
import Derived.Shelf.Strings.Explode
import Derived.Shelf.Unicode.DecodeSlow
import Derived.Shelf.Slices.Turned
import Derived.Test.YtiojfffgiejibaaGreatDoorProg
import Derived.Laws.BytesString
import Derived.Laws.IdiomStrings
import Derived.Lib.ConvBytes
import Derived.Deep.MidRow
import Derived.Test.YtiojfffgiejibaaGreatDoorQ0
import Derived.Test.YtiojfffgiejibaaGreatDoorQs1
import Derived.Test.YtiojfffgiejibaaGreatDoorQs3
import Derived.Test.YtiojfffgiejibaaGreatDoorQs5
import Derived.Test.YtiojfffgiejibaaGreatDoorQs7
import Derived.Test.YtiojfffgiejibaaGreatDoorQs8
import Derived.Test.YtiojfffgiejibaaGreatDoorQs10
import Derived.Test.YtiojfffgiejibaaGreatDoorQs11
import Derived.Test.YtiojfffgiejibaaGreatDoorQs12
import Derived.Test.YtiojfffgiejibaaGreatDoorQs19
import Derived.Test.YtiojfffgiejibaaGreatDoorQs27
namespace Go.Proofs.YtiojfffgiejibaaGreatDoor
open Go.RowKit
section
variable {P:Program}
theorem run_append_rowK (w:World) (t ty elem:TypeId) (k:Nat) (g sLen sCap:Nat) (a:Addr) (xLen xCap:Nat) (cur:List Value) (T:TypeId) (cs:List Value)
  (hu:P.underlying t=some (.slice elem)) (hs:(P.info? elem).map (·.size)=some k)
  (hg:w.heap[g]?=some (.cells cur.toArray T (0,0))) (hn:cs.length=xLen*k)
  (hsrc:∀ j v,cs[j]?=some v→w.cell? (a.add j)=some v) (hfit:sLen*k+cs.length≤cur.length) (hroom:sLen+xLen≤sCap) (h1:∀ v∈cs,v.oneCell'=true) :
  (Builtin.append_ #[t,t] ty #[.slice (some ⟨g,0,none⟩) sLen sCap,.slice (some a) xLen xCap]).run P w =
   .ok (.slice (some ⟨g,0,none⟩) (sLen+xLen) sCap) (w.setRow g (splice cur (sLen*k) cs).toArray):=by
 have hl:=run_loadCells_list (P:=P) w a cs hsrc
 have hst:=run_storeCells_at P g (sLen*k) T cs 0 cur.toArray w hg (by simpa using hfit) h1
 cases hq:P.info? elem with
 | none=>simp [hq] at hs
 | some i =>
  have hi:i.size=k:=by simpa [hq] using hs
  simp [Builtin.append_,run_underlying hu,Builtin.lenOf,Builtin.firstCells,sizeOf,typeInfo,hq,hi,← hn,hl,hroom,addr_add0,hst,splice]
theorem wp_appendK {o:Oper} {a:Act} {w:World} {K:Act→World→Prop} {Q:Exit→Act→World→Prop} (d s:Operand) (t:TypeId)
  (ho:o.op=.call { callee:=.builtin .append,args:=#[d,s],argTypes:=#[t,t] }) (elem:TypeId) (k:Nat) (hu:P.underlying t=some (.slice elem)) (hsz:(P.info? elem).map (·.size)=some k)
  (g sLen sCap:Nat) (ad:Addr) (xLen xCap:Nat) (hd:a.eval d=.slice (some ⟨g,0,none⟩) sLen sCap) (hs:a.eval s=.slice (some ad) xLen xCap)
  (cur:List Value) (T:TypeId) (hg:w.heap[g]?=some (.cells cur.toArray T (0,0))) (cs:List Value) (hn:cs.length=xLen*k)
  (hsrc:∀ j v,cs[j]?=some v→w.cell? (ad.add j)=some v) (hfit:sLen*k+cs.length≤cur.length) (hroom:sLen+xLen≤sCap) (h1:∀ v∈cs,v.oneCell'=true)
  (h:∀ w',Hid (w'.heap[g]?=some (.cells (splice cur (sLen*k) cs).toArray T (0,0)))→w.grownBy w' (some g)→K (a.put o.dst (.slice (some ⟨g,0,none⟩) (sLen+xLen) sCap)) w'):o.wp P a w K Q:=by
 have hrun:=run_append_rowK (P:=P) w t o.type elem k g sLen sCap ad xLen xCap cur T cs hu hsz hg hn hsrc hfit hroom h1
 unfold Oper.wp
 simp [execOp,ho,resolve,invoke,builtin,hd,hs,hrun,Result.andThen]
 exact h _ (show _=_ by simpa [splice] using setRow_heap w g _ _ T _ hg) (grown_setRow _)
theorem step_appendK {ops:Array Oper} {o:Oper} {a:Act} {w:World} {K:Act→World→Prop} {Q:Exit→Act→World→Prop} {E:Prop} (hgd:o.guard=none) (d s:Operand) (t:TypeId)
  (ho:o.op=.call { callee:=.builtin .append,args:=#[d,s],argTypes:=#[t,t] }) (elem:TypeId) (k:Nat) (hu:P.underlying t=some (.slice elem)) (hsz:(P.info? elem).map (·.size)=some k)
  (g sLen sCap:Nat) (ad:Addr) (xLen xCap:Nat) (hd:a.eval d=.slice (some ⟨g,0,none⟩) sLen sCap) (hs:a.eval s=.slice (some ad) xLen xCap)
  (cur:List Value) (T:TypeId) (hg:w.heap[g]?=some (.cells cur.toArray T (0,0))) (cs:List Value) (hn:cs.length=xLen*k)
  (hsrc:∀ j v,cs[j]?=some v→w.cell? (ad.add j)=some v) (hfit:sLen*k+cs.length≤cur.length) (hroom:sLen+xLen≤sCap) (h1:∀ v∈cs,v.oneCell'=true)
  (h:∀ w',Hid (w'.heap[g]?=some (.cells (splice cur (sLen*k) cs).toArray T (0,0)))→w.grownBy w' (some g)→K (a.put o.dst (.slice (some ⟨g,0,none⟩) (sLen+xLen) sCap)) w') :
  if Region.wanted o (yielded ops a.tmps)=true then Oper.wp P o a w K Q else E:=by
 have hw:Region.wanted o (yielded ops a.tmps)=true:=tZ110
 rw [if_pos hw]
 exact wp_appendK d s t ho elem k hu hsz g sLen sCap ad xLen xCap hd hs cur T hg cs hn hsrc hfit hroom h1 h
end
end Go.Proofs.YtiojfffgiejibaaGreatDoor
namespace Go.Proofs.YtiojfffgiejibaaGreatDoor
open Go.RowKit
section
variable {P:Program}
theorem run_clear_rowK (w:World) (t ty e:TypeId) (z:Value) (ht:P.underlying t=some (.slice e)) (hv:∀ w,(zeroValue e).run P w=.ok z w) (h1:∀ u∈z.cells.toList,u.oneCell'=true)
  (g o n c:Nat) (cur:List Value) (T:TypeId) (hg:w.heap[g]?=some (.cells cur.toArray T (0,0))) (hn:0<n) (hfit:o+n*z.cells.size≤cur.length) :
  (Builtin.clear_ #[t] ty #[.slice (some ⟨g,o,none⟩) n c]).run P w=.ok (.tuple #[]) (w.setRow g (splice cur o (Builtin.zeroCells z.cells n).toList).toArray):=by
 have hzl:(Builtin.zeroCells z.cells n).toList.length=n*z.cells.size:=by simp [Builtin.zeroCells]
 have hz1:∀ u∈(Builtin.zeroCells z.cells n).toList,u.oneCell'=true:=by
  intro u hu
  simp only [Builtin.zeroCells,Array.toList_map,Array.toList_range,List.mem_map,List.mem_range] at hu
  obtain ⟨i,hi,rfl⟩:=hu
  have hk:0<z.cells.size:=by
   rcases Nat.eq_zero_or_pos z.cells.size with h | h
   ·rw [h] at hi;omega
   ·exact h
  have hm:=Nat.mod_lt i hk
  rw [getElem!_pos z.cells _ hm]
  exact h1 _ tZ3
 have hst:=run_storeCells_at P g o T (Builtin.zeroCells z.cells n).toList 0 cur.toArray w hg (by rw [hzl];simpa using hfit) hz1
 obtain ⟨m,rfl⟩:∃ m,n=m+1:=⟨n-1,by omega⟩
 simp [Builtin.clear_,run_underlying ht,hv,hst,splice]
theorem wp_clearK {o:Oper} {a:Act} {w:World} {K:Act→World→Prop} {Q:Exit→Act→World→Prop} (d:Operand) (t:TypeId)
  (ho:o.op=.call { callee:=.builtin .clear,args:=#[d],argTypes:=#[t] }) (e:TypeId) (z:Value) (ht:P.underlying t=some (.slice e)) (hv:∀ w,(zeroValue e).run P w=.ok z w) (h1:∀ u∈z.cells.toList,u.oneCell'=true)
  (g off n c:Nat) (hd:a.eval d=.slice (some ⟨g,off,none⟩) n c) (cur:List Value) (T:TypeId) (hg:w.heap[g]?=some (.cells cur.toArray T (0,0))) (hfit:off+n*z.cells.size≤cur.length)
  (h:∀ w' zs,zs.length=n*z.cells.size→Hid (w'.heap[g]?=some (.cells (splice cur off zs).toArray T (0,0)))→w.grownBy w' (some g)→K (a.put o.dst (.tuple #[])) w'):o.wp P a w K Q:=by
 rcases Nat.eq_zero_or_pos n with h0 | h0
 ·subst h0
  have hrun:(Builtin.clear_ #[t] o.type #[.slice (some ⟨g,off,none⟩) 0 c]).run P w=.ok (.tuple #[]) w:=by simp [Builtin.clear_,run_underlying ht]
  unfold Oper.wp
  simp [execOp,ho,resolve,invoke,builtin,hd,hrun,Result.andThen]
  exact h w [] tZ3 (show _=_ by simpa [splice] using hg) (World.grownBy.refl _ _)
 ·have hrun:=run_clear_rowK (P:=P) w t o.type e z ht hv h1 g off n c cur T hg h0 hfit
  unfold Oper.wp
  simp [execOp,ho,resolve,invoke,builtin,hd,hrun,Result.andThen]
  exact h _ _ (by simp [Builtin.zeroCells]) (show _=_ from setRow_heap w g _ _ T _ hg) (grown_setRow _)
theorem wpList_clearK {w:World} {ops:Array Oper} {rest:List Oper} {o:Oper} {a:Act} {Q:Exit→Act→World→Prop} (hgd:o.guard=none) (d:Operand) (t:TypeId)
  (ho:o.op=.call { callee:=.builtin .clear,args:=#[d],argTypes:=#[t] }) (e:TypeId) (z:Value) (ht:P.underlying t=some (.slice e)) (hv:∀ w,(zeroValue e).run P w=.ok z w) (h1:∀ u∈z.cells.toList,u.oneCell'=true)
  (g off n c:Nat) (hd:a.eval d=.slice (some ⟨g,off,none⟩) n c) (cur:List Value) (T:TypeId) (hg:w.heap[g]?=some (.cells cur.toArray T (0,0))) (hfit:off+n*z.cells.size≤cur.length)
  (h:∀ w' zs,zs.length=n*z.cells.size→Hid (w'.heap[g]?=some (.cells (splice cur off zs).toArray T (0,0)))→w.grownBy w' (some g)→wpList P ops Q rest (a.put o.dst (.tuple #[])) w'):wpList P ops Q (o :: rest) a w :=
 wpList_plain hgd fun _ hK=>wp_clearK d t ho e z ht hv h1 g off n c hd cur T hg hfit (fun w' zs h0 h1 h2=>hK _ _ (h w' zs h0 h1 h2))
end
end Go.Proofs.YtiojfffgiejibaaGreatDoor
namespace Go.Proofs.YtiojfffgiejibaaGreatDoor
open Go.RowKit
/-- is a set a clone of a snapshot of a set's (or of any, where no name is asked)? -/
def clP (p q:BS) (o:BS):Bool:=match splitL o with
 | none=>false
 | some (a,b)=>a == p && (q == [] || b == q)
def clonesL (l:List SetR) (p q:BS):List BS:=(l.filter fun s=>clP p q s.org).map (·.path)
theorem clonesL_snoc (l:List SetR) (x:SetR) (p q:BS):clonesL (l++[x]) p q=clonesL l p q++(if clP p q x.org=true then [x.path] else []):=by
 unfold clonesL
 rw [List.filter_append,List.map_append]
 congr 1
 by_cases h:clP p q x.org=true
 ·rw [if_pos h,List.filter_cons_of_pos tZ50];rfl
 ·rw [if_neg h,List.filter_cons_of_neg tZ50];rfl
set_option maxRecDepth 100000 in
set_option maxHeartbeats 4000000 in
theorem clones_any (v0 v1 v2 v4 v5 v6:Value) (l:List SetR) (n:Nat) (hnl:n=l.length) (A:Option Addr) (c:Nat) (p nq:BS) (w:World) (B:Nat) (hr:Reads w B 5 A n (cellsK encSet l)) (hB:B≤w.heap.size) (hn:n≤1000000000000) (hv:∀ y∈l,y.org.length≤4000000000) (hmx:HasMax w) :
  Calls Tryz.prog 52 #[.agg #[v0,v1,v2,.slice A n c,v4,v5,v6],.string ⟨p.toArray⟩,.string ⟨nq.toArray⟩] w fun e w'=>∃ A1 c1,e=.returned (.slice A1 (clonesL l p nq).length c1)∧w'.ownsRow w.heap.size 9 1 (.slice A1 (clonesL l p nq).length c1) (clonesL l p nq).length (scells (clonesL l p nq))∧Below w.heap.size w w':=by
 obtain ⟨i0,hi0,hz0,hz1,hz2⟩:=info_parts Tryz.infoS
 have HN:=Lib.hid hnl
 have hb1:=(Below.refl w.heap.size w).alloc (Nat.le_refl _) (.cells #[v0,v1,v2,.slice A n c,v4,v5,v6] 27)
 have kT:=Blk.new w 27 #[v0,v1,v2,.slice A n c,v4,v5,v6]
 obtain ⟨W1,hW1⟩:∃ W,W=w.alloc (.cells #[v0,v1,v2,.slice A n c,v4,v5,v6] 27):=⟨_,rfl⟩
 have hsz1:W1.heap.size=w.heap.size+1:=tZ32
 rw [← hW1] at hb1 kT
 have hT:Hid (∀ W',Below W1.heap.size W1 W'→W'.cell? ⟨w.heap.size,3,none⟩=some (.slice A n c)):=fun W' hB'=>(kT.below hB' tZ1).cell 3
 have hR:=Lib.hid (fun (W':World) (hB':Below W1.heap.size W1 W')=>(⟨hr.below ((hb1.trans (hB'.mono tZ1)).mono hB),hmx.below (hb1.trans (hB'.mono tZ1))⟩:Reads W' B 5 A n (cellsK encSet l)∧HasMax W'))
 have HB1:=Lib.hid hb1
 have HSZ1:=Lib.hid hsz1
 have HVS:=Lib.hid hv
 obtain ⟨KL,hKL⟩:∃ K,K=clonesL l p nq:=⟨_,rfl⟩
 rw [← hKL]
 have HKL:=Lib.hid hKL
 clear hnl hr kT hsz1 hv hKL
 go_enter Tryz.func52,Tryz.ntmps52
 go_wp2_with fail
 rw [← hW1]
 clear hW1
 go_loopw [7,16] (fun a j wr=>∃ (k m:Nat) (A1:Option Addr) (c1:Nat),k≤n∧m≤k∧a=.slice A1 m c1∧j=.int .i64 (k:Int)∧Hid (m=(clonesL (l.take k) p nq).length)∧wr.ownsRow W1.heap.size 9 1 (.slice A1 m c1) m (scells (clonesL (l.take k) p nq))∧Below W1.heap.size W1 wr) (fun _ j _=>n-(intOf j).toNat)
 case atStart=>exact ⟨0,0,none,0,Nat.zero_le _,Nat.zero_le _,rfl,rfl,rfl,⟨rfl,.inl ⟨rfl,rfl⟩⟩,Below.refl _ _⟩
 case round =>
  clear hb1
  obtain ⟨k,m,A1,c1,hk,hmk,rfl,rfl,hml,hown,hbw⟩:=hrel
  by_cases hlt:k<n
  ·obtain ⟨hrw,hmw⟩:=hR.out _ hbw
   obtain ⟨ad,rfl,-,c0,c1',c2,c3,c4⟩:=set_at hrw HN.out hlt
   have hki:(k:Int)<(n:Int):=tZ1
   have hkl:k<l.length:=tZ9
   obtain ⟨x,hx⟩:∃ x,x=l[k]'hkl:=⟨_,rfl⟩
   have hxl:=HVS.out x tZ12
   rw [← hx] at c0 c1' c2 c3 c4
   have htk:=List.take_succ_eq_append_getElem hkl
   rw [← hx] at htk
   have HNT:Hid (clonesL (l.take (k+1)) p nq=clonesL (l.take k) p nq++(if clP p nq x.org=true then [x.path] else [])):=by
    show _=_
    rw [htk,clonesL_snoc]
   obtain ⟨W0,hW0⟩:∃ W0,W0=wr.alloc (.cells #[.string ⟨x.path.toArray⟩,.string ⟨x.org.toArray⟩,.slice x.body.A x.body.n x.body.c,.slice x.snaps.A x.snaps.n x.snaps.c,.slice x.own.A x.own.n x.own.c] 56):=⟨_,rfl⟩
   have hblk:Blk W0 wr.heap.size 56 #[.string ⟨x.path.toArray⟩,.string ⟨x.org.toArray⟩,.slice x.body.A x.body.n x.body.c,.slice x.snaps.A x.snaps.n x.snaps.c,.slice x.own.A x.own.n x.own.c]:=tZ46
   have hszW:W0.heap.size=wr.heap.size+1:=tZ15
   have hwr:=hbw.size
   have hsz1:=HSZ1.out
   have hb1W:Below W1.heap.size W1 W0:=tZ31
   have HB2:=Lib.hid hb1W
   have HSZ:=Lib.hid hszW
   have hpn:=split_any ⟨x.org.toArray⟩ W0 (by show x.org.length≤_;exact hxl) (hR.out _ hb1W).2
   rw [show (ByteArray.mk x.org.toArray).data.toList=x.org from rfl] at hpn
   have hown0:Hid (∀ W,Below W0.heap.size W0 W→W.ownsRow W1.heap.size 9 1 (.slice A1 m c1) m (scells (clonesL (l.take k) p nq))∧W.cell? ⟨wr.heap.size,0,none⟩=some (.string ⟨x.path.toArray⟩)):=by
    exact mZ158
   obtain ⟨xp,xo,⟨b1,b2,b3,bl⟩,⟨s1,s2,s3,sl⟩,⟨o1,o2,o3,ol⟩⟩:=x
   simp only at c0 c1' c2 c3 c4 HNT hW0 hpn hown0
   clear hx htk hxl hblk hrw hown hR hT hmw
   go_wp2_with fail
   rw [← hW0]
   clear hW0 hszW c0 c1' c2 c3 c4
   refine hpn.mono ?_
   clear hpn
   rintro e w4 ⟨rfl,hb4⟩
   obtain ⟨ho4,q0⟩:=hown0.out _ hb4
   have hbf:=HB2.out.trans (hb4.mono tZ6)
   have hbF:=HB1.out.trans (hbf.mono tZ1)
   have hbase:=hbf.size
   clear hown0 hb4
   rcases splitV_cases xo with ⟨hs1,hs2⟩ | ⟨sa,sb,hs1,hs2,-,-⟩
   ·exact mZ161
   ·rw [hs2]
    have HCL:Hid (clP p nq xo=(sa == p && (nq == [] || sb == nq))):=tZ146
    clear hs1 hs2
    by_cases hap:sa=p
    ·have hap1:(sa == p)=true:=tZ81
     by_cases hq:nq=[]
     ·subst hq
      have HNT2:Hid (clonesL (l.take (k+1)) p []=clonesL (l.take k) p []++[xp]):=by
       show _=_
       rw [HNT.out,if_pos (by rw [HCL.out,hap1];rfl)]
      clear HNT
      go_wp2_with (at_builtin;(refine wpList_push w4 rfl (.tmp 43) (.tmp 46) 51 rfl W1.heap.size 9 i0 (.string ByteArray.empty) 1 16 Tryz.underlying51 hi0 hz0 hz1 hz2 rfl tZ1 (.slice A1 m c1) m _ rfl ho4 1 #[.string ⟨xp.toArray⟩] 9 rfl rfl tZ5 tZ11 tZ1 hbase ?_);intro v' w' ho' hb' hg')
      obtain ⟨A2,c2,rfl,_,_,_⟩:=own_form ho'
      have hb'2:=hbf.trans hb'
      go_wp2_with fail
      go_roundw
      case rel=>exact ⟨k+1,m+1,A2,c2,by omega,by omega,rfl,by go_num,by show _=_;rw [HNT2.out,List.length_append,← hml.out];rfl,by rw [HNT2.out,scells_append];exact ho',hb'2⟩
      case measure=>simp [intOf];omega
     ·have hq1:(nq == [])=false:=by simpa using hq
      have hq2:(nq.toArray == #[])=false:=by simpa using hq
      by_cases hb:sb=nq
      ·subst hb
       have hq3:(sb == sb)=true:=tZ3
       have HNT2:Hid (clonesL (l.take (k+1)) p sb=clonesL (l.take k) p sb++[xp]):=by
        show _=_
        rw [HNT.out,if_pos (by rw [HCL.out,hap1,hq3];simp)]
       clear HNT
       go_wp2_with (at_builtin;(refine wpList_push w4 rfl (.tmp 43) (.tmp 46) 51 rfl W1.heap.size 9 i0 (.string ByteArray.empty) 1 16 Tryz.underlying51 hi0 hz0 hz1 hz2 rfl tZ1 (.slice A1 m c1) m _ rfl ho4 1 #[.string ⟨xp.toArray⟩] 9 rfl rfl tZ5 tZ11 tZ1 hbase ?_);intro v' w' ho' hb' hg')
       obtain ⟨A2,c2,rfl,_,_,_⟩:=own_form ho'
       have hb'2:=hbf.trans hb'
       go_wp2_with fail
       go_roundw
       case rel=>exact ⟨k+1,m+1,A2,c2,by omega,by omega,rfl,by go_num,by show _=_;rw [HNT2.out,List.length_append,← hml.out];rfl,by rw [HNT2.out,scells_append];exact ho',hb'2⟩
       case measure=>simp [intOf];omega
      ·have hb1:(sb == nq)=false:=by simpa using hb
       exact mZ159
    ·have hap1:(sa == p)=false:=tZ81
     have HNT2:Hid (clonesL (l.take (k+1)) p nq=clonesL (l.take k) p nq):=by
      show _=_
      rw [HNT.out,if_neg (by rw [HCL.out,hap1];simp)]
      simp
     clear HNT
     exact mZ156
  ·have hkn:k=n:=tZ1
   have hall:l.take k=l:=List.take_of_length_le tZ14
   rw [hall,← HKL.out] at hown
   have HM:Hid (m=KL.length):=tZ120
   have HO:=Lib.hid (own_mono hown (show w.heap.size≤W1.heap.size by have:=HSZ1.out;omega))
   have HBF:=Lib.hid (HB1.out.trans (hbw.mono tZ13))
   clear hkn hall hml hown hbw
   go_wp2_with fail
   go_ret
   refine ⟨A1,c1,by rw [← HM.out];rfl,by rw [← HM.out];exact HO.out,HBF.out⟩
end Go.Proofs.YtiojfffgiejibaaGreatDoor
namespace Go.Proofs.YtiojfffgiejibaaGreatDoor
open Go.RowKit
theorem Tryz.delSet_size:(Tryz.prog.info? 56).map (·.size)=some 5:=tZ2
theorem Tryz.delSet_zero (w:World):(zeroValue 56).run Tryz.prog w=.ok (.agg #[.string ByteArray.empty,.string ByteArray.empty,.slice none 0 0,.slice none 0 0,.slice none 0 0]) w:=tZ2
theorem delSet_splice (cur:List Value) (n i c0:Nat) (xs:List Value) (hx:cur.take (n*5)=xs) (hi:i<n) (hn:n≤c0) (hl:cur.length=c0*5) (zs:List Value) (hz:zs.length=1*5) :
  (splice (splice cur (i*5) (xs.drop ((i+1)*5))) ((n-1)*5) zs).take ((n-1)*5)=xs.take (i*5)++xs.drop ((i+1)*5)∧(splice (splice cur (i*5) (xs.drop ((i+1)*5))) ((n-1)*5) zs).length=c0*5:=by
 have hxl:xs.length=n*5:=tZ119
 have hdl:(xs.drop ((i+1)*5)).length=(n-1-i)*5:=tZ131
 have h1:(splice cur (i*5) (xs.drop ((i+1)*5))).length=c0*5:=by
  unfold splice
  simp only [List.length_append,List.length_take,List.length_drop] at hdl ⊢
  omega
 refine ⟨?_,?_⟩
 ·have e1:(splice (splice cur (i*5) (xs.drop ((i+1)*5))) ((n-1)*5) zs).take ((n-1)*5)=(splice cur (i*5) (xs.drop ((i+1)*5))).take ((n-1)*5):=by
   show List.take _ (List.take _ (splice cur (i*5) (xs.drop ((i+1)*5)))++(zs++_))=_
   rw [List.take_append_of_le_length (by rw [List.length_take,h1];omega),List.take_take,Nat.min_self]
  rw [e1]
  have hc:cur.take (i*5)=xs.take (i*5):=by rw [← hx,List.take_take,Nat.min_eq_left tZ1]
  have hL:(xs.take (i*5)++xs.drop ((i+1)*5)).length=(n-1)*5:=by rw [List.length_append,List.length_take,hdl,hxl];omega
  show List.take _ (cur.take (i*5)++(xs.drop ((i+1)*5)++_))=_
  rw [hc,← List.append_assoc,List.take_append_of_le_length (by rw [hL];exact Nat.le_refl _)]
  exact List.take_of_length_le (by rw [hL];exact Nat.le_refl _)
 ·show (List.take _ (splice cur (i*5) (xs.drop ((i+1)*5)))++(zs++List.drop _ _)).length=_
  rw [List.length_append,List.length_append,List.length_take,List.length_drop,h1,hz]
  omega
set_option maxRecDepth 100000 in
set_option maxHeartbeats 1000000 in
theorem delSet_any (xs:List Value) (h1:∀ u∈xs,u.oneCell'=true) (n i c0 base:Nat) (A0:Option Addr) (w:World) (hi:i<n) (hn:n≤5000000000000) (hown:w.ownsRow base 56 5 (.slice A0 n c0) n xs) :
  Calls Tryz.prog 55 #[.slice A0 n c0,.int .i64 i,.int .i64 ((i:Int)+1)] w fun e w'=>∃ v,e=.returned v∧w'.ownsRow base 56 5 v (n-1) (xs.take (i*5)++xs.drop ((i+1)*5))∧w.grownBy w' (Value.slice A0 n c0).ownBlock:=by
 rcases hown.2 with ⟨_,h0⟩ | ⟨g,cap,cur,hs,hbg,hh,hnc,hcm,hsz,hx⟩
 ·omega
 injection hs with e1 _ e2
 subst e1 e2
 have hh':w.heap[g]?=some (.cells cur.toList.toArray 56 (0,0)):=by simpa using hh
 have hcl:cur.toList.length=c0*5:=tZ121
 obtain ⟨cl,hcl0⟩:∃ cl,cl=cur.toList:=⟨_,rfl⟩
 rw [← hcl0] at hh' hcl hx
 have hxl:xs.length=n*5:=hown.1
 have hdl:(xs.drop ((i+1)*5)).length=(n-1-i)*5:=tZ131
 have hcells:∀ (w':World),w'.heap[g]?=w.heap[g]?→∀ j v,(xs.drop ((i+1)*5))[j]?=some v→w'.cell? ((⟨g,(i+1)*5,none⟩:Addr).add j)=some v:=by
  intro w' hw j v hv
  have hv2:cl[(i+1)*5+j]?=some v:=by
   rw [List.getElem?_drop,← hx] at hv
   obtain ⟨hlt,_⟩:=List.getElem?_eq_some_iff.1 hv
   rw [List.length_take] at hlt
   rwa [List.getElem?_take_of_lt tZ1] at hv
  have had:(⟨g,(i+1)*5,none⟩:Addr).add j=⟨g,(i+1)*5+j,none⟩:=tZ48
  rw [had,cell_of_row w' g _ _ _ _ (hw.trans hh')]
  simpa using hv2
 have hni:(i:Int)+1≤(n:Int):=tZ1
 have hin:(i:Int)≤(n:Int):=tZ1
 have hnci:(n:Int)≤(c0:Int):=tZ1
 have hcmi:c0≤9223372036854775807:=by unfold maxLen at hcm;omega
 have hne:(((i:Int)) == (i:Int)+1)=false:=tZ137
 have ht1:((i:Int)+1).toNat=i+1:=tZ1
 have hsub:n-(i+1)=n-1-i:=tZ1
 have hi1c:(i:Int)+1≤(c0:Int):=tZ1
 have hic:(i:Int)≤(c0:Int):=tZ1
 have hi0:(0:Int)≤(i:Int)+1:=tZ1
 have HC:=Lib.hid hcells
 have HH:=Lib.hid hh'
 have HDL:=Lib.hid hdl
 have HXL:=Lib.hid hxl
 have HCL:=Lib.hid hcl
 have HX:=Lib.hid hx
 have H1:=Lib.hid (fun u hu=>h1 u (List.mem_of_mem_drop (i:=(i+1)*5) hu))
 have HSP:=Lib.hid (fun zs hz=>delSet_splice cl n i c0 xs hx hi hnc hcl zs hz)
 have hgl:g<w.heap.size:=heap_lt hh'
 clear hcells hh' hdl hxl hcl hx h1 hown hh hsz hcl0
 go_enter Tryz.func55,Tryz.ntmps55
 go_wp2_with fail
 by_cases hlast:c0=i+1
 ·have hnl:n=i+1:=tZ1
  subst hlast
  subst hnl
  have hic2:(i:Int)≤(i:Int)+1:=tZ1
  have hnil:xs.drop ((i+1)*5)=[]:=List.drop_eq_nil_of_le (by rw [HXL.out];exact Nat.le_refl _)
  have HNIL:=Lib.hid hnil
  clear hnil
  go_region_law (refine step_appendK rfl _ _ 22 rfl 56 5 Tryz.underlying22 Tryz.delSet_size g i (i+1) ⟨g,0,none⟩ 0 0 tZ42 tZ42 cl 56 HH.out [] tZ3 tZ3 (by rw [HCL.out];simp;omega) tZ1 tZ3 ?_;intro w1 hg1 hgr1)
  have hgr:=grown_drew hgr1
  have HGR:=Lib.hid hgr
  have HG1:=hg1
  have hz1:∀ u∈(.agg #[.string ByteArray.empty,.string ByteArray.empty,.slice none 0 0,.slice none 0 0,.slice none 0 0]:Value).cells.toList,u.oneCell'=true:=fun u hu=>List.all_eq_true.1 (show ((.agg #[.string ByteArray.empty,.string ByteArray.empty,.slice none 0 0,.slice none 0 0,.slice none 0 0]:Value).cells.toList.all (·.oneCell'))=true from rfl) u hu
  clear hg1 hgr1 hgr
  simp only [Act.put,List.setIfInBounds_toArray]
  go_wp2_with (with_reducible refine wpList_clearK rfl (.tmp 31) 22 rfl 56 (.agg #[.string ByteArray.empty,.string ByteArray.empty,.slice none 0 0,.slice none 0 0,.slice none 0 0]) Tryz.underlying22 Tryz.delSet_zero hz1 g (i*5) 1 1 tZ122 (splice cl (i*5) ([])) 56 HG1.out (by simp [splice,Value.cells,HCL.out];omega) ?_;intro w2 zs hzs hg2 hgr2)
  have hzz:zs.length=1*5:=by rw [hzs];rfl
  have hsp:=HSP.out zs hzz
  rw [HNIL.out,Nat.add_sub_cancel] at hsp
  have hrow:=own_of_row (base:=base) hg2.out hbg (Nat.le_succ i) hcm hsp.2 hsp.1
  have hgr:=HGR.out.trans hgr2
  have HROW:=Lib.hid hrow
  clear hrow hsp hg2 hgr2 hzs hzz
  go_ret
  exact ⟨_,rfl,by rw [HNIL.out];exact HROW.out,hgr⟩
 ·have hlt2:i+1<c0:=tZ1
  obtain ⟨p,hp⟩:∃ p,p=n-1:=⟨_,rfl⟩
  have hip:i+(n-1-i)=p:=tZ1
  have hnp1:n-p=1:=tZ1
  have hpn:(p:Int)≤(n:Int):=tZ1
  have hpc:(p:Int)≤(c0:Int):=tZ1
  have hcp:¬ c0=p:=tZ1
  have HIP:=Lib.hid hip
  have HP:=Lib.hid hp
  clear hip hp
  go_region_law (refine step_appendK rfl _ _ 22 rfl 56 5 Tryz.underlying22 Tryz.delSet_size g i c0 ⟨g,(i+1)*5,none⟩ (n-1-i) (c0-(i+1)) tZ42 tZ42 cl 56 HH.out (xs.drop ((i+1)*5)) HDL.out (HC.out _ rfl) (by rw [HDL.out,HCL.out];omega) tZ1 H1.out ?_;intro w1 hg1 hgr1)
  have hgr:=grown_drew hgr1
  have HGR:=Lib.hid hgr
  have HG1:=hg1
  have hz1:∀ u∈(.agg #[.string ByteArray.empty,.string ByteArray.empty,.slice none 0 0,.slice none 0 0,.slice none 0 0]:Value).cells.toList,u.oneCell'=true:=fun u hu=>List.all_eq_true.1 (show ((.agg #[.string ByteArray.empty,.string ByteArray.empty,.slice none 0 0,.slice none 0 0,.slice none 0 0]:Value).cells.toList.all (·.oneCell'))=true from rfl) u hu
  clear hg1 hgr1 hgr
  simp only [Act.put,List.setIfInBounds_toArray]
  rw [HIP.out]
  go_wp2_with (with_reducible refine wpList_clearK rfl (.tmp 31) 22 rfl 56 (.agg #[.string ByteArray.empty,.string ByteArray.empty,.slice none 0 0,.slice none 0 0,.slice none 0 0]) Tryz.underlying22 Tryz.delSet_zero hz1 g (p*5) 1 (c0-p) tZ122 (splice cl (i*5) (xs.drop ((i+1)*5))) 56 HG1.out (by have h2:=(HSP.out (.agg #[.string ByteArray.empty,.string ByteArray.empty,.slice none 0 0,.slice none 0 0,.slice none 0 0]:Value).cells.toList rfl).2;have h3:=HDL.out;have h4:=HCL.out;have h5:=HP.out;unfold splice;simp only [List.length_append,List.length_take,List.length_drop] at h3 ⊢;simp [Value.cells];omega) ?_;intro w2 zs hzs hg2 hgr2)
  have hzz:zs.length=1*5:=by rw [hzs];rfl
  have hsp:=HSP.out zs hzz
  rw [← HP.out] at hsp
  have hrow:=own_of_row (base:=base) hg2.out hbg (by have:=HP.out;omega) hcm hsp.2 hsp.1
  have hgr:=HGR.out.trans hgr2
  have HROW:=Lib.hid hrow
  clear hrow hsp hg2 hgr2 hzs hzz
  go_ret
  exact ⟨_,rfl,by rw [← HP.out];exact HROW.out,hgr⟩
end Go.Proofs.YtiojfffgiejibaaGreatDoor
namespace Go.Proofs.YtiojfffgiejibaaGreatDoor
open Go.RowKit
set_option maxRecDepth 100000 in
set_option maxHeartbeats 2000000 in
theorem stagedC_any (x:StageR) (p0:Addr) (q:BS) (w:World) (hc:w.cell? p0=some (.string ⟨q.toArray⟩)) (hlt:p0.block<w.heap.size) :
  Calls Tryz.prog 50 (#[.agg (encStage x).toArray]++#[.pointer (some p0)]) w fun e w'=>e=.returned (.bool (x.into == q))∧Below w.heap.size w w':=by
 obtain ⟨into,kind,nm,frm,gd,⟨o1,on,o3,ol⟩,ix,ct,dt,⟨sa,sb,sc,sd⟩,⟨b1,bn,b3,bl⟩,at_,nx,⟨ua,ub,uc,ud⟩,done⟩:=x
 show Calls Tryz.prog 50 #[.agg #[.string ⟨into.toArray⟩,.int .i64 kind,.string ⟨nm.toArray⟩,.int .i64 frm,.int .i64 gd,.slice o1 on o3,.int .i64 ix,.int .i64 ct,.string ⟨dt.toArray⟩,.int .u64 sa,.int .u64 sb,.int .u64 sc,.int .u64 sd,.slice b1 bn b3,.int .i64 at_,.int .i64 nx,.int .u64 ua,.int .u64 ub,.int .u64 uc,.int .u64 ud,.bool done],.pointer (some p0)] w _
 have hb1:=(Below.refl w.heap.size w).alloc (Nat.le_refl _) (.cells #[.string ⟨into.toArray⟩,.int .i64 kind,.string ⟨nm.toArray⟩,.int .i64 frm,.int .i64 gd,.slice o1 on o3,.int .i64 ix,.int .i64 ct,.string ⟨dt.toArray⟩,.int .u64 sa,.int .u64 sb,.int .u64 sc,.int .u64 sd,.slice b1 bn b3,.int .i64 at_,.int .i64 nx,.int .u64 ua,.int .u64 ub,.int .u64 uc,.int .u64 ud,.bool done] 77)
 have k1:=Blk.new w 77 #[.string ⟨into.toArray⟩,.int .i64 kind,.string ⟨nm.toArray⟩,.int .i64 frm,.int .i64 gd,.slice o1 on o3,.int .i64 ix,.int .i64 ct,.string ⟨dt.toArray⟩,.int .u64 sa,.int .u64 sb,.int .u64 sc,.int .u64 sd,.slice b1 bn b3,.int .i64 at_,.int .i64 nx,.int .u64 ua,.int .u64 ub,.int .u64 uc,.int .u64 ud,.bool done]
 have hc1:=(hb1.cell hlt).trans hc
 have e0:=k1.cell 0
 simp only [zF,zE] at e0
 obtain ⟨W1,hW1⟩:∃ W,W=w.alloc (.cells #[.string ⟨into.toArray⟩,.int .i64 kind,.string ⟨nm.toArray⟩,.int .i64 frm,.int .i64 gd,.slice o1 on o3,.int .i64 ix,.int .i64 ct,.string ⟨dt.toArray⟩,.int .u64 sa,.int .u64 sb,.int .u64 sc,.int .u64 sd,.slice b1 bn b3,.int .i64 at_,.int .i64 nx,.int .u64 ua,.int .u64 ub,.int .u64 uc,.int .u64 ud,.bool done] 77):=⟨_,rfl⟩
 rw [← hW1] at hb1 hc1 e0
 have HB1:=Lib.hid hb1
 clear hb1 k1 hc
 go_enter Tryz.func50,Tryz.ntmps50
 go_wp2_with (rw [← hW1];clear hW1)
 by_cases h:into=q
 ·subst h
  have h1:(into == into)=true:=tZ3
  go_wp2_with fail
  go_ret
  exact ⟨by simp [go_sem],HB1.out⟩
 ·have h1:(into == q)=false:=tZ50
  go_wp2_with fail
  go_ret
  exact ⟨by simp [go_sem,h1],HB1.out⟩
set_option maxRecDepth 100000 in
set_option maxHeartbeats 2000000 in
theorem stagedI_any (l:List StageR) (n:Nat) (hnl:n=l.length) (A:Option Addr) (c:Nat) (p0:Addr) (q:BS) (w:World) (B:Nat) (hr:Reads w B 21 A n (cellsK encStage l)) (hB:B≤w.heap.size) (hn:n≤5000000000000) (hc:w.cell? p0=some (.string ⟨q.toArray⟩)) (hlt:p0.block<w.heap.size) :
  Calls Tryz.prog 94 #[.slice A n c,.func (.func 50) #[] #[.pointer (some p0)]] w fun e w'=>e=.returned (.int .i64 (firstI (fun x:StageR=>x.into == q) l))∧Below w.heap.size w w':=by
 have HN:=Lib.hid hnl
 have HCL:Hid (∀ (x:StageR) W,Below w.heap.size w W→Calls Tryz.prog 50 (#[.agg (encStage x).toArray]++#[.pointer (some p0)]) W fun e w'=>e=.returned (.bool (x.into == q))∧Below W.heap.size W w'):=fun x W h =>
  stagedC_any x p0 q W ((h.cell hlt).trans hc) (Nat.lt_of_lt_of_le hlt h.size)
 clear hnl hc
 go_enter Tryz.func94,Tryz.ntmps94
 go_wp2_with fail
 go_loopw [8] (fun j wr=>∃ k:Nat,k≤n∧j=.int .i64 (k:Int)∧Hid (∀ y∈l.take k,(y.into == q)=false)∧Below w.heap.size w wr) (fun j _=>n-(intOf j).toNat)
 case atStart=>exact ⟨0,Nat.zero_le _,rfl,(show ∀ y∈_,_ by simp),Below.refl _ _⟩
 case round =>
  obtain ⟨k,hk,rfl,hno,hbw⟩:=hrel
  by_cases hlt2:k<n
  ·have hki:(k:Int)<(n:Int):=tZ1
   have hkl:k<l.length:=tZ9
   obtain ⟨ad,rfl,_,hel⟩:=Reads.elK (k:=21) (enc:=encStage) (fun _=>rfl) (hr.below (hbw.mono hB)) HN.out hlt2
   have hel2:∀ j v,(encStage (l[k]'hkl))[j]?=some v→wr.cell? ((ad.add (k*21)).add j)=some v:=fun j v hv=>by
    rw [hel j (by have:=(List.getElem?_eq_some_iff.1 hv).1;simpa [encStage,smV] using this)]
    exact hv
   obtain ⟨x,hx⟩:∃ x,x=l[k]'hkl:=⟨_,rfl⟩
   rw [← hx] at hel2
   have htk:=List.take_succ_eq_append_getElem hkl
   rw [← hx] at htk
   have HTK:=Lib.hid htk
   have HX:=Lib.hid (show l[k]?=some x by rw [hx];exact List.getElem?_eq_getElem _)
   have hc:=HCL.out x wr hbw
   obtain ⟨b,hb⟩:∃ b,b=(x.into == q):=⟨_,rfl⟩
   rw [← hb] at hc
   have HBX:=Lib.hid hb
   obtain ⟨into,kind,nm,frm,gd,⟨o1,on,o3,ol⟩,ix,ct,dt,⟨sa,sb,sc,sd⟩,⟨b1,bn,b3,bl⟩,at_,nx,⟨ua,ub,uc,ud⟩,done⟩:=x
   have HEL:Hid (∀ j v,([.string ⟨into.toArray⟩,.int .i64 kind,.string ⟨nm.toArray⟩,.int .i64 frm,.int .i64 gd,.slice o1 on o3,.int .i64 ix,.int .i64 ct,.string ⟨dt.toArray⟩,.int .u64 sa,.int .u64 sb,.int .u64 sc,.int .u64 sd,.slice b1 bn b3,.int .i64 at_,.int .i64 nx,.int .u64 ua,.int .u64 ub,.int .u64 uc,.int .u64 ud,.bool done]:List Value)[j]?=some v→wr.cell? ((ad.add (k*21)).add j)=some v):=hel2
   have hc:Calls Tryz.prog 50 #[.agg #[.string ⟨into.toArray⟩,.int .i64 kind,.string ⟨nm.toArray⟩,.int .i64 frm,.int .i64 gd,.slice o1 on o3,.int .i64 ix,.int .i64 ct,.string ⟨dt.toArray⟩,.int .u64 sa,.int .u64 sb,.int .u64 sc,.int .u64 sd,.slice b1 bn b3,.int .i64 at_,.int .i64 nx,.int .u64 ua,.int .u64 ub,.int .u64 uc,.int .u64 ud,.bool done],.pointer (some p0)] wr fun e w'=>e=.returned (.bool b)∧Below wr.heap.size wr w':=hc
   clear hx htk hr hb hel hel2
   go_wp2_with (refine wpList_load_at rfl 77 (.tmp 14) rfl (ad.add (k*21)) rfl [.string ⟨into.toArray⟩,.int .i64 kind,.string ⟨nm.toArray⟩,.int .i64 frm,.int .i64 gd,.slice o1 on o3,.int .i64 ix,.int .i64 ct,.string ⟨dt.toArray⟩,.int .u64 sa,.int .u64 sb,.int .u64 sc,.int .u64 sd,.slice b1 bn b3,.int .i64 at_,.int .i64 nx,.int .u64 ua,.int .u64 ub,.int .u64 uc,.int .u64 ud,.bool done] _ HEL.out Tryz.underlying77 rfl tZ2 ?_)
   refine hc.mono ?_
   clear hc
   rintro e w1 ⟨rfl,hb1⟩
   have hbw1:=hbw.trans (hb1.mono hbw.size)
   cases b with
   | true =>
    go_wp2_with fail
    go_ret
    have hf:=firstP_eq (fun x:StageR=>x.into == q) l k _ hno.out HX.out HBX.out.symm
    exact ⟨by unfold firstI;rw [hf,if_pos hkl];rfl,hbw1⟩
   | false =>
    go_wp2_with fail
    go_roundw
    case rel =>
     refine ⟨k+1,by omega,by go_num,?_,hbw1⟩
     show ∀ y∈l.take (k+1),(y.into == q)=false
     exact mZ4
    case measure=>simp [intOf];omega
  ·have hkn:k=n:=tZ1
   have HF:Hid (firstI (fun x:StageR=>x.into == q) l=-1):=by
    show _=_
    exact mZ31
   clear hr hkn
   exact mZ2
set_option maxRecDepth 100000 in
set_option maxHeartbeats 1000000 in
theorem staged_any (l:List StageR) (n:Nat) (hnl:n=l.length) (A:Option Addr) (c:Nat) (p0:Addr) (q:BS) (w:World) (B:Nat) (hr:Reads w B 21 A n (cellsK encStage l)) (hB:B≤w.heap.size) (hn:n≤5000000000000) (hc:w.cell? p0=some (.string ⟨q.toArray⟩)) (hlt:p0.block<w.heap.size) :
  Calls Tryz.prog 49 #[.slice A n c,.func (.func 50) #[] #[.pointer (some p0)]] w fun e w'=>e=.returned (.bool (l.any fun x=>x.into == q))∧Below w.heap.size w w':=by
 have hcl:=Lib.hid (stagedI_any l n hnl A c p0 q w B hr hB hn hc hlt)
 have HA:=Lib.hid (firstI_any (fun x:StageR=>x.into == q) l)
 clear hnl hr hc
 go_enter Tryz.func49,Tryz.ntmps49
 go_wp2_with fail
 refine hcl.out.mono ?_
 exact mZ162
end Go.Proofs.YtiojfffgiejibaaGreatDoor
namespace Go.Proofs.YtiojfffgiejibaaGreatDoor
open Go.RowKit
set_option maxRecDepth 100000 in
set_option maxHeartbeats 1000000 in
theorem heldS_index {α:Type} (f0 f1 f2 f3 f4:α→Value) (p:α→Bool) (l:List α) (n:Nat) (hnl:n=l.length) (A:Option Addr) (c:Nat) (Keep:World→Prop) (w:World) (B:Nat)
  (hr:Reads w B 5 A n (cellsK (fun x=>[f0 x,f1 x,f2 x,f3 x,f4 x]) l)) (hB:B≤w.heap.size) (hn:n≤5000000000000) (hp:PredK Tryz.prog 97 #[] (fun x=>#[f0 x,f1 x,f2 x,f3 x,f4 x]) (·∈l) p Keep) (hk0:Keep w) :
  Calls Tryz.prog 129 #[.slice A n c,.func (.func 97) #[] #[]] w fun e w'=>e=.returned (.int .i64 (firstI p l))∧Below w.heap.size w w':=by
 exact mZ38
set_option maxRecDepth 100000 in
set_option maxHeartbeats 1000000 in
theorem heldC_any (x:SnapR) (w:World):Calls Tryz.prog 97 #[.agg #[.string ⟨x.nm.toArray⟩,.int .i64 x.gd,.slice x.body.A x.body.n x.body.c,.slice x.tags.A x.tags.n x.tags.c,.slice x.own.A x.own.n x.own.c]] w fun e w'=>e=.returned (.bool (decide (0<x.tags.n)))∧Below w.heap.size w w':=by
 obtain ⟨nm,gd,⟨bA,bn,bc,bl⟩,⟨tA,tn,tc,tl⟩,⟨oA,on,oc,ol⟩⟩:=x
 have hb1:=(Below.refl w.heap.size w).alloc (Nat.le_refl _) (.cells #[.string ⟨nm.toArray⟩,.int .i64 gd,.slice bA bn bc,.slice tA tn tc,.slice oA on oc] 58)
 go_enter Tryz.func97,Tryz.ntmps97
 go_wp2_with fail
 go_ret
 exact ⟨by simp [go_sem],hb1⟩
set_option maxRecDepth 100000 in
set_option maxHeartbeats 1000000 in
theorem heldF_any (l:List SnapR) (n:Nat) (hnl:n=l.length) (A:Option Addr) (c:Nat) (w:World) (B:Nat) (hr:Reads w B 5 A n (cellsK encSnap l)) (hB:B≤w.heap.size) (hn:n≤5000000000000) :
  Calls Tryz.prog 96 #[.slice A n c,.func (.func 97) #[] #[]] w fun e w'=>e=.returned (.bool (l.any fun x=>decide (0<x.tags.n)))∧Below w.heap.size w w':=by
 have hc:=Lib.hid (heldS_index (fun x:SnapR=>.string ⟨x.nm.toArray⟩) (fun x=>.int .i64 x.gd) (fun x=>.slice x.body.A x.body.n x.body.c) (fun x=>.slice x.tags.A x.tags.n x.tags.c) (fun x=>.slice x.own.A x.own.n x.own.c) (fun x=>decide (0<x.tags.n)) l n hnl A c (fun _=>True) w B hr hB hn
  ⟨fun x W _ _=>heldC_any x W,fun _ _ _ _=>trivial⟩ trivial)
 have HA:=Lib.hid (firstI_any (fun x:SnapR=>decide (0<x.tags.n)) l)
 clear hnl hr
 go_enter Tryz.func96,Tryz.ntmps96
 go_wp2_with fail
 refine hc.out.mono ?_
 exact mZ162
set_option maxRecDepth 100000 in
set_option maxHeartbeats 1000000 in
theorem shHeld_any (x:SetR) (w:World) (B:Nat) (hr:Reads w B 5 x.snaps.A x.snaps.n (cellsK encSnap x.snaps.l)) (hnl:x.snaps.n=x.snaps.l.length) (hB:B≤w.heap.size) (hn:x.snaps.n≤5000000000000) :
  Calls Tryz.prog 53 #[.agg #[.string ⟨x.path.toArray⟩,.string ⟨x.org.toArray⟩,.slice x.body.A x.body.n x.body.c,.slice x.snaps.A x.snaps.n x.snaps.c,.slice x.own.A x.own.n x.own.c]] w fun e w'=>e=.returned (.bool (x.snaps.l.any fun y=>decide (0<y.tags.n)))∧Below w.heap.size w w':=by
 obtain ⟨pa,og,⟨bA,bn,bc,bl⟩,⟨zA,zn,zc,zl⟩,⟨oA,on,oc,ol⟩⟩:=x
 have hb1:=(Below.refl w.heap.size w).alloc (Nat.le_refl _) (.cells #[.string ⟨pa.toArray⟩,.string ⟨og.toArray⟩,.slice bA bn bc,.slice zA zn zc,.slice oA on oc] 56)
 have hc:=Lib.hid (heldF_any zl zn hnl zA zc (w.alloc (.cells #[.string ⟨pa.toArray⟩,.string ⟨og.toArray⟩,.slice bA bn bc,.slice zA zn zc,.slice oA on oc] 56)) B (Reads.below hr (hb1.mono hB)) tZ7 hn)
 have HB1:=Lib.hid hb1
 clear hr hnl hb1
 go_enter Tryz.func53,Tryz.ntmps53
 go_wp2_with fail
 refine hc.out.mono ?_
 rintro e w1 ⟨rfl,hb⟩
 have HB:=Lib.hid (HB1.out.trans (hb.mono HB1.out.size))
 clear hb HB1
 go_wp2_with fail
 go_ret
 exact ⟨rfl,HB.out⟩
end Go.Proofs.YtiojfffgiejibaaGreatDoor
