/-
  'copy' at elements of several cells into a row that is known whole; the plain facts of what slices.Insert and slices.Delete make of a row. Lists of elements of several cells each, in memory: the cells of one element; where a sorted list is parted. A tenant of one's own of which one field of one set is stored. shape.With: a tenant with a set more. A tenant of one's own of which the snapshots of one set are changed, when no two sets have one row of snapshots. 'append' into a row that is known whole and has room. 'clear' of a piece of a row that is known whole. slices.Delete of one element, at elements of 5 cells, by its contract.
-/
import Derived.Lib.Overlaps
import Derived.Lib.AppendZerosOnto
import Derived.Deep.RegionLaw
import Derived.WalkKit
import Derived.WalkSpells
import Derived.Below
import Derived.Laws.OwnMore
import Derived.Deep.AppendLies
import Derived.Deep.Draws
import Derived.Laws.Rows
import Derived.Maps.AppendAt
import Derived.RegionTactic
import Derived.OwnWalk
import Derived.Deep.QuietTactic
import Derived.BigQuiet
import Derived.Lib.Hide
import Derived.Laws.CopyOwn
import Derived.IntWalk
import Derived.Test.YtcgclpcocdappaaGreatDoorRows
import Derived.Handy
import Derived.Deep.Quiet
import Derived.Orders
import Derived.Lib.SplitLaws
import Derived.Lib.LastIndexByte
import Derived.Lib.Strings
import Derived.ShutString
import Derived.Sort.Walk0
import Derived.Sort.KeysCollected
import Derived.Shelf.Strings.Search1
import Derived.Shelf.Strings.Search2
import Derived.Shelf.Strings.Search3
import Derived.Shelf.Strings.Cut
import Derived.Shelf.Strings.Count
import Derived.Shelf.LaysM
import Derived.Shelf.Strings.Shaped
import Derived.Shelf.Strings.LastIndex
import Derived.Shelf.Strings.Split
import Derived.Shelf.Strings.SplitShaped
import Derived.Shelf.Unicode.Decode
import Derived.Shelf.Strings.RuneCount
import Derived.Shelf.Strings.Explode
import Derived.Shelf.Unicode.DecodeSlow
import Derived.Test.YtcgclpcocdappaaGreatDoorProg
import Derived.Laws.BytesString
import Derived.Laws.IdiomStrings
import Derived.Lib.ConvBytes
import Derived.Deep.MidRow
import Derived.ProofKit
import Derived.OpenShut
import Derived.ChangeOld
import Derived.Carry
import Derived.SizedLaws
import Derived.JoinedCond
import Derived.Deep.CondSized
import Derived.Deep.Slices
import Derived.Deep.Fields
import Derived.Lib.SmallJoins
import Derived.Lib.AppendZeros
import Derived.Deep.DeepCutAuto
import Derived.Great.BuildSlice
import Derived.Test.YtcgclpcocdappaaGreatDoorJ0
import Derived.Test.YtcgclpcocdappaaGreatDoorJbkv1
import Derived.Test.YtcgclpcocdappaaGreatDoorJbkv3
import Derived.Test.YtcgclpcocdappaaGreatDoorJbkv4
import Derived.Test.YtcgclpcocdappaaGreatDoorJbkv8
import Derived.Test.YtcgclpcocdappaaGreatDoorJbkv10
import Derived.Test.YtcgclpcocdappaaGreatDoorJbkv15
import Derived.Test.YtcgclpcocdappaaGreatDoorJbkv20
import Derived.Test.YtcgclpcocdappaaGreatDoorJbkv22
import Derived.Test.YtcgclpcocdappaaGreatDoorJbkv27
namespace Go.Proofs.YtcgclpcocdappaaGreatDoor
open Go.RowKit
section
variable {P:Program}
theorem run_copy_rowK (w:World) (dT sT ty elem:TypeId) (k:Nat) (g o dLen dCap:Nat) (a:Addr) (sLen sCap m:Nat) (cur:Array Value) (t:TypeId) (cs:List Value)
  (hu:P.underlying dT=some (.slice elem)) (hs:(P.info? elem).map (·.size)=some k)
  (hg:w.heap[g]?=some (.cells cur t (0,0))) (hm:m=Nat.min sLen dLen) (hn:cs.length=m*k)
  (hsrc:∀ j v,cs[j]?=some v→w.cell? (a.add j)=some v) (hfit:o+cs.length≤cur.size) (h1:∀ v∈cs,v.oneCell'=true) :
  (Builtin.copy_ #[dT,sT] ty #[.slice (some ⟨g,o,none⟩) dLen dCap,.slice (some a) sLen sCap]).run P w =
   .ok (goInt m) (w.setRow g (cur.toList.take o++cs++cur.toList.drop (o+cs.length)).toArray):=by
 have hl:=run_loadCells_list (P:=P) w a cs hsrc
 have hst:=run_storeCells_at P g o t cs 0 cur w hg (by simpa using hfit) h1
 cases hq:P.info? elem with
 | none=>simp [hq] at hs
 | some i =>
  have hi:i.size=k:=by simpa [hq] using hs
  simp [Builtin.copy_,run_underlying hu,Builtin.lenOf,Builtin.firstCells,sizeOf,typeInfo,hq,hi,← hm,← hn,hl,hst]
theorem grown_setRow {w:World} {g:Nat} (cs:Array Value):w.grownBy (w.setRow g cs) (some g) :=
 ⟨rfl,rfl,rfl,by simp [World.setRow],fun k hk hne=>setRow_other w g k cs (by intro e;exact hne (by rw [e]))⟩
theorem grown_drew {w w':World} {r:Option Nat} (h:w.drew.grownBy w' r):w.grownBy w' r:=⟨h.os,h.tape,h.output,h.size,h.block⟩
theorem wp_copyK {o:Oper} {a:Act} {w:World} {K:Act→World→Prop} {Q:Exit→Act→World→Prop} (d s:Operand) (dT sT:TypeId)
  (ho:o.op=.call { callee:=.builtin .copy,args:=#[d,s],argTypes:=#[dT,sT] }) (elem:TypeId) (k:Nat) (hu:P.underlying dT=some (.slice elem)) (hsz:(P.info? elem).map (·.size)=some k)
  (g off dLen dCap:Nat) (ad:Addr) (sLen sCap m:Nat) (hd:a.eval d=.slice (some ⟨g,off,none⟩) dLen dCap) (hs:a.eval s=.slice (some ad) sLen sCap)
  (cur:List Value) (t:TypeId) (hg:w.heap[g]?=some (.cells cur.toArray t (0,0))) (cs:List Value) (hm:m=Nat.min sLen dLen) (hn:cs.length=m*k)
  (hsrc:∀ j v,cs[j]?=some v→w.cell? (ad.add j)=some v) (hfit:off+cs.length≤cur.length) (h1:∀ v∈cs,v.oneCell'=true)
  (h:∀ w',Hid (w'.heap[g]?=some (.cells (splice cur off cs).toArray t (0,0)))→w.grownBy w' (some g)→K (a.put o.dst (goInt m)) w'):o.wp P a w K Q:=by
 have hrun:=run_copy_rowK (P:=P) w dT sT o.type elem k g off dLen dCap ad sLen sCap m cur.toArray t cs hu hsz hg hm hn hsrc (by simpa using hfit) h1
 unfold Oper.wp
 simp [execOp,ho,resolve,invoke,builtin,hd,hs,hrun,Result.andThen]
 exact h _ (show _=_ by simpa [splice] using setRow_heap w g _ _ t _ hg) (grown_setRow _)
theorem wpList_copyK {w:World} {ops:Array Oper} {rest:List Oper} {o:Oper} {a:Act} {Q:Exit→Act→World→Prop} (hgd:o.guard=none) (d s:Operand) (dT sT:TypeId)
  (ho:o.op=.call { callee:=.builtin .copy,args:=#[d,s],argTypes:=#[dT,sT] }) (elem:TypeId) (k:Nat) (hu:P.underlying dT=some (.slice elem)) (hsz:(P.info? elem).map (·.size)=some k)
  (g off dLen dCap:Nat) (ad:Addr) (sLen sCap m:Nat) (hd:a.eval d=.slice (some ⟨g,off,none⟩) dLen dCap) (hs:a.eval s=.slice (some ad) sLen sCap)
  (cur:List Value) (t:TypeId) (hg:w.heap[g]?=some (.cells cur.toArray t (0,0))) (cs:List Value) (hm:m=Nat.min sLen dLen) (hn:cs.length=m*k)
  (hsrc:∀ j v,cs[j]?=some v→w.cell? (ad.add j)=some v) (hfit:off+cs.length≤cur.length) (h1:∀ v∈cs,v.oneCell'=true)
  (h:∀ w',Hid (w'.heap[g]?=some (.cells (splice cur off cs).toArray t (0,0)))→w.grownBy w' (some g)→wpList P ops Q rest (a.put o.dst (goInt m)) w'):wpList P ops Q (o :: rest) a w :=
 wpList_plain hgd fun _ hK=>wp_copyK d s dT sT ho elem k hu hsz g off dLen dCap ad sLen sCap m hd hs cur t hg cs hm hn hsrc hfit h1 (fun w' h1 h2=>hK _ _ (h w' h1 h2))
theorem step_copyK {ops:Array Oper} {o:Oper} {a:Act} {w:World} {K:Act→World→Prop} {Q:Exit→Act→World→Prop} {E:Prop} (hgd:o.guard=none) (d s:Operand) (dT sT:TypeId)
  (ho:o.op=.call { callee:=.builtin .copy,args:=#[d,s],argTypes:=#[dT,sT] }) (elem:TypeId) (k:Nat) (hu:P.underlying dT=some (.slice elem)) (hsz:(P.info? elem).map (·.size)=some k)
  (g off dLen dCap:Nat) (ad:Addr) (sLen sCap m:Nat) (hd:a.eval d=.slice (some ⟨g,off,none⟩) dLen dCap) (hs:a.eval s=.slice (some ad) sLen sCap)
  (cur:List Value) (t:TypeId) (hg:w.heap[g]?=some (.cells cur.toArray t (0,0))) (cs:List Value) (hm:m=Nat.min sLen dLen) (hn:cs.length=m*k)
  (hsrc:∀ j v,cs[j]?=some v→w.cell? (ad.add j)=some v) (hfit:off+cs.length≤cur.length) (h1:∀ v∈cs,v.oneCell'=true)
  (h:∀ w',Hid (w'.heap[g]?=some (.cells (splice cur off cs).toArray t (0,0)))→w.grownBy w' (some g)→K (a.put o.dst (goInt m)) w') :
  if Region.wanted o (yielded ops a.tmps)=true then Oper.wp P o a w K Q else E:=by
 have hw:Region.wanted o (yielded ops a.tmps)=true:=by simp [Region.wanted,hgd]
 rw [if_pos hw]
 exact wp_copyK d s dT sT ho elem k hu hsz g off dLen dCap ad sLen sCap m hd hs cur t hg cs hm hn hsrc hfit h1 h
end
/-! ### what becomes of a row -/
theorem take_shift {cur xs N:List Value} {a b c:Nat} (hx:cur.take c=xs) (ha:a≤c) (hN:N.length=b) (hl:c+b≤cur.length) :
  (splice (splice cur (a+b) (xs.drop a)) a N).take (c+b)=xs.take a++N++xs.drop a:=by
 have hxl:xs.length=c:=by rw [← hx,List.length_take];omega
 have e1:splice cur (a+b) (xs.drop a)=cur.take (a+b)++(xs.drop a++cur.drop (c+b)):=by
  unfold splice
  rw [List.length_drop,hxl,show a+b+(c-a)=c+b by omega]
 have e2:(splice cur (a+b) (xs.drop a)).take a=xs.take a:=by
  rw [e1,List.take_append_of_le_length (by rw [List.length_take];omega),List.take_take,Nat.min_eq_left (by omega),← hx,List.take_take,Nat.min_eq_left ha]
 have e3:(splice cur (a+b) (xs.drop a)).drop (a+N.length)=xs.drop a++cur.drop (c+b):=by
  rw [e1,hN,List.drop_append_of_le_length (by rw [List.length_take];omega),List.drop_eq_nil_of_le (by rw [List.length_take];omega),List.nil_append]
 have e4:splice (splice cur (a+b) (xs.drop a)) a N=(xs.take a++N++xs.drop a)++cur.drop (c+b):=by
  show _++(N++_)=_
  rw [e2,e3]
  simp
 rw [e4,List.take_append_of_le_length (by simp;omega),List.take_of_length_le (by simp;omega)]
theorem take_grow {ROW X1 N X2:List Value} {a b c:Nat} (h1:ROW.take a=X1) (ha:X1.length=a) (hN:N.length=b) (h2:X2.length=c) :
  (splice (splice ROW a N) (a+b) X2).take (a+b+c)=X1++N++X2:=by
 have e1:splice ROW a N=(X1++N)++ROW.drop (a+b):=by
  show _++(N++_)=_
  rw [h1,hN];simp
 have e2:splice (splice ROW a N) (a+b) X2=(X1++N++X2)++(ROW.drop (a+b)).drop c:=by
  show _++(X2++_)=_
  rw [e1,h2,List.take_append_of_le_length (by simp;omega),List.take_of_length_le (by simp;omega),List.drop_append,List.drop_eq_nil_of_le (by simp;omega),List.nil_append]
  simp only [List.length_append,ha,hN]
  rw [show a+b+c-(a+b)=c by omega]
  simp
 rw [e2,List.take_append_of_le_length (by simp;omega),List.take_of_length_le (by simp;omega)]
theorem grown_fresh {w W w':World} {k:Nat} {r:Option Nat} (h:w.grownBy W r) (h2:W.grownBy w' (some k)) (hk:w.heap.size≤k):w.grownBy w' r :=
 ⟨h2.os.trans h.os,h2.tape.trans h.tape,h2.output.trans h.output,Nat.le_trans h.size h2.size,fun j hj hne=>(h2.block j (Nat.lt_of_lt_of_le hj h.size) (by intro e;injection e with e;omega)).trans (h.block j hj hne)⟩
theorem heap_lt {w:World} {g:Nat} {o:Obj} (h:w.heap[g]?=some o):g<w.heap.size:=(Array.getElem?_eq_some_iff.1 h).1
theorem shape_of {w:World} {g:Nat} {cs:Array Value} {t:TypeId} (h:w.heap[g]?=some (.cells cs t (0,0))):w.shape? g=some (t,cs.size):=by simp [World.shape?,h]
end Go.Proofs.YtcgclpcocdappaaGreatDoor
namespace Go.Proofs.YtcgclpcocdappaaGreatDoor
open Go.RowKit
section
variable {α:Type}
theorem cellsK_take {enc:α→List Value} {k:Nat} (hk:∀ x,(enc x).length=k) (l:List α) (i:Nat):cellsK enc (l.take i)=(cellsK enc l).take (i*k):=by
 induction l generalizing i with
 | nil=>simp [cellsK]
 | cons x l ih =>
  cases i with
  | zero=>simp [cellsK]
  | succ i =>
   have e:cellsK enc (x :: l)=enc x++cellsK enc l:=rfl
   have e2:cellsK enc ((x :: l).take (i+1))=enc x++cellsK enc (l.take i):=rfl
   rw [e,e2,ih,List.take_append,hk,List.take_of_length_le (l:=enc x) (by rw [hk,Nat.add_mul];omega),show (i+1)*k-k=i*k by rw [Nat.add_mul];omega]
/-! ### where a list is parted -/
def SignAsc (cf:α→Int) (l:List α):Prop:=∀ (i j:Nat) x y,i<j→l[i]?=some x→l[j]?=some y→cf y<0→cf x<0
end
end Go.Proofs.YtcgclpcocdappaaGreatDoor
namespace Go.Proofs.YtcgclpcocdappaaGreatDoor
open Go.RowKit
section
variable {w w':World} {base g:Nat} {cs:Array Value}
/-- a tenant whose row of sets is another one of one's own, when only that row's block was changed -/
theorem TenO.setsO {t:TenR} (h:TenO w base t) (s':FS SetR) (hg:w.grownBy w' t.sets.val.ownBlock) (hs:s'.own w' base 42 5 encSet) (hm:∀ y∈s'.l,SetO w' base y) :
  TenO w' base ⟨t.nm,t.quota,t.next,s',t.grants,t.stages,t.log⟩:=by
 have hk:∀ {T:TypeId} {k n:Nat} {v:Value} {xs:List Value},T≠42→w.ownsRow base T k v n xs→w'.ownsRow base T k v n xs:=by
  intro T k n v xs hT hr
  cases he:t.sets.val.ownBlock with
  | none=>rw [he] at hg;exact hr.kept hg (by cases v.ownBlock <;> simp)
  | some g =>
   rw [he] at hg
   refine hr.kept hg (.inr ?_)
   rcases h.sets.2.2 with ⟨e,_⟩ | ⟨g',cap,cur,e,_,hh,_⟩
   ·rw [e] at he;simp [Value.ownBlock] at he
   ·rw [e] at he
    have he:g'=g:=by simpa [Value.ownBlock] using he
    subst he
    exact own_blk_ne hr (show Blk w g' 42 cur from hh) hT
 exact ⟨hs,hm,⟨h.grants.1,hk (by decide) h.grants.2⟩,⟨h.stages.1,hk (by decide) h.stages.2⟩,fun y hy=>⟨⟨(h.eachG y hy).own.1,hk (by decide) (h.eachG y hy).own.2⟩,⟨(h.eachG y hy).body.1,hk (by decide) (h.eachG y hy).body.2⟩⟩,⟨h.log.1,hk (by decide) h.log.2⟩⟩
end
end Go.Proofs.YtcgclpcocdappaaGreatDoor
namespace Go.Proofs.YtcgclpcocdappaaGreatDoor
open Go.RowKit
theorem encSet_one (x:SetR):∀ u∈encSet x,u.oneCell'=true:=by intro u hu;simp [encSet,strV,FS.val] at hu;rcases hu with rfl | rfl | rfl | rfl | rfl <;> rfl
end Go.Proofs.YtcgclpcocdappaaGreatDoor
namespace Go.Proofs.YtcgclpcocdappaaGreatDoor
open Go.RowKit
section
variable {w w1:World} {base:Nat}
/-- the row is changed where it lies -/
theorem Aside.place {t:TenR} {k:Nat} {hk:k<t.sets.l.length} (h:Aside w1 base t k hk) (s':FS SnapR) (hs:s'.own w1 base 57 5 encSnap) (hm:∀ y∈s'.l,SnapO w1 base y) (hv:s'.val=(t.sets.l[k]'hk).snaps.val) :
  TenO w1 base (t.putS k ((t.sets.l[k]'hk).withSn s')):=by
 have he:cellsK encSet (t.sets.l.set k ((t.sets.l[k]'hk).withSn s'))=cellsK encSet t.sets.l:=by
  unfold cellsK
  rw [List.flatMap_def,List.flatMap_def,List.map_set]
  congr 1
  have:encSet ((t.sets.l[k]'hk).withSn s')=(t.sets.l.map encSet)[k]'(by rw [List.length_map];exact hk):=by
   rw [List.getElem_map]
   show [strV (t.sets.l[k]'hk).path,strV (t.sets.l[k]'hk).org,(t.sets.l[k]'hk).body.val,s'.val,(t.sets.l[k]'hk).own.val]=_
   rw [hv]
   rfl
  rw [this,List.set_getElem_self]
 refine ⟨⟨?_,?_⟩,fun y hy=>?_,h.grants,h.stages,h.eachG,h.log⟩
 ·show t.sets.n=(t.sets.l.set k _).length
  rw [List.length_set]
  exact h.sets.1
 ·show w1.ownsRow _ _ _ _ _ (cellsK encSet (t.sets.l.set k _))
  rw [he]
  exact h.sets.2
 ·rcases mem_set_at (show y∈t.sets.l.set k _ from hy) with rfl | ⟨j,hj,hne,rfl⟩
  ·exact ⟨h.body,hs,hm,h.own⟩
  ·exact h.others j hj hne
end
end Go.Proofs.YtcgclpcocdappaaGreatDoor
namespace Go.Proofs.YtcgclpcocdappaaGreatDoor
open Go.RowKit
section
variable {P:Program}
theorem run_append_rowK (w:World) (t ty elem:TypeId) (k:Nat) (g sLen sCap:Nat) (a:Addr) (xLen xCap:Nat) (cur:List Value) (T:TypeId) (cs:List Value)
  (hu:P.underlying t=some (.slice elem)) (hs:(P.info? elem).map (·.size)=some k)
  (hg:w.heap[g]?=some (.cells cur.toArray T (0,0))) (hn:cs.length=xLen*k)
  (hsrc:∀ j v,cs[j]?=some v→w.cell? (a.add j)=some v) (hfit:sLen*k+cs.length≤cur.length) (hroom:sLen+xLen≤sCap) (h1:∀ v∈cs,v.oneCell'=true) :
  (Builtin.append_ #[t,t] ty #[.slice (some ⟨g,0,none⟩) sLen sCap,.slice (some a) xLen xCap]).run P w =
   .ok (.slice (some ⟨g,0,none⟩) (sLen+xLen) sCap) (w.setRow g (splice cur (sLen*k) cs).toArray):=by
 have hl:=run_loadCells_list (P:=P) w a cs hsrc
 have hst:=run_storeCells_at P g (sLen*k) T cs 0 cur.toArray w hg (by simpa using hfit) h1
 cases hq:P.info? elem with
 | none=>simp [hq] at hs
 | some i =>
  have hi:i.size=k:=by simpa [hq] using hs
  simp [Builtin.append_,run_underlying hu,Builtin.lenOf,Builtin.firstCells,sizeOf,typeInfo,hq,hi,← hn,hl,hroom,addr_add0,hst,splice]
theorem wp_appendK {o:Oper} {a:Act} {w:World} {K:Act→World→Prop} {Q:Exit→Act→World→Prop} (d s:Operand) (t:TypeId)
  (ho:o.op=.call { callee:=.builtin .append,args:=#[d,s],argTypes:=#[t,t] }) (elem:TypeId) (k:Nat) (hu:P.underlying t=some (.slice elem)) (hsz:(P.info? elem).map (·.size)=some k)
  (g sLen sCap:Nat) (ad:Addr) (xLen xCap:Nat) (hd:a.eval d=.slice (some ⟨g,0,none⟩) sLen sCap) (hs:a.eval s=.slice (some ad) xLen xCap)
  (cur:List Value) (T:TypeId) (hg:w.heap[g]?=some (.cells cur.toArray T (0,0))) (cs:List Value) (hn:cs.length=xLen*k)
  (hsrc:∀ j v,cs[j]?=some v→w.cell? (ad.add j)=some v) (hfit:sLen*k+cs.length≤cur.length) (hroom:sLen+xLen≤sCap) (h1:∀ v∈cs,v.oneCell'=true)
  (h:∀ w',Hid (w'.heap[g]?=some (.cells (splice cur (sLen*k) cs).toArray T (0,0)))→w.grownBy w' (some g)→K (a.put o.dst (.slice (some ⟨g,0,none⟩) (sLen+xLen) sCap)) w'):o.wp P a w K Q:=by
 have hrun:=run_append_rowK (P:=P) w t o.type elem k g sLen sCap ad xLen xCap cur T cs hu hsz hg hn hsrc hfit hroom h1
 unfold Oper.wp
 simp [execOp,ho,resolve,invoke,builtin,hd,hs,hrun,Result.andThen]
 exact h _ (show _=_ by simpa [splice] using setRow_heap w g _ _ T _ hg) (grown_setRow _)
theorem step_appendK {ops:Array Oper} {o:Oper} {a:Act} {w:World} {K:Act→World→Prop} {Q:Exit→Act→World→Prop} {E:Prop} (hgd:o.guard=none) (d s:Operand) (t:TypeId)
  (ho:o.op=.call { callee:=.builtin .append,args:=#[d,s],argTypes:=#[t,t] }) (elem:TypeId) (k:Nat) (hu:P.underlying t=some (.slice elem)) (hsz:(P.info? elem).map (·.size)=some k)
  (g sLen sCap:Nat) (ad:Addr) (xLen xCap:Nat) (hd:a.eval d=.slice (some ⟨g,0,none⟩) sLen sCap) (hs:a.eval s=.slice (some ad) xLen xCap)
  (cur:List Value) (T:TypeId) (hg:w.heap[g]?=some (.cells cur.toArray T (0,0))) (cs:List Value) (hn:cs.length=xLen*k)
  (hsrc:∀ j v,cs[j]?=some v→w.cell? (ad.add j)=some v) (hfit:sLen*k+cs.length≤cur.length) (hroom:sLen+xLen≤sCap) (h1:∀ v∈cs,v.oneCell'=true)
  (h:∀ w',Hid (w'.heap[g]?=some (.cells (splice cur (sLen*k) cs).toArray T (0,0)))→w.grownBy w' (some g)→K (a.put o.dst (.slice (some ⟨g,0,none⟩) (sLen+xLen) sCap)) w') :
  if Region.wanted o (yielded ops a.tmps)=true then Oper.wp P o a w K Q else E:=by
 have hw:Region.wanted o (yielded ops a.tmps)=true:=by simp [Region.wanted,hgd]
 rw [if_pos hw]
 exact wp_appendK d s t ho elem k hu hsz g sLen sCap ad xLen xCap hd hs cur T hg cs hn hsrc hfit hroom h1 h
end
end Go.Proofs.YtcgclpcocdappaaGreatDoor
namespace Go.Proofs.YtcgclpcocdappaaGreatDoor
open Go.RowKit
section
variable {P:Program}
theorem run_clear_rowK (w:World) (t ty e:TypeId) (z:Value) (ht:P.underlying t=some (.slice e)) (hv:∀ w,(zeroValue e).run P w=.ok z w) (h1:∀ u∈z.cells.toList,u.oneCell'=true)
  (g o n c:Nat) (cur:List Value) (T:TypeId) (hg:w.heap[g]?=some (.cells cur.toArray T (0,0))) (hn:0<n) (hfit:o+n*z.cells.size≤cur.length) :
  (Builtin.clear_ #[t] ty #[.slice (some ⟨g,o,none⟩) n c]).run P w=.ok (.tuple #[]) (w.setRow g (splice cur o (Builtin.zeroCells z.cells n).toList).toArray):=by
 have hzl:(Builtin.zeroCells z.cells n).toList.length=n*z.cells.size:=by simp [Builtin.zeroCells]
 have hz1:∀ u∈(Builtin.zeroCells z.cells n).toList,u.oneCell'=true:=by
  intro u hu
  simp only [Builtin.zeroCells,Array.toList_map,Array.toList_range,List.mem_map,List.mem_range] at hu
  obtain ⟨i,hi,rfl⟩:=hu
  have hk:0<z.cells.size:=by
   rcases Nat.eq_zero_or_pos z.cells.size with h | h
   ·rw [h] at hi;omega
   ·exact h
  have hm:=Nat.mod_lt i hk
  rw [getElem!_pos z.cells _ hm]
  exact h1 _ (by simp)
 have hst:=run_storeCells_at P g o T (Builtin.zeroCells z.cells n).toList 0 cur.toArray w hg (by rw [hzl];simpa using hfit) hz1
 obtain ⟨m,rfl⟩:∃ m,n=m+1:=⟨n-1,by omega⟩
 simp [Builtin.clear_,run_underlying ht,hv,hst,splice]
theorem wp_clearK {o:Oper} {a:Act} {w:World} {K:Act→World→Prop} {Q:Exit→Act→World→Prop} (d:Operand) (t:TypeId)
  (ho:o.op=.call { callee:=.builtin .clear,args:=#[d],argTypes:=#[t] }) (e:TypeId) (z:Value) (ht:P.underlying t=some (.slice e)) (hv:∀ w,(zeroValue e).run P w=.ok z w) (h1:∀ u∈z.cells.toList,u.oneCell'=true)
  (g off n c:Nat) (hd:a.eval d=.slice (some ⟨g,off,none⟩) n c) (cur:List Value) (T:TypeId) (hg:w.heap[g]?=some (.cells cur.toArray T (0,0))) (hfit:off+n*z.cells.size≤cur.length)
  (h:∀ w' zs,zs.length=n*z.cells.size→Hid (w'.heap[g]?=some (.cells (splice cur off zs).toArray T (0,0)))→w.grownBy w' (some g)→K (a.put o.dst (.tuple #[])) w'):o.wp P a w K Q:=by
 rcases Nat.eq_zero_or_pos n with h0 | h0
 ·subst h0
  have hrun:(Builtin.clear_ #[t] o.type #[.slice (some ⟨g,off,none⟩) 0 c]).run P w=.ok (.tuple #[]) w:=by simp [Builtin.clear_,run_underlying ht]
  unfold Oper.wp
  simp [execOp,ho,resolve,invoke,builtin,hd,hrun,Result.andThen]
  exact h w [] (by simp) (show _=_ by simpa [splice] using hg) (World.grownBy.refl _ _)
 ·have hrun:=run_clear_rowK (P:=P) w t o.type e z ht hv h1 g off n c cur T hg h0 hfit
  unfold Oper.wp
  simp [execOp,ho,resolve,invoke,builtin,hd,hrun,Result.andThen]
  exact h _ _ (by simp [Builtin.zeroCells]) (show _=_ from setRow_heap w g _ _ T _ hg) (grown_setRow _)
theorem wpList_clearK {w:World} {ops:Array Oper} {rest:List Oper} {o:Oper} {a:Act} {Q:Exit→Act→World→Prop} (hgd:o.guard=none) (d:Operand) (t:TypeId)
  (ho:o.op=.call { callee:=.builtin .clear,args:=#[d],argTypes:=#[t] }) (e:TypeId) (z:Value) (ht:P.underlying t=some (.slice e)) (hv:∀ w,(zeroValue e).run P w=.ok z w) (h1:∀ u∈z.cells.toList,u.oneCell'=true)
  (g off n c:Nat) (hd:a.eval d=.slice (some ⟨g,off,none⟩) n c) (cur:List Value) (T:TypeId) (hg:w.heap[g]?=some (.cells cur.toArray T (0,0))) (hfit:off+n*z.cells.size≤cur.length)
  (h:∀ w' zs,zs.length=n*z.cells.size→Hid (w'.heap[g]?=some (.cells (splice cur off zs).toArray T (0,0)))→w.grownBy w' (some g)→wpList P ops Q rest (a.put o.dst (.tuple #[])) w'):wpList P ops Q (o :: rest) a w :=
 wpList_plain hgd fun _ hK=>wp_clearK d t ho e z ht hv h1 g off n c hd cur T hg hfit (fun w' zs h0 h1 h2=>hK _ _ (h w' zs h0 h1 h2))
end
end Go.Proofs.YtcgclpcocdappaaGreatDoor
namespace Go.Proofs.YtcgclpcocdappaaGreatDoor
open Go.RowKit
theorem Tryz.delSnap_size:(Tryz.prog.info? 57).map (·.size)=some 5:=by kernel_rfl
theorem Tryz.delSnap_zero (w:World):(zeroValue 57).run Tryz.prog w=.ok (.agg #[.string ByteArray.empty,.int .i64 0,.slice none 0 0,.slice none 0 0,.slice none 0 0]) w:=by kernel_rfl
theorem delSnap_splice (cur:List Value) (n i c0:Nat) (xs:List Value) (hx:cur.take (n*5)=xs) (hi:i<n) (hn:n≤c0) (hl:cur.length=c0*5) (zs:List Value) (hz:zs.length=1*5) :
  (splice (splice cur (i*5) (xs.drop ((i+1)*5))) ((n-1)*5) zs).take ((n-1)*5)=xs.take (i*5)++xs.drop ((i+1)*5)∧(splice (splice cur (i*5) (xs.drop ((i+1)*5))) ((n-1)*5) zs).length=c0*5:=by
 have hxl:xs.length=n*5:=by rw [← hx,List.length_take];omega
 have hdl:(xs.drop ((i+1)*5)).length=(n-1-i)*5:=by rw [List.length_drop,hxl];omega
 have h1:(splice cur (i*5) (xs.drop ((i+1)*5))).length=c0*5:=by
  unfold splice
  simp only [List.length_append,List.length_take,List.length_drop] at hdl ⊢
  omega
 refine ⟨?_,?_⟩
 ·have e1:(splice (splice cur (i*5) (xs.drop ((i+1)*5))) ((n-1)*5) zs).take ((n-1)*5)=(splice cur (i*5) (xs.drop ((i+1)*5))).take ((n-1)*5):=by
   show List.take _ (List.take _ (splice cur (i*5) (xs.drop ((i+1)*5)))++(zs++_))=_
   rw [List.take_append_of_le_length (by rw [List.length_take,h1];omega),List.take_take,Nat.min_self]
  rw [e1]
  have hc:cur.take (i*5)=xs.take (i*5):=by rw [← hx,List.take_take,Nat.min_eq_left (by omega)]
  have hL:(xs.take (i*5)++xs.drop ((i+1)*5)).length=(n-1)*5:=by rw [List.length_append,List.length_take,hdl,hxl];omega
  show List.take _ (cur.take (i*5)++(xs.drop ((i+1)*5)++_))=_
  rw [hc,← List.append_assoc,List.take_append_of_le_length (by rw [hL];exact Nat.le_refl _)]
  exact List.take_of_length_le (by rw [hL];exact Nat.le_refl _)
 ·show (List.take _ (splice cur (i*5) (xs.drop ((i+1)*5)))++(zs++List.drop _ _)).length=_
  rw [List.length_append,List.length_append,List.length_take,List.length_drop,h1,hz]
  omega
set_option maxRecDepth 100000 in
set_option maxHeartbeats 1000000 in
theorem delSnap_any (xs:List Value) (h1:∀ u∈xs,u.oneCell'=true) (n i c0 base:Nat) (A0:Option Addr) (w:World) (hi:i<n) (hn:n≤5000000000000) (hown:w.ownsRow base 57 5 (.slice A0 n c0) n xs) :
  Calls Tryz.prog 71 #[.slice A0 n c0,.int .i64 i,.int .i64 ((i:Int)+1)] w fun e w'=>∃ v,e=.returned v∧w'.ownsRow base 57 5 v (n-1) (xs.take (i*5)++xs.drop ((i+1)*5))∧w.grownBy w' (Value.slice A0 n c0).ownBlock:=by
 rcases hown.2 with ⟨_,h0⟩ | ⟨g,cap,cur,hs,hbg,hh,hnc,hcm,hsz,hx⟩
 ·omega
 injection hs with e1 _ e2
 subst e1 e2
 have hh':w.heap[g]?=some (.cells cur.toList.toArray 57 (0,0)):=by simpa using hh
 have hcl:cur.toList.length=c0*5:=by simpa using hsz
 obtain ⟨cl,hcl0⟩:∃ cl,cl=cur.toList:=⟨_,rfl⟩
 rw [← hcl0] at hh' hcl hx
 have hxl:xs.length=n*5:=hown.1
 have hdl:(xs.drop ((i+1)*5)).length=(n-1-i)*5:=by rw [List.length_drop,hxl];omega
 have hcells:∀ (w':World),w'.heap[g]?=w.heap[g]?→∀ j v,(xs.drop ((i+1)*5))[j]?=some v→w'.cell? ((⟨g,(i+1)*5,none⟩:Addr).add j)=some v:=by
  intro w' hw j v hv
  have hv2:cl[(i+1)*5+j]?=some v:=by
   rw [List.getElem?_drop,← hx] at hv
   obtain ⟨hlt,_⟩:=List.getElem?_eq_some_iff.1 hv
   rw [List.length_take] at hlt
   rwa [List.getElem?_take_of_lt (by omega)] at hv
  have had:(⟨g,(i+1)*5,none⟩:Addr).add j=⟨g,(i+1)*5+j,none⟩:=by unfold Addr.add;split <;> simp_all
  rw [had,cell_of_row w' g _ _ _ _ (hw.trans hh')]
  simpa using hv2
 have hni:(i:Int)+1≤(n:Int):=by omega
 have hin:(i:Int)≤(n:Int):=by omega
 have hnci:(n:Int)≤(c0:Int):=by omega
 have hcmi:c0≤9223372036854775807:=by unfold maxLen at hcm;omega
 have hne:(((i:Int)) == (i:Int)+1)=false:=by rw [beq_eq_false_iff_ne];omega
 have ht1:((i:Int)+1).toNat=i+1:=by omega
 have hsub:n-(i+1)=n-1-i:=by omega
 have hi1c:(i:Int)+1≤(c0:Int):=by omega
 have hic:(i:Int)≤(c0:Int):=by omega
 have hi0:(0:Int)≤(i:Int)+1:=by omega
 have HC:=Lib.hid hcells
 have HH:=Lib.hid hh'
 have HDL:=Lib.hid hdl
 have HXL:=Lib.hid hxl
 have HCL:=Lib.hid hcl
 have HX:=Lib.hid hx
 have H1:=Lib.hid (fun u hu=>h1 u (List.mem_of_mem_drop (i:=(i+1)*5) hu))
 have HSP:=Lib.hid (fun zs hz=>delSnap_splice cl n i c0 xs hx hi hnc hcl zs hz)
 have hgl:g<w.heap.size:=heap_lt hh'
 clear hcells hh' hdl hxl hcl hx h1 hown hh hsz hcl0
 go_enter Tryz.func71,Tryz.ntmps71
 go_wp2_with fail
 by_cases hlast:c0=i+1
 ·have hnl:n=i+1:=by omega
  subst hlast
  subst hnl
  have hic2:(i:Int)≤(i:Int)+1:=by omega
  have hnil:xs.drop ((i+1)*5)=[]:=List.drop_eq_nil_of_le (by rw [HXL.out];exact Nat.le_refl _)
  have HNIL:=Lib.hid hnil
  clear hnil
  go_region_law (refine step_appendK rfl _ _ 39 rfl 57 5 Tryz.underlying39 Tryz.delSnap_size g i (i+1) ⟨g,0,none⟩ 0 0 (by simp [Act.eval,Act.put]) (by simp [Act.eval,Act.put]) cl 57 HH.out [] (by simp) (by simp) (by rw [HCL.out];simp;omega) (by omega) (by simp) ?_;intro w1 hg1 hgr1)
  have hgr:=grown_drew hgr1
  have HGR:=Lib.hid hgr
  have HG1:=hg1
  have hz1:∀ u∈(.agg #[.string ByteArray.empty,.int .i64 0,.slice none 0 0,.slice none 0 0,.slice none 0 0]:Value).cells.toList,u.oneCell'=true:=fun u hu=>List.all_eq_true.1 (show ((.agg #[.string ByteArray.empty,.int .i64 0,.slice none 0 0,.slice none 0 0,.slice none 0 0]:Value).cells.toList.all (·.oneCell'))=true from rfl) u hu
  clear hg1 hgr1 hgr
  simp only [Act.put,zA]
  go_wp2_with (with_reducible refine wpList_clearK rfl (.tmp 31) 39 rfl 57 (.agg #[.string ByteArray.empty,.int .i64 0,.slice none 0 0,.slice none 0 0,.slice none 0 0]) Tryz.underlying39 Tryz.delSnap_zero hz1 g (i*5) 1 1 (by simp [Act.eval]) (splice cl (i*5) ([])) 57 HG1.out (by simp [splice,Value.cells,HCL.out];omega) ?_;intro w2 zs hzs hg2 hgr2)
  have hzz:zs.length=1*5:=by rw [hzs];rfl
  have hsp:=HSP.out zs hzz
  rw [HNIL.out,Nat.add_sub_cancel] at hsp
  have hrow:=own_of_row (base:=base) hg2.out hbg (Nat.le_succ i) hcm hsp.2 hsp.1
  have hgr:=HGR.out.trans hgr2
  have HROW:=Lib.hid hrow
  clear hrow hsp hg2 hgr2 hzs hzz
  go_ret
  exact ⟨_,rfl,by rw [HNIL.out];exact HROW.out,hgr⟩
 ·have hlt2:i+1<c0:=by omega
  obtain ⟨p,hp⟩:∃ p,p=n-1:=⟨_,rfl⟩
  have hip:i+(n-1-i)=p:=by omega
  have hnp1:n-p=1:=by omega
  have hpn:(p:Int)≤(n:Int):=by omega
  have hpc:(p:Int)≤(c0:Int):=by omega
  have hcp:¬ c0=p:=by omega
  have HIP:=Lib.hid hip
  have HP:=Lib.hid hp
  clear hip hp
  go_region_law (refine step_appendK rfl _ _ 39 rfl 57 5 Tryz.underlying39 Tryz.delSnap_size g i c0 ⟨g,(i+1)*5,none⟩ (n-1-i) (c0-(i+1)) (by simp [Act.eval,Act.put]) (by simp [Act.eval,Act.put]) cl 57 HH.out (xs.drop ((i+1)*5)) HDL.out (HC.out _ rfl) (by rw [HDL.out,HCL.out];omega) (by omega) H1.out ?_;intro w1 hg1 hgr1)
  have hgr:=grown_drew hgr1
  have HGR:=Lib.hid hgr
  have HG1:=hg1
  have hz1:∀ u∈(.agg #[.string ByteArray.empty,.int .i64 0,.slice none 0 0,.slice none 0 0,.slice none 0 0]:Value).cells.toList,u.oneCell'=true:=fun u hu=>List.all_eq_true.1 (show ((.agg #[.string ByteArray.empty,.int .i64 0,.slice none 0 0,.slice none 0 0,.slice none 0 0]:Value).cells.toList.all (·.oneCell'))=true from rfl) u hu
  clear hg1 hgr1 hgr
  simp only [Act.put,zA]
  rw [HIP.out]
  go_wp2_with (with_reducible refine wpList_clearK rfl (.tmp 31) 39 rfl 57 (.agg #[.string ByteArray.empty,.int .i64 0,.slice none 0 0,.slice none 0 0,.slice none 0 0]) Tryz.underlying39 Tryz.delSnap_zero hz1 g (p*5) 1 (c0-p) (by simp [Act.eval]) (splice cl (i*5) (xs.drop ((i+1)*5))) 57 HG1.out (by have h2:=(HSP.out (.agg #[.string ByteArray.empty,.int .i64 0,.slice none 0 0,.slice none 0 0,.slice none 0 0]:Value).cells.toList rfl).2;have h3:=HDL.out;have h4:=HCL.out;have h5:=HP.out;unfold splice;simp only [List.length_append,List.length_take,List.length_drop] at h3 ⊢;simp [Value.cells];omega) ?_;intro w2 zs hzs hg2 hgr2)
  have hzz:zs.length=1*5:=by rw [hzs];rfl
  have hsp:=HSP.out zs hzz
  rw [← HP.out] at hsp
  have hrow:=own_of_row (base:=base) hg2.out hbg (by have:=HP.out;omega) hcm hsp.2 hsp.1
  have hgr:=HGR.out.trans hgr2
  have HROW:=Lib.hid hrow
  clear hrow hsp hg2 hgr2 hzs hzz
  go_ret
  exact ⟨_,rfl,by rw [← HP.out];exact HROW.out,hgr⟩
end Go.Proofs.YtcgclpcocdappaaGreatDoor
