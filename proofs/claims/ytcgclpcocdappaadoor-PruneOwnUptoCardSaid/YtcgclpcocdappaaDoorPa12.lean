/-
  A wide struct: loaded, and stored into a block that has just been made, all its cells at once.
-/
import Derived.Deep.MidRow
import Derived.WalkKit
import Derived.WalkSpells
import Derived.Below
import Derived.Laws.OwnMore
import Derived.Deep.AppendLies
import Derived.Deep.Draws
import Derived.Laws.Rows
import Derived.Maps.AppendAt
import Derived.RegionTactic
import Derived.OwnWalk
import Derived.Deep.QuietTactic
import Derived.BigQuiet
import Derived.Lib.Hide
import Derived.Laws.CopyOwn
import Derived.IntWalk
import Derived.Test.YtcgclpcocdappaaDoorP0
import Derived.Test.YtcgclpcocdappaaDoorPa1
namespace Go.Proofs.YtcgclpcocdappaaDoor
open Go.RowKit
theorem run_loadVar_at {P:Program} (w:World) (a:Addr) (ty:TypeId) (cs:List Value) (d:TypeDesc) (hc:∀ (j:Nat) (v:Value),cs[j]?=some v→w.cell? (a.add j)=some v)
  (hu:P.underlying ty=some d) (hd:d.isRow=true) (hi:(P.info? ty).map (·.size)=some cs.length):(loadVar ty a).run P w=.ok (.agg cs.toArray) w:=by
 have hl:(loadCells a cs.length).run P w=.ok cs.toArray w:=run_loadCells_list (P:=P) w a cs hc
 cases hq:P.info? ty with
 | none=>simp [hq] at hi
 | some i =>
  have hs:i.size=cs.length:=by simpa [hq] using hi
  have hagg:(isAgg ty).run P w=.ok true w:=by
   unfold isAgg
   rw [Sem.run_bind,run_underlying hu w]
   cases d <;> simp_all
  simp [loadVar,Sem.run_bind,hagg,sizeOf,typeInfo,hq,hs,hl]
theorem wpList_load_at {P:Program} {ops:Array Oper} {rest:List Oper} {op:Oper} {a:Act} {w:World} {Q:Exit→Act→World→Prop} (hgd:op.guard=none) (ty:TypeId) (x:Operand) (ho:op.op=.load ty x)
  (ad:Addr) (hx:a.eval x=.pointer (some ad)) (cs:List Value) (d:TypeDesc) (hc:∀ (j:Nat) (v:Value),cs[j]?=some v→w.cell? (ad.add j)=some v)
  (hu:P.underlying ty=some d) (hd:d.isRow=true) (hi:(P.info? ty).map (·.size)=some cs.length)
  (h:wpList P ops Q rest (a.put op.dst (.agg cs.toArray)) w):wpList P ops Q (op :: rest) a w:=by
 refine wpList_plain hgd fun K hK=>?_
 unfold Oper.wp execOp
 simp only [ho,hx,Instr.loadAt,Instr.sureAddr,Sem.run_bind,Sem.run_pure,Result.andThen_ok,run_loadVar_at w ad ty cs d hc hu hd hi]
 exact hK _ _ h
theorem setCell_new (w:World) (l:List Value) (t:TypeId) (i:Nat) (v:Value):(w.alloc (.cells l.toArray t)).setCell ⟨w.heap.size,i,none⟩ v=w.alloc (.cells (l.set i v).toArray t):=by
 unfold World.setCell World.alloc
 simp only
 congr 1
 apply Array.ext
 ·simp
 ·intro j h1 h2
  simp only [Array.getElem_modify,Array.getElem_push]
  by_cases hj:j<w.heap.size
  ·have hne:¬ w.heap.size=j:=by omega
   simp [hj,hne]
  ·have hje:w.heap.size=j:=by simp at h1;omega
   simp [hje]
theorem setCells_new (w:World) (t:TypeId) (cs:List Value):∀ (pre post:List Value),post.length=cs.length→(w.alloc (.cells (pre++post).toArray t)).setCells w.heap.size pre.length cs=w.alloc (.cells (pre++cs).toArray t):=by
 induction cs with
 | nil =>
  intro pre post h
  rw [List.eq_nil_of_length_eq_zero h]
  rfl
 | cons v cs ih =>
  intro pre post h
  cases post with
  | nil=>simp at h
  | cons p post =>
   show ((w.alloc _).setCell ⟨w.heap.size,pre.length,none⟩ v).setCells w.heap.size (pre.length+1) cs=_
   rw [setCell_new,show (pre++p :: post).set pre.length v=(pre++[v])++post by simp [List.set_append_right]]
   have:=ih (pre++[v]) post (by simpa using h)
   rw [List.length_append] at this
   rw [show pre.length+1=pre.length+[v].length from rfl,this]
   simp
theorem wpList_store_new {P:Program} {ops:Array Oper} {rest:List Oper} {op:Oper} {a:Act} {Q:Exit→Act→World→Prop} (w:World) (hgd:op.guard=none) (ty:TypeId) (x y:Operand) (ho:op.op=.store ty x y) (t:TypeId) (zs cs:List Value)
  (hx:a.eval x=.pointer (some ⟨w.heap.size,0,none⟩)) (hy:a.eval y=.agg cs.toArray) (hl:zs.length=cs.length) (hi:(P.info? ty).map (·.size)=some cs.length) (h1:∀ v∈cs,v.oneCell'=true)
  (h:wpList P ops Q rest (a.put op.dst undef) (w.alloc (.cells cs.toArray t))):wpList P ops Q (op :: rest) a (w.alloc (.cells zs.toArray t)):=by
 refine wpList_store_mid hgd ty x y ho w.heap.size 0 cs.toArray hx hy ?_ (by simpa using hi) (all_oneCell_toArray h1) ?_
 ·intro j hj
  have hj2:j<zs.toArray.size:=by simp at hj ⊢;omega
  have hb:=Blk.new w t zs.toArray
  rw [Nat.zero_add]
  exact ⟨by rw [hb.cell j];simp [hl];simpa using hj,hb.frozen j⟩
 ·have:=setCells_new w t cs [] zs hl
  simp only [List.nil_append,List.length_nil] at this
  rw [show cs.toArray.toList=cs from rfl,this]
  exact h
end Go.Proofs.YtcgclpcocdappaaDoor
