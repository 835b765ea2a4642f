/-
  Tenants: sizes hang on the content; what may be read below a bound may be read below a higher one. 'clear' of a piece of a row that is known whole. tree.New at the page's example; the law's alive; the walk of the law TreeKids. The law TreeCopies: a copy is the tenant, and shares nothing with it. tree.sameSnap, sameSet, sameRecord, sameStage, Same at one content: they answer true. shape.With: a tenant with a set more.
-/
import Derived.WalkKit
import Derived.WalkSpells
import Derived.Below
import Derived.Laws.OwnMore
import Derived.Deep.AppendLies
import Derived.Deep.Draws
import Derived.Laws.Rows
import Derived.Maps.AppendAt
import Derived.RegionTactic
import Derived.OwnWalk
import Derived.Deep.QuietTactic
import Derived.BigQuiet
import Derived.Lib.Hide
import Derived.Laws.CopyOwn
import Derived.IntWalk
import Derived.Test.YtcgclpcocdappaaDoorRows
import Derived.Handy
import Derived.Deep.Quiet
import Derived.Orders
import Derived.Lib.SplitLaws
import Derived.Lib.LastIndexByte
import Derived.Lib.Strings
import Derived.ShutString
import Derived.Sort.Walk0
import Derived.Sort.KeysCollected
import Derived.Shelf.Strings.Search1
import Derived.Shelf.Strings.Search2
import Derived.Shelf.Strings.Search3
import Derived.Shelf.Strings.Cut
import Derived.Shelf.Strings.Count
import Derived.Shelf.LaysM
import Derived.Shelf.Strings.Shaped
import Derived.Shelf.Strings.LastIndex
import Derived.Shelf.Strings.Split
import Derived.Shelf.Strings.SplitShaped
import Derived.Shelf.Unicode.Decode
import Derived.Shelf.Strings.RuneCount
import Derived.Shelf.Strings.Explode
import Derived.Shelf.Unicode.DecodeSlow
import Derived.Shelf.Slices.Turned
import Derived.Test.YtcgclpcocdappaaDoorProg
import Derived.Laws.BytesString
import Derived.Laws.IdiomStrings
import Derived.Lib.ConvBytes
import Derived.Deep.MidRow
import Derived.Lib.Overlaps
import Derived.Lib.AppendZerosOnto
import Derived.Deep.RegionLaw
import Derived.ProofKit
import Derived.OpenShut
import Derived.ChangeOld
import Derived.Carry
import Derived.SizedLaws
import Derived.JoinedCond
import Derived.Deep.CondSized
import Derived.Deep.Slices
import Derived.Deep.Fields
import Derived.Lib.SmallJoins
import Derived.Deep.DeepCutAuto
import Derived.Great.BuildSlice
import Derived.Lib.AppendZeros
import Derived.Test.YtcgclpcocdappaaDoorP0
import Derived.Test.YtcgclpcocdappaaDoorPa1
import Derived.Test.YtcgclpcocdappaaDoorPa5
import Derived.Test.YtcgclpcocdappaaDoorPa7
import Derived.Test.YtcgclpcocdappaaDoorPa8
import Derived.Test.YtcgclpcocdappaaDoorPa10
import Derived.Test.YtcgclpcocdappaaDoorPa13
import Derived.Test.YtcgclpcocdappaaDoorPa17
import Derived.Test.YtcgclpcocdappaaDoorPa23
import Derived.Test.YtcgclpcocdappaaDoorPa24
import Derived.Test.YtcgclpcocdappaaDoorPa27
import Derived.Test.YtcgclpcocdappaaDoorPa30
import Derived.Test.YtcgclpcocdappaaDoorPa36
namespace Go.Proofs.YtcgclpcocdappaaDoor
open Go.RowKit
theorem blk7 {w:World} {g:Nat} {t:TypeId} {a0 a1 a2 a3 a4 a5 a6:Value} (h:Blk w g t #[a0,a1,a2,a3,a4,a5,a6]):w.cell? ⟨g,0,none⟩=some a0∧w.cell? ⟨g,1,none⟩=some a1∧w.cell? ⟨g,2,none⟩=some a2∧w.cell? ⟨g,3,none⟩=some a3∧w.cell? ⟨g,4,none⟩=some a4∧w.cell? ⟨g,5,none⟩=some a5∧w.cell? ⟨g,6,none⟩=some a6 :=
 ⟨h.cell 0,h.cell 1,h.cell 2,h.cell 3,h.cell 4,h.cell 5,h.cell 6⟩
theorem SnapR.eqv.size {x y:SnapR} {w w':World} {B B':Nat} (h:x.eqv y) (hx:x.rd w B) (hy:y.rd w' B') (hz:x.sz):y.sz :=
 h.sz hz (FS.len_eq hx.body.1 hy.body.1 h.body) (FS.len_eq hx.tags.1 hy.tags.1 h.tags) (FS.len_eq hx.own.1 hy.own.1 h.own)
theorem SetR.eqv.size {x y:SetR} {w w':World} {B B':Nat} (h:x.eqv y) (hx:x.rd w B) (hy:y.rd w' B') (hz:x.sz):y.sz:=by
 refine ⟨by rw [← h.path];exact hz.path,by rw [← h.org];exact hz.org,by rw [FS.len_eq hx.body.1 hy.body.1 h.body];exact hz.body,by rw [hy.snaps.1,← h.len,← hx.snaps.1];exact hz.snaps,fun z hm=>?_,by rw [FS.len_eq hx.own.1 hy.own.1 h.own];exact hz.own,by rw [← h.own];exact hz.props⟩
 obtain ⟨i,hi,rfl⟩:=List.getElem_of_mem hm
 have hi':i<x.snaps.l.length:=by rw [h.len];exact hi
 exact (h.each i hi' hi).size (hx.each _ (List.getElem_mem hi')) (hy.each _ hm) (hz.each _ (List.getElem_mem hi'))
theorem StageR.eqv.size {x y:StageR} {w w':World} {B B':Nat} (h:x.eqv y) (hx:x.rd w B) (hy:y.rd w' B') (hz:x.sz):y.sz :=
 ⟨by rw [← h.into];exact hz.into,by rw [← h.nm];exact hz.nm,by rw [← h.dt];exact hz.dt,by rw [FS.len_eq hx.own.1 hy.own.1 h.own];exact hz.own,by rw [← h.own];exact hz.props,by rw [FS.len_eq hx.body.1 hy.body.1 h.body];exact hz.body⟩
theorem TenR.eqv.size {x y:TenR} {w w':World} {B B':Nat} (h:x.eqv y) (hx:x.rd w B) (hy:y.rd w' B') (hz:x.sz):y.sz:=by
 refine ⟨by rw [← h.nm];exact hz.nm,by rw [hy.sets.1,← h.lenS,← hx.sets.1];exact hz.sets,fun z hm=>?_,by rw [FS.len_eq hx.grants.1 hy.grants.1 h.grants];exact hz.grants,by rw [← h.grants];exact hz.eachG,by rw [hy.stages.1,← h.lenT,← hx.stages.1];exact hz.stages,fun z hm=>?_,by rw [FS.len_eq hx.log.1 hy.log.1 h.log];exact hz.log,by rw [← h.log];exact hz.eachL⟩
 ·obtain ⟨i,hi,rfl⟩:=List.getElem_of_mem hm
  have hi':i<x.sets.l.length:=by rw [h.lenS];exact hi
  exact (h.eachS i hi' hi).size (hx.eachS _ (List.getElem_mem hi')) (hy.eachS _ hm) (hz.eachS _ (List.getElem_mem hi'))
 ·obtain ⟨i,hi,rfl⟩:=List.getElem_of_mem hm
  have hi':i<x.stages.l.length:=by rw [h.lenT];exact hi
  exact (h.eachT i hi' hi).size (hx.eachG _ (List.getElem_mem hi')) (hy.eachG _ hm) (hz.eachT _ (List.getElem_mem hi'))
theorem SnapR.rd.more {x:SnapR} {w:World} {B B':Nat} (h:x.rd w B) (hb:B≤B'):x.rd w B':=⟨h.body.more hb,h.tags.more hb,h.own.more hb⟩
theorem SetR.rd.more {x:SetR} {w:World} {B B':Nat} (h:x.rd w B) (hb:B≤B'):x.rd w B':=⟨h.body.more hb,h.snaps.more hb,fun y hy=>(h.each y hy).more hb,h.own.more hb⟩
theorem TenR.rd.more {x:TenR} {w:World} {B B':Nat} (h:x.rd w B) (hb:B≤B'):x.rd w B':=⟨h.sets.more hb,fun y hy=>(h.eachS y hy).more hb,h.grants.more hb,h.stages.more hb,fun y hy=>⟨(h.eachG y hy).own.more hb,(h.eachG y hy).body.more hb⟩,h.log.more hb⟩
end Go.Proofs.YtcgclpcocdappaaDoor
namespace Go.Proofs.YtcgclpcocdappaaDoor
open Go.RowKit
section
variable {P:Program}
theorem run_clear_rowK (w:World) (t ty e:TypeId) (z:Value) (ht:P.underlying t=some (.slice e)) (hv:∀ w,(zeroValue e).run P w=.ok z w) (h1:∀ u∈z.cells.toList,u.oneCell'=true)
  (g o n c:Nat) (cur:List Value) (T:TypeId) (hg:w.heap[g]?=some (.cells cur.toArray T (0,0))) (hn:0<n) (hfit:o+n*z.cells.size≤cur.length) :
  (Builtin.clear_ #[t] ty #[.slice (some ⟨g,o,none⟩) n c]).run P w=.ok (.tuple #[]) (w.setRow g (splice cur o (Builtin.zeroCells z.cells n).toList).toArray):=by
 have hzl:(Builtin.zeroCells z.cells n).toList.length=n*z.cells.size:=by simp [Builtin.zeroCells]
 have hz1:∀ u∈(Builtin.zeroCells z.cells n).toList,u.oneCell'=true:=by
  intro u hu
  simp only [Builtin.zeroCells,Array.toList_map,Array.toList_range,List.mem_map,List.mem_range] at hu
  obtain ⟨i,hi,rfl⟩:=hu
  have hk:0<z.cells.size:=by
   rcases Nat.eq_zero_or_pos z.cells.size with h | h
   ·rw [h] at hi;omega
   ·exact h
  have hm:=Nat.mod_lt i hk
  rw [getElem!_pos z.cells _ hm]
  exact h1 _ (by simp)
 have hst:=run_storeCells_at P g o T (Builtin.zeroCells z.cells n).toList 0 cur.toArray w hg (by rw [hzl];simpa using hfit) hz1
 obtain ⟨m,rfl⟩:∃ m,n=m+1:=⟨n-1,by omega⟩
 simp [Builtin.clear_,run_underlying ht,hv,hst,splice]
theorem wp_clearK {o:Oper} {a:Act} {w:World} {K:Act→World→Prop} {Q:Exit→Act→World→Prop} (d:Operand) (t:TypeId)
  (ho:o.op=.call { callee:=.builtin .clear,args:=#[d],argTypes:=#[t] }) (e:TypeId) (z:Value) (ht:P.underlying t=some (.slice e)) (hv:∀ w,(zeroValue e).run P w=.ok z w) (h1:∀ u∈z.cells.toList,u.oneCell'=true)
  (g off n c:Nat) (hd:a.eval d=.slice (some ⟨g,off,none⟩) n c) (cur:List Value) (T:TypeId) (hg:w.heap[g]?=some (.cells cur.toArray T (0,0))) (hfit:off+n*z.cells.size≤cur.length)
  (h:∀ w' zs,zs.length=n*z.cells.size→Hid (w'.heap[g]?=some (.cells (splice cur off zs).toArray T (0,0)))→w.grownBy w' (some g)→K (a.put o.dst (.tuple #[])) w'):o.wp P a w K Q:=by
 rcases Nat.eq_zero_or_pos n with h0 | h0
 ·subst h0
  have hrun:(Builtin.clear_ #[t] o.type #[.slice (some ⟨g,off,none⟩) 0 c]).run P w=.ok (.tuple #[]) w:=by simp [Builtin.clear_,run_underlying ht]
  unfold Oper.wp
  simp [execOp,ho,resolve,invoke,builtin,hd,hrun,Result.andThen]
  exact h w [] (by simp) (show _=_ by simpa [splice] using hg) (World.grownBy.refl _ _)
 ·have hrun:=run_clear_rowK (P:=P) w t o.type e z ht hv h1 g off n c cur T hg h0 hfit
  unfold Oper.wp
  simp [execOp,ho,resolve,invoke,builtin,hd,hrun,Result.andThen]
  exact h _ _ (by simp [Builtin.zeroCells]) (show _=_ from setRow_heap w g _ _ T _ hg) (grown_setRow _)
theorem wpList_clearK {w:World} {ops:Array Oper} {rest:List Oper} {o:Oper} {a:Act} {Q:Exit→Act→World→Prop} (hgd:o.guard=none) (d:Operand) (t:TypeId)
  (ho:o.op=.call { callee:=.builtin .clear,args:=#[d],argTypes:=#[t] }) (e:TypeId) (z:Value) (ht:P.underlying t=some (.slice e)) (hv:∀ w,(zeroValue e).run P w=.ok z w) (h1:∀ u∈z.cells.toList,u.oneCell'=true)
  (g off n c:Nat) (hd:a.eval d=.slice (some ⟨g,off,none⟩) n c) (cur:List Value) (T:TypeId) (hg:w.heap[g]?=some (.cells cur.toArray T (0,0))) (hfit:off+n*z.cells.size≤cur.length)
  (h:∀ w' zs,zs.length=n*z.cells.size→Hid (w'.heap[g]?=some (.cells (splice cur off zs).toArray T (0,0)))→w.grownBy w' (some g)→wpList P ops Q rest (a.put o.dst (.tuple #[])) w'):wpList P ops Q (o :: rest) a w :=
 wpList_plain hgd fun _ hK=>wp_clearK d t ho e z ht hv h1 g off n c hd cur T hg hfit (fun w' zs h0 h1 h2=>hK _ _ (h w' zs h0 h1 h2))
end
end Go.Proofs.YtcgclpcocdappaaDoor
namespace Go.Proofs.YtcgclpcocdappaaDoor
open Go.RowKit
def set0:SetR:=⟨[],[],⟨none,0,0,[]⟩,⟨none,0,0,[]⟩,⟨none,0,0,[]⟩⟩
def ten0 (g:Nat):TenR:=⟨[97],5,1,⟨some ⟨g,0,none⟩,1,1,[set0]⟩,⟨none,0,0,[]⟩,⟨none,0,0,[]⟩,⟨none,0,0,[]⟩⟩
theorem ten0_ok (g:Nat):tenE (ten0 g)=0:=by
 show (if tenB (ten0 g)=true then (0:Int) else 9)=0
 rw [if_pos]
 show tenB (ten0 0)=true
 decide +kernel
theorem ten0_sz (g:Nat):(ten0 g).sz where
 nm:=by show (1:Nat)≤4000000000;decide
 sets:=by show (1:Nat)≤1000000000000;decide
 eachS:=by
  intro y hy
  rw [show (ten0 g).sets.l=[set0] from rfl,List.mem_singleton] at hy
  subst hy
  exact ⟨by decide,by decide,by decide,by decide,(fun y hy=>by cases hy),by decide,(fun y hy=>by cases hy)⟩
 grants:=by show (0:Nat)≤1000000000000;decide
 eachG:=fun y hy=>by cases hy
 stages:=by show (0:Nat)≤1000000000000;decide
 eachT:=fun y hy=>by cases hy
 log:=by show (0:Nat)≤1000000000000;decide
 eachL:=fun y hy=>by cases hy
theorem ten0_rd (g:Nat) (w:World) (B:Nat) (h:Reads w B 5 (some ⟨g,0,none⟩) 1 (cellsK encSet [set0])):(ten0 g).rd w B where
 sets:=⟨rfl,Nat.le_refl _,h⟩
 eachS:=by
  intro y hy
  rw [show (ten0 g).sets.l=[set0] from rfl,List.mem_singleton] at hy
  subst hy
  exact ⟨⟨rfl,by decide,Reads.none_⟩,⟨rfl,by decide,Reads.none_⟩,(fun y hy=>by cases hy),⟨rfl,by decide,Reads.none_⟩⟩
 grants:=⟨rfl,Nat.le_refl _,Reads.none_⟩
 stages:=⟨rfl,Nat.le_refl _,Reads.none_⟩
 eachG:=fun y hy=>by cases hy
 log:=⟨rfl,Nat.le_refl _,Reads.none_⟩
def NewPost (w:World) (e:Ending) (w':World):Prop:=∃ g,e=.returned (.tuple #[(ten0 g).val,.int .i64 0])∧g<w'.heap.size∧Reads w' w'.heap.size 5 (some ⟨g,0,none⟩) 1 (cellsK encSet [set0])∧Below w.heap.size w w'
def LivePost (w:World) (e:Ending) (w':World):Prop:=e=.returned (.bool true)∧Below w.heap.size w w'
end Go.Proofs.YtcgclpcocdappaaDoor
namespace Go.Proofs.YtcgclpcocdappaaDoor
open Go.RowKit
/-- the spoiling of a tenant that lies in memory of its own -/
theorem spoil_any (t:TenR) (w0 w:World) (lo:Nat) (ho:TenO w0 lo t) (hb:Below w0.heap.size w0 w) (hlo:lo≤w0.heap.size) (hs:t.sets.n≤5000000000000) :
  Calls Tryd.prog 8 #[t.val] w fun e w'=>e=.returned (.tuple #[])∧OnlyIn lo w0.heap.size w w':=by
 have h1:=(ho.sets.setsw ho.eachS).below hb
 have h2:=ho.grants.rowx.below hb
 have h3:=ho.stages.rowx.below hb
 have h4:=ho.log.rowx.below hb
 obtain ⟨nm,qu,nx,⟨s1,sn,s3,sl⟩,⟨g1,gn,g3,gl⟩,⟨t1,tn,t3,tl⟩,⟨l1,ln,l3,ll⟩⟩:=t
 exact spoilT_any nm qu nx s1 sn s3 g1 gn g3 t1 tn t3 l1 ln l3 w lo w0.heap.size hb.size (Nat.le_trans hlo hb.size) hs h1 h2 h3 h4
theorem own14_any (t:TenR) (w:World) (B:Nat) (hB:B≤w.heap.size) (hr:t.rd w B) (hz:t.sz) (hst:t.stages.n≤500000000000) :
  Calls Tryd.prog 5 #[t.val] w fun e w'=>∃ y:TenR,e=.returned y.val∧TenO w' w.heap.size y∧t.eqv y∧Below w.heap.size w w':=by
 obtain ⟨nm,qu,nx,⟨s1,sn,s3,sl⟩,⟨g1,gn,g3,gl⟩,⟨t1,tn,t3,tl⟩,⟨l1,ln,l3,ll⟩⟩:=t
 exact own14T_any nm qu nx s1 sn s3 sl g1 gn g3 gl t1 tn t3 tl l1 ln l3 ll w B hB hr hz hst
end Go.Proofs.YtcgclpcocdappaaDoor
namespace Go.Proofs.YtcgclpcocdappaaDoor
open Go.RowKit
theorem rdS {x:SnapR} {w w':World} {B:Nat} (h:x.rd w B) (hb:Below B w w'):x.rd w' B:=⟨h.body.below hb,h.tags.below hb,h.own.below hb⟩
theorem rdT {x:SetR} {w w':World} {B:Nat} (h:x.rd w B) (hb:Below B w w'):x.rd w' B:=⟨h.body.below hb,h.snaps.below hb,fun y hy=>rdS (h.each y hy) hb,h.own.below hb⟩
theorem rdG {x:StageR} {w w':World} {B:Nat} (h:x.rd w B) (hb:Below B w w'):x.rd w' B:=⟨h.own.below hb,h.body.below hb⟩
end Go.Proofs.YtcgclpcocdappaaDoor
namespace Go.Proofs.YtcgclpcocdappaaDoor
open Go.RowKit
theorem encSet_one (x:SetR):∀ u∈encSet x,u.oneCell'=true:=by intro u hu;simp [encSet,strV,FS.val] at hu;rcases hu with rfl | rfl | rfl | rfl | rfl <;> rfl
end Go.Proofs.YtcgclpcocdappaaDoor
