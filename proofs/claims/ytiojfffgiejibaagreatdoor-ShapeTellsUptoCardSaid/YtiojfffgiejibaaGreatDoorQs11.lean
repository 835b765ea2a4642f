/-
  A wide struct: loaded, and stored into a block that has just been made, all its cells at once. tree.begin, tree.stages: by their contracts.
-/
import Derived.Test.YtiojfffgiejibaaGreatDoorQsM1
import Derived.Deep.MidRow
import Derived.WalkKit
import Derived.WalkSpells
import Derived.Below
import Derived.Laws.OwnMore
import Derived.Deep.AppendLies
import Derived.Deep.Draws
import Derived.Laws.Rows
import Derived.Maps.AppendAt
import Derived.RegionTactic
import Derived.OwnWalk
import Derived.Deep.QuietTactic
import Derived.BigQuiet
import Derived.Lib.Hide
import Derived.Laws.CopyOwn
import Derived.IntWalk
import Derived.Test.YtiojfffgiejibaaGreatDoorRows
import Derived.Handy
import Derived.Deep.Quiet
import Derived.Orders
import Derived.Lib.SplitLaws
import Derived.Lib.LastIndexByte
import Derived.Lib.Strings
import Derived.ShutString
import Derived.Sort.Walk0
import Derived.Sort.KeysCollected
import Derived.Shelf.Strings.Search1
import Derived.Shelf.Strings.Search2
import Derived.Shelf.Strings.Search3
import Derived.Shelf.Strings.Cut
import Derived.Shelf.Strings.Count
import Derived.Shelf.LaysM
import Derived.Shelf.Strings.Shaped
import Derived.Shelf.Strings.LastIndex
import Derived.Shelf.Strings.Split
import Derived.Shelf.Strings.SplitShaped
import Derived.Shelf.Unicode.Decode
import Derived.Shelf.Strings.RuneCount
import Derived.Shelf.Strings.Explode
import Derived.Shelf.Unicode.DecodeSlow
import Derived.Shelf.Slices.Turned
import Derived.Test.YtiojfffgiejibaaGreatDoorProg
import Derived.Laws.BytesString
import Derived.Laws.IdiomStrings
import Derived.Lib.ConvBytes
import Derived.Test.YtiojfffgiejibaaGreatDoorQ0
import Derived.Test.YtiojfffgiejibaaGreatDoorQs1
import Derived.Test.YtiojfffgiejibaaGreatDoorQs2
import Derived.Test.YtiojfffgiejibaaGreatDoorQs3
import Derived.Test.YtiojfffgiejibaaGreatDoorQs4
import Derived.Test.YtiojfffgiejibaaGreatDoorQs5
import Derived.Test.YtiojfffgiejibaaGreatDoorQs6
import Derived.Test.YtiojfffgiejibaaGreatDoorQs7
import Derived.Test.YtiojfffgiejibaaGreatDoorQs9
import Derived.Test.YtiojfffgiejibaaGreatDoorQs10
namespace Go.Proofs.YtiojfffgiejibaaGreatDoor
open Go.RowKit
theorem run_loadVar_at {P:Program} (w:World) (a:Addr) (ty:TypeId) (cs:List Value) (d:TypeDesc) (hc:∀ (j:Nat) (v:Value),cs[j]?=some v→w.cell? (a.add j)=some v)
  (hu:P.underlying ty=some d) (hd:d.isRow=true) (hi:(P.info? ty).map (·.size)=some cs.length):(loadVar ty a).run P w=.ok (.agg cs.toArray) w:=by
 have hl:(loadCells a cs.length).run P w=.ok cs.toArray w:=run_loadCells_list (P:=P) w a cs hc
 cases hq:P.info? ty with
 | none=>simp [hq] at hi
 | some i =>
  have hs:i.size=cs.length:=by simpa [hq] using hi
  have hagg:(isAgg ty).run P w=.ok true w:=by
   unfold isAgg
   rw [Sem.run_bind,run_underlying hu w]
   cases d <;> simp_all
  simp [loadVar,Sem.run_bind,hagg,sizeOf,typeInfo,hq,hs,hl]
theorem wpList_load_at {P:Program} {ops:Array Oper} {rest:List Oper} {op:Oper} {a:Act} {w:World} {Q:Exit→Act→World→Prop} (hgd:op.guard=none) (ty:TypeId) (x:Operand) (ho:op.op=.load ty x)
  (ad:Addr) (hx:a.eval x=.pointer (some ad)) (cs:List Value) (d:TypeDesc) (hc:∀ (j:Nat) (v:Value),cs[j]?=some v→w.cell? (ad.add j)=some v)
  (hu:P.underlying ty=some d) (hd:d.isRow=true) (hi:(P.info? ty).map (·.size)=some cs.length)
  (h:wpList P ops Q rest (a.put op.dst (.agg cs.toArray)) w):wpList P ops Q (op :: rest) a w:=by
 refine wpList_plain hgd fun K hK=>?_
 unfold Oper.wp execOp
 simp only [ho,hx,Instr.loadAt,Instr.sureAddr,Sem.run_bind,Sem.run_pure,Result.andThen_ok,run_loadVar_at w ad ty cs d hc hu hd hi]
 exact hK _ _ h
theorem setCell_new (w:World) (l:List Value) (t:TypeId) (i:Nat) (v:Value):(w.alloc (.cells l.toArray t)).setCell ⟨w.heap.size,i,none⟩ v=w.alloc (.cells (l.set i v).toArray t):=by
 unfold World.setCell World.alloc
 simp only
 congr 1
 apply Array.ext
 ·simp
 ·intro j h1 h2
  simp only [Array.getElem_modify,Array.getElem_push]
  by_cases hj:j<w.heap.size
  ·have hne:¬ w.heap.size=j:=tZ1
   simp [hj,hne]
  ·have hje:w.heap.size=j:=by simp at h1;omega
   simp [hje]
theorem setCells_new (w:World) (t:TypeId) (cs:List Value):∀ (pre post:List Value),post.length=cs.length→(w.alloc (.cells (pre++post).toArray t)).setCells w.heap.size pre.length cs=w.alloc (.cells (pre++cs).toArray t):=by
 induction cs with
 | nil =>
  intro pre post h
  rw [List.eq_nil_of_length_eq_zero h]
  rfl
 | cons v cs ih =>
  intro pre post h
  cases post with
  | nil=>simp at h
  | cons p post =>
   show ((w.alloc _).setCell ⟨w.heap.size,pre.length,none⟩ v).setCells w.heap.size (pre.length+1) cs=_
   rw [setCell_new,show (pre++p :: post).set pre.length v=(pre++[v])++post by simp [List.set_append_right]]
   have:=ih (pre++[v]) post tZ50
   rw [List.length_append] at this
   rw [show pre.length+1=pre.length+[v].length from rfl,this]
   simp
theorem wpList_store_new {P:Program} {ops:Array Oper} {rest:List Oper} {op:Oper} {a:Act} {Q:Exit→Act→World→Prop} (w:World) (hgd:op.guard=none) (ty:TypeId) (x y:Operand) (ho:op.op=.store ty x y) (t:TypeId) (zs cs:List Value)
  (hx:a.eval x=.pointer (some ⟨w.heap.size,0,none⟩)) (hy:a.eval y=.agg cs.toArray) (hl:zs.length=cs.length) (hi:(P.info? ty).map (·.size)=some cs.length) (h1:∀ v∈cs,v.oneCell'=true)
  (h:wpList P ops Q rest (a.put op.dst undef) (w.alloc (.cells cs.toArray t))):wpList P ops Q (op :: rest) a (w.alloc (.cells zs.toArray t)):=by
 refine wpList_store_mid hgd ty x y ho w.heap.size 0 cs.toArray hx hy ?_ (by simpa using hi) (all_oneCell_toArray h1) ?_
 ·intro j hj
  have hj2:j<zs.toArray.size:=by simp at hj ⊢;omega
  have hb:=Blk.new w t zs.toArray
  rw [Nat.zero_add]
  exact ⟨by rw [hb.cell j];simp [hl];simpa using hj,hb.frozen j⟩
 ·have:=setCells_new w t cs [] zs hl
  simp only [List.nil_append,List.length_nil] at this
  rw [show cs.toArray.toList=cs from rfl,this]
  exact h
end Go.Proofs.YtiojfffgiejibaaGreatDoor
namespace Go.Proofs.YtiojfffgiejibaaGreatDoor
open Go.RowKit
def beginP (kind:Int) (nm:BS) (frm gd:Int) (own:List (BS×BS)) (ix ct:Int) (dt:BS) (sm:Sm):Bool:=decide (kind=1) && nameB nm && amt frm 0 && amt gd 1 && propsB own && decide (ix=0) && decide (ct=0) && decide (dt=[]) && smZ sm
theorem amountB_any (n k:Int) (w:World):Calls Tryz.prog 105 #[.int .i64 n,.int .i64 k] w fun e w'=>e=.returned (.bool (amt n k))∧Below w.heap.size w w':=by
 refine (amount_any n k w).mono ?_
 exact mZ46
set_option maxRecDepth 100000 in
set_option maxHeartbeats 4000000 in
theorem begin_any (kind:Int) (nm:BS) (frm gd:Int) (ol:List (BS×BS)) (n:Nat) (hnl:n=ol.length) (A:Option Addr) (c:Nat) (ix ct:Int) (dt:BS) (sa sb sc sd:Int) (w:World) (B:Nat) (hr:Reads w B 2 A n (pcells ol)) (hB:B≤w.heap.size) (hn:n≤1000000000000) (hp:∀ p∈ol,p.1.length≤4000000000∧p.2.length≤4000000000) :
  Calls Tryz.prog 149 #[.agg #[.int .i64 kind,.string ⟨nm.toArray⟩,.int .i64 frm,.int .i64 gd,.slice A n c,.int .i64 ix,.int .i64 ct,.string ⟨dt.toArray⟩,.int .u64 sa,.int .u64 sb,.int .u64 sc,.int .u64 sd]] w fun e w'=>e=.returned (.bool (beginP kind nm frm gd ol ix ct dt ⟨sa,sb,sc,sd⟩))∧Below w.heap.size w w':=by
 have hb1:=(Below.refl w.heap.size w).alloc (Nat.le_refl _) (.cells #[.int .i64 kind,.string ⟨nm.toArray⟩,.int .i64 frm,.int .i64 gd,.slice A n c,.int .i64 ix,.int .i64 ct,.string ⟨dt.toArray⟩,.int .u64 sa,.int .u64 sb,.int .u64 sc,.int .u64 sd] 75)
 have kT:=Blk.new w 75 #[.int .i64 kind,.string ⟨nm.toArray⟩,.int .i64 frm,.int .i64 gd,.slice A n c,.int .i64 ix,.int .i64 ct,.string ⟨dt.toArray⟩,.int .u64 sa,.int .u64 sb,.int .u64 sc,.int .u64 sd]
 obtain ⟨W1,hW1⟩:∃ W,W=w.alloc (.cells #[.int .i64 kind,.string ⟨nm.toArray⟩,.int .i64 frm,.int .i64 gd,.slice A n c,.int .i64 ix,.int .i64 ct,.string ⟨dt.toArray⟩,.int .u64 sa,.int .u64 sb,.int .u64 sc,.int .u64 sd] 75):=⟨_,rfl⟩
 have hsz1:W1.heap.size=w.heap.size+1:=tZ32
 rw [← hW1] at hb1 kT
 have hT:=Lib.hid (fun (W':World) (hB':Below W1.heap.size W1 W')=>(⟨(kT.below hB' tZ1).cell 0,(kT.below hB' tZ1).cell 1,(kT.below hB' tZ1).cell 2,(kT.below hB' tZ1).cell 3,(kT.below hB' tZ1).cell 4,(kT.below hB' tZ1).cell 5,(kT.below hB' tZ1).cell 6,(kT.below hB' tZ1).cell 7,(kT.below hB' tZ1).cell 8,(kT.below hB' tZ1).cell 9,(kT.below hB' tZ1).cell 10,(kT.below hB' tZ1).cell 11⟩:W'.cell? ⟨w.heap.size,0,none⟩=some (.int .i64 kind)∧W'.cell? ⟨w.heap.size,1,none⟩=some (.string ⟨nm.toArray⟩)∧W'.cell? ⟨w.heap.size,2,none⟩=some (.int .i64 frm)∧W'.cell? ⟨w.heap.size,3,none⟩=some (.int .i64 gd)∧W'.cell? ⟨w.heap.size,4,none⟩=some (.slice A n c)∧W'.cell? ⟨w.heap.size,5,none⟩=some (.int .i64 ix)∧W'.cell? ⟨w.heap.size,6,none⟩=some (.int .i64 ct)∧W'.cell? ⟨w.heap.size,7,none⟩=some (.string ⟨dt.toArray⟩)∧W'.cell? ⟨w.heap.size,8,none⟩=some (.int .u64 sa)∧W'.cell? ⟨w.heap.size,9,none⟩=some (.int .u64 sb)∧W'.cell? ⟨w.heap.size,10,none⟩=some (.int .u64 sc)∧W'.cell? ⟨w.heap.size,11,none⟩=some (.int .u64 sd)))
 have hrw:∀ W',Below W1.heap.size W1 W'→Reads W' B 2 A n (pcells ol):=fun W' hb=>hr.below ((hb1.trans (hb.mono tZ1)).mono hB)
 have hN:Hid (∀ W,Below W1.heap.size W1 W→Calls Tryz.prog 77 #[.string ⟨nm.toArray⟩] W fun e W'=>e=.returned (.bool (nameB nm))∧Below W.heap.size W W'):=fun W _=>name_any ⟨nm.toArray⟩ W
 have hA0:Hid (∀ W,Below W1.heap.size W1 W→Calls Tryz.prog 105 #[.int .i64 frm,.int .i64 0] W fun e W'=>e=.returned (.bool (amt frm 0))∧Below W.heap.size W W'):=fun W _=>amountB_any frm 0 W
 have hA1:Hid (∀ W,Below W1.heap.size W1 W→Calls Tryz.prog 105 #[.int .i64 gd,.int .i64 1] W fun e W'=>e=.returned (.bool (amt gd 1))∧Below W.heap.size W W'):=fun W _=>amountB_any gd 1 W
 have hPr:Hid (∀ W,Below W1.heap.size W1 W→Calls Tryz.prog 144 #[.slice A n c] W fun e W'=>e=.returned (.int .i64 (if propsB ol=true then 0 else 9))∧Below W.heap.size W W'):=fun W hb=>checkP_any ol n hnl A c W B (hrw W hb) tZ20 tZ1 (fun p hp'=>by have:=hp p hp';omega)
 have HV:Hid (beginP kind nm frm gd ol ix ct dt ⟨sa,sb,sc,sd⟩=(decide (kind=1) && (nameB nm && (amt frm 0 && (amt gd 1 && (propsB ol && (decide (ix=0) && (decide (ct=0) && (decide (dt=[]) && decide (sa=0∧sb=0∧sc=0∧sd=0)))))))))):=by
  show _=_
  unfold beginP smZ
  simp only [Bool.and_assoc]
 obtain ⟨V,hV⟩:∃ V,V=beginP kind nm frm gd ol ix ct dt ⟨sa,sb,sc,sd⟩:=⟨_,rfl⟩
 obtain ⟨bN,hbN⟩:∃ V,V=nameB nm:=⟨_,rfl⟩
 obtain ⟨bA,hbA⟩:∃ V,V=amt frm 0:=⟨_,rfl⟩
 obtain ⟨bG,hbG⟩:∃ V,V=amt gd 1:=⟨_,rfl⟩
 obtain ⟨bP,hbP⟩:∃ V,V=propsB ol:=⟨_,rfl⟩
 rw [← hV] at HV ⊢
 rw [← hbN] at HV hN
 rw [← hbA] at HV hA0
 rw [← hbG] at HV hA1
 rw [← hbP] at HV hPr
 have HB1:=Lib.hid hb1
 have HSZ1:=Lib.hid hsz1
 clear hV hbN hbA hbG hbP hr hrw hnl hb1 hsz1 kT hp
 have hW0:=Below.refl W1.heap.size W1
 by_cases hk:kind=1
 ·subst hk
  go_enter Tryz.func149,Tryz.ntmps149
  exact mZ58
 ·have hkb:(kind == 1)=false:=by simpa using hk
  have HB:Hid (V=false):=tZ96
  go_enter Tryz.func149,Tryz.ntmps149
  exact mZ47
theorem Reads.el21 {α:Type} {f0 f1 f2 f3 f4 f5 f6 f7 f8 f9 f10 f11 f12 f13 f14 f15 f16 f17 f18 f19 f20:α→Value} {w:World} {B n:Nat} {A:Option Addr} {l:List α} (h:Reads w B 21 A n (cellsK (fun x=>[f0 x,f1 x,f2 x,f3 x,f4 x,f5 x,f6 x,f7 x,f8 x,f9 x,f10 x,f11 x,f12 x,f13 x,f14 x,f15 x,f16 x,f17 x,f18 x,f19 x,f20 x]) l)) (hn:n=l.length) {i:Nat} (hi:i<n) :
  ∃ ad,A=some ad∧ad.block<B∧w.cell? (ad.add (i*21))=some (f0 (l[i]'tZ1))∧w.cell? ⟨(ad.add (i*21)).block,(ad.add (i*21)).off+1,none⟩=some (f1 (l[i]'tZ1))∧w.cell? ⟨(ad.add (i*21)).block,(ad.add (i*21)).off+2,none⟩=some (f2 (l[i]'tZ1))∧w.cell? ⟨(ad.add (i*21)).block,(ad.add (i*21)).off+3,none⟩=some (f3 (l[i]'tZ1))∧w.cell? ⟨(ad.add (i*21)).block,(ad.add (i*21)).off+4,none⟩=some (f4 (l[i]'tZ1))∧w.cell? ⟨(ad.add (i*21)).block,(ad.add (i*21)).off+5,none⟩=some (f5 (l[i]'tZ1))∧w.cell? ⟨(ad.add (i*21)).block,(ad.add (i*21)).off+6,none⟩=some (f6 (l[i]'tZ1))∧w.cell? ⟨(ad.add (i*21)).block,(ad.add (i*21)).off+7,none⟩=some (f7 (l[i]'tZ1))∧w.cell? ⟨(ad.add (i*21)).block,(ad.add (i*21)).off+8,none⟩=some (f8 (l[i]'tZ1))∧w.cell? ⟨(ad.add (i*21)).block,(ad.add (i*21)).off+9,none⟩=some (f9 (l[i]'tZ1))∧w.cell? ⟨(ad.add (i*21)).block,(ad.add (i*21)).off+10,none⟩=some (f10 (l[i]'tZ1))∧w.cell? ⟨(ad.add (i*21)).block,(ad.add (i*21)).off+11,none⟩=some (f11 (l[i]'tZ1))∧w.cell? ⟨(ad.add (i*21)).block,(ad.add (i*21)).off+12,none⟩=some (f12 (l[i]'tZ1))∧w.cell? ⟨(ad.add (i*21)).block,(ad.add (i*21)).off+13,none⟩=some (f13 (l[i]'tZ1))∧w.cell? ⟨(ad.add (i*21)).block,(ad.add (i*21)).off+14,none⟩=some (f14 (l[i]'tZ1))∧w.cell? ⟨(ad.add (i*21)).block,(ad.add (i*21)).off+15,none⟩=some (f15 (l[i]'tZ1))∧w.cell? ⟨(ad.add (i*21)).block,(ad.add (i*21)).off+16,none⟩=some (f16 (l[i]'tZ1))∧w.cell? ⟨(ad.add (i*21)).block,(ad.add (i*21)).off+17,none⟩=some (f17 (l[i]'tZ1))∧w.cell? ⟨(ad.add (i*21)).block,(ad.add (i*21)).off+18,none⟩=some (f18 (l[i]'tZ1))∧w.cell? ⟨(ad.add (i*21)).block,(ad.add (i*21)).off+19,none⟩=some (f19 (l[i]'tZ1))∧w.cell? ⟨(ad.add (i*21)).block,(ad.add (i*21)).off+20,none⟩=some (f20 (l[i]'tZ1)):=by
 obtain ⟨ad,e,hb,hc⟩:=Reads.elK (k:=21) (fun _=>rfl) h hn hi
 refine ⟨ad,e,hb,?_,?_,?_,?_,?_,?_,?_,?_,?_,?_,?_,?_,?_,?_,?_,?_,?_,?_,?_,?_,?_⟩
 ·exact mZ28
 ·exact mZ27
 ·exact mZ26
 ·exact mZ30
 ·have:=hc 4 tZ1;rwa [addr_add_succ] at this
 ·have:=hc 5 tZ1;rwa [addr_add_succ] at this
 ·have:=hc 6 tZ1;rwa [addr_add_succ] at this
 ·have:=hc 7 tZ1;rwa [addr_add_succ] at this
 ·have:=hc 8 tZ1;rwa [addr_add_succ] at this
 ·have:=hc 9 tZ1;rwa [addr_add_succ] at this
 ·have:=hc 10 tZ1;rwa [addr_add_succ] at this
 ·have:=hc 11 tZ1;rwa [addr_add_succ] at this
 ·have:=hc 12 tZ1;rwa [addr_add_succ] at this
 ·have:=hc 13 tZ1;rwa [addr_add_succ] at this
 ·have:=hc 14 tZ1;rwa [addr_add_succ] at this
 ·have:=hc 15 tZ1;rwa [addr_add_succ] at this
 ·have:=hc 16 tZ1;rwa [addr_add_succ] at this
 ·have:=hc 17 tZ1;rwa [addr_add_succ] at this
 ·have:=hc 18 tZ1;rwa [addr_add_succ] at this
 ·have:=hc 19 tZ1;rwa [addr_add_succ] at this
 ·have:=hc 20 tZ1;rwa [addr_add_succ] at this
theorem stage_at {w:World} {B n:Nat} {A:Option Addr} {l:List StageR} (h:Reads w B 21 A n (cellsK encStage l)) (hn:n=l.length) {i:Nat} (hi:i<n) :
  ∃ ad,A=some ad∧ad.block<B∧w.cell? (ad.add (i*21))=some (.string ⟨(l[i]'tZ1).into.toArray⟩)∧w.cell? ⟨(ad.add (i*21)).block,(ad.add (i*21)).off+1,none⟩=some (.int .i64 (l[i]'tZ1).kind)∧w.cell? ⟨(ad.add (i*21)).block,(ad.add (i*21)).off+2,none⟩=some (.string ⟨(l[i]'tZ1).nm.toArray⟩)∧w.cell? ⟨(ad.add (i*21)).block,(ad.add (i*21)).off+3,none⟩=some (.int .i64 (l[i]'tZ1).frm)∧w.cell? ⟨(ad.add (i*21)).block,(ad.add (i*21)).off+4,none⟩=some (.int .i64 (l[i]'tZ1).gd)∧w.cell? ⟨(ad.add (i*21)).block,(ad.add (i*21)).off+5,none⟩=some (.slice (l[i]'tZ1).own.A (l[i]'tZ1).own.n (l[i]'tZ1).own.c)∧w.cell? ⟨(ad.add (i*21)).block,(ad.add (i*21)).off+6,none⟩=some (.int .i64 (l[i]'tZ1).ix)∧w.cell? ⟨(ad.add (i*21)).block,(ad.add (i*21)).off+7,none⟩=some (.int .i64 (l[i]'tZ1).ct)∧w.cell? ⟨(ad.add (i*21)).block,(ad.add (i*21)).off+8,none⟩=some (.string ⟨(l[i]'tZ1).dt.toArray⟩)∧w.cell? ⟨(ad.add (i*21)).block,(ad.add (i*21)).off+9,none⟩=some (.int .u64 (l[i]'tZ1).sm.a)∧w.cell? ⟨(ad.add (i*21)).block,(ad.add (i*21)).off+10,none⟩=some (.int .u64 (l[i]'tZ1).sm.b)∧w.cell? ⟨(ad.add (i*21)).block,(ad.add (i*21)).off+11,none⟩=some (.int .u64 (l[i]'tZ1).sm.c)∧w.cell? ⟨(ad.add (i*21)).block,(ad.add (i*21)).off+12,none⟩=some (.int .u64 (l[i]'tZ1).sm.d)∧w.cell? ⟨(ad.add (i*21)).block,(ad.add (i*21)).off+13,none⟩=some (.slice (l[i]'tZ1).body.A (l[i]'tZ1).body.n (l[i]'tZ1).body.c)∧w.cell? ⟨(ad.add (i*21)).block,(ad.add (i*21)).off+14,none⟩=some (.int .i64 (l[i]'tZ1).at_)∧w.cell? ⟨(ad.add (i*21)).block,(ad.add (i*21)).off+15,none⟩=some (.int .i64 (l[i]'tZ1).nx)∧w.cell? ⟨(ad.add (i*21)).block,(ad.add (i*21)).off+16,none⟩=some (.int .u64 (l[i]'tZ1).sum.a)∧w.cell? ⟨(ad.add (i*21)).block,(ad.add (i*21)).off+17,none⟩=some (.int .u64 (l[i]'tZ1).sum.b)∧w.cell? ⟨(ad.add (i*21)).block,(ad.add (i*21)).off+18,none⟩=some (.int .u64 (l[i]'tZ1).sum.c)∧w.cell? ⟨(ad.add (i*21)).block,(ad.add (i*21)).off+19,none⟩=some (.int .u64 (l[i]'tZ1).sum.d)∧w.cell? ⟨(ad.add (i*21)).block,(ad.add (i*21)).off+20,none⟩=some (.bool (l[i]'tZ1).done) :=
 Reads.el21 (f0:=fun x:StageR=>.string ⟨x.into.toArray⟩) (f1:=fun x:StageR=>.int .i64 x.kind) (f2:=fun x:StageR=>.string ⟨x.nm.toArray⟩) (f3:=fun x:StageR=>.int .i64 x.frm) (f4:=fun x:StageR=>.int .i64 x.gd) (f5:=fun x:StageR=>.slice x.own.A x.own.n x.own.c) (f6:=fun x:StageR=>.int .i64 x.ix) (f7:=fun x:StageR=>.int .i64 x.ct) (f8:=fun x:StageR=>.string ⟨x.dt.toArray⟩) (f9:=fun x:StageR=>.int .u64 x.sm.a) (f10:=fun x:StageR=>.int .u64 x.sm.b) (f11:=fun x:StageR=>.int .u64 x.sm.c) (f12:=fun x:StageR=>.int .u64 x.sm.d) (f13:=fun x:StageR=>.slice x.body.A x.body.n x.body.c) (f14:=fun x:StageR=>.int .i64 x.at_) (f15:=fun x:StageR=>.int .i64 x.nx) (f16:=fun x:StageR=>.int .u64 x.sum.a) (f17:=fun x:StageR=>.int .u64 x.sum.b) (f18:=fun x:StageR=>.int .u64 x.sum.c) (f19:=fun x:StageR=>.int .u64 x.sum.d) (f20:=fun x:StageR=>.bool x.done) h hn hi
def prevI (l:List StageR) (k:Nat):Option BS:=match k with
 | 0=>none
 | j+1=>(l[j]?).map (·.into)
theorem stagesFrom_cons (p:Option BS) (s:StageR) (l:List StageR):stagesFrom p (s :: l)=(stageB s && (match p with | none=>true | some q=>Op.bytesLess q s.into) && stagesFrom (some s.into) l):=by cases p <;> rfl
theorem stageB_eq (x:StageR):stageB x=(!(x.into == []) && pathB x.into && beginP x.kind x.nm x.frm x.gd x.own.l x.ix x.ct x.dt x.sm && okL x.body.l && amt x.at_ 0 && amt x.nx 0):=rfl
set_option maxRecDepth 100000 in
set_option maxHeartbeats 8000000 in
theorem stages_any (l:List StageR) (n:Nat) (hnl:n=l.length) (A:Option Addr) (c:Nat) (w:World) (B:Nat) (hr:Reads w B 21 A n (cellsK encStage l)) (he:∀ y∈l,y.rd w B) (hB:B≤w.heap.size) (hn:n≤1000000000000) (hv:∀ y∈l,y.sz) (hmx:HasMax w) :
  Calls Tryz.prog 108 #[.slice A n c] w fun e w'=>e=.returned (.bool (stagesB l))∧Below w.heap.size w w':=by
 have HN:=Lib.hid hnl
 have HVB:Hid (stagesB l=(decide (n≤4) && stagesFrom none l)):=by show _=_;unfold stagesB;rw [hnl]
 obtain ⟨V,hV⟩:∃ V,V=stagesB l:=⟨_,rfl⟩
 rw [← hV] at HVB ⊢
 clear hnl hV
 go_enter Tryz.func108,Tryz.ntmps108
 go_wp2_with fail
 go_loopw [7] (fun j wr=>∃ k:Nat,k≤n∧j=.int .i64 (k:Int)∧Hid (stagesFrom none l=stagesFrom (prevI l k) (l.drop k))∧Below w.heap.size w wr) (fun j _=>n-(intOf j).toNat)
 case atStart=>exact ⟨0,Nat.zero_le _,rfl,rfl,Below.refl _ _⟩
 case round =>
  obtain ⟨k,hk,rfl,hok,hbw⟩:=hrel
  by_cases hlt:k<n
  ·have hrw:=hr.below (hbw.mono hB)
   obtain ⟨ad,rfl,hadB,hce⟩:=Reads.elK (k:=21) (fun _=>rfl) hrw HN.out hlt
   have hki:(k:Int)<(n:Int):=tZ1
   have hkl:k<l.length:=tZ9
   obtain ⟨x,hx⟩:∃ x,x=l[k]'hkl:=⟨_,rfl⟩
   have hxm:x∈l:=tZ12
   have hxr:=he x hxm
   have hxs:=hv x hxm
   rw [← hx] at hce
   have HL:Hid (∀ (j:Nat) (v:Value),([.string ⟨x.into.toArray⟩,.int .i64 x.kind,.string ⟨x.nm.toArray⟩,.int .i64 x.frm,.int .i64 x.gd,.slice x.own.A x.own.n x.own.c,.int .i64 x.ix,.int .i64 x.ct,.string ⟨x.dt.toArray⟩,.int .u64 x.sm.a,.int .u64 x.sm.b,.int .u64 x.sm.c,.int .u64 x.sm.d,.slice x.body.A x.body.n x.body.c,.int .i64 x.at_,.int .i64 x.nx,.int .u64 x.sum.a,.int .u64 x.sum.b,.int .u64 x.sum.c,.int .u64 x.sum.d,.bool x.done])[j]?=some v→wr.cell? ((ad.add (k*21)).add j)=some v):=by
    show ∀ j v,_→_
    intro j v hv
    exact mZ72
   clear hce
   have hdr:=List.drop_eq_getElem_cons hkl
   rw [← hx] at hdr
   have hbad:Hid (((x.into == [])=true∨pathB x.into=false∨(∃ y,prevI l k=some y∧Op.bytesLess y x.into=false)∨beginP x.kind x.nm x.frm x.gd x.own.l x.ix x.ct x.dt x.sm=false∨okL x.body.l=false∨amt x.at_ 0=false∨amt x.nx 0=false)→V=false):=by
    show _→_
    intro h
    rw [HVB.out,hok.out,hdr,stagesFrom_cons,stageB_eq]
    rcases h with h | h | ⟨y,hy,h⟩ | h | h | h | h
    ·rw [h];simp
    ·rw [h];simp
    ·rw [hy];simp only [h];simp
    ·rw [h];simp
    ·rw [h];simp
    ·rw [h];simp
    ·rw [h];simp
   have hgood:Hid ((x.into == [])=false→pathB x.into=true→(∀ y,prevI l k=some y→Op.bytesLess y x.into=true)→beginP x.kind x.nm x.frm x.gd x.own.l x.ix x.ct x.dt x.sm=true→okL x.body.l=true→amt x.at_ 0=true→amt x.nx 0=true→Hid (stagesFrom none l=stagesFrom (prevI l (k+1)) (l.drop (k+1)))):=by
    show _→_→_→_→_→_→_→_
    intro h1 h2 h3 h4 h5 h6 h7
    show _=_
    rw [hok.out,hdr,stagesFrom_cons,stageB_eq]
    have hp:prevI l (k+1)=some x.into:=by
     exact mZ71
    rw [hp,h1,h2,h4,h5,h6,h7]
    cases hq:prevI l k with
    | none=>rfl
    | some y=>simp only [h3 y hq];rfl
   have hprev:(decide ((0:Int)<(k:Int))=false∧decide (0<k)=false∧Hid (∀ y,prevI l k=some y→Op.bytesLess y x.into=true))∨(decide ((0:Int)<(k:Int))=true∧decide (0<k)=true∧(1:Int)≤(k:Int)∧(k:Int)-1<(n:Int)∧IntKind.i64.wrap ((k:Int)-1)=(k:Int)-1∧((k:Int)-1).toNat=k-1∧∃ yp,Hid ((Op.bytesLess yp x.into=true→∀ y,prevI l k=some y→Op.bytesLess y x.into=true)∧(Op.bytesLess yp x.into=false→∃ y,prevI l k=some y∧Op.bytesLess y x.into=false))∧Hid (∃ h:k-1<l.length,yp=(l[k-1]'h).into)):=by
    rcases Nat.eq_zero_or_pos k with h0 | h0
    ·exact mZ70
    ·have hk1l:k-1<l.length:=tZ1
     have hpv:prevI l k=some (l[k-1]'hk1l).into:=by
      exact mZ69
     refine .inr ⟨by simp;omega,by simp;omega,by omega,by omega,IntWalk.i64_in _ tZ1,by omega,(l[k-1]'hk1l).into,?_,⟨hk1l,rfl⟩⟩
     exact mZ68
   obtain ⟨W0,hW0⟩:∃ W0,W0=wr.alloc (.cells #[.string ⟨x.into.toArray⟩,.int .i64 x.kind,.string ⟨x.nm.toArray⟩,.int .i64 x.frm,.int .i64 x.gd,.slice x.own.A x.own.n x.own.c,.int .i64 x.ix,.int .i64 x.ct,.string ⟨x.dt.toArray⟩,.int .u64 x.sm.a,.int .u64 x.sm.b,.int .u64 x.sm.c,.int .u64 x.sm.d,.slice x.body.A x.body.n x.body.c,.int .i64 x.at_,.int .i64 x.nx,.int .u64 x.sum.a,.int .u64 x.sum.b,.int .u64 x.sum.c,.int .u64 x.sum.d,.bool x.done] 77):=⟨_,rfl⟩
   have hblk:Blk W0 wr.heap.size 77 #[.string ⟨x.into.toArray⟩,.int .i64 x.kind,.string ⟨x.nm.toArray⟩,.int .i64 x.frm,.int .i64 x.gd,.slice x.own.A x.own.n x.own.c,.int .i64 x.ix,.int .i64 x.ct,.string ⟨x.dt.toArray⟩,.int .u64 x.sm.a,.int .u64 x.sm.b,.int .u64 x.sm.c,.int .u64 x.sm.d,.slice x.body.A x.body.n x.body.c,.int .i64 x.at_,.int .i64 x.nx,.int .u64 x.sum.a,.int .u64 x.sum.b,.int .u64 x.sum.c,.int .u64 x.sum.d,.bool x.done]:=tZ46
   have hszW:W0.heap.size=wr.heap.size+1:=tZ15
   have hlt0:wr.heap.size<W0.heap.size:=tZ1
   have HSZ:=Lib.hid hszW
   have hwr:=hbw.size
   have hbW:Below w.heap.size w W0:=tZ31
   have hrd:∀ W,Below W0.heap.size W0 W→x.rd W B:=fun W hb=>⟨hxr.own.below ((hbW.trans (hb.mono tZ1)).mono hB),hxr.body.below ((hbW.trans (hb.mono tZ1)).mono hB)⟩
   have hPa:Hid (∀ W,Below W0.heap.size W0 W→Calls Tryz.prog 72 #[.string ⟨x.into.toArray⟩] W fun e W'=>e=.returned (.bool (pathB x.into))∧Below W.heap.size W W'):=fun W hb =>
    path_any ⟨x.into.toArray⟩ W (by show x.into.length≤_;exact hxs.into) (hmx.below (hbW.trans (hb.mono tZ1)))
   have hBg:Hid (∀ W,Below W0.heap.size W0 W→Calls Tryz.prog 149 #[.agg #[.int .i64 x.kind,.string ⟨x.nm.toArray⟩,.int .i64 x.frm,.int .i64 x.gd,.slice x.own.A x.own.n x.own.c,.int .i64 x.ix,.int .i64 x.ct,.string ⟨x.dt.toArray⟩,.int .u64 x.sm.a,.int .u64 x.sm.b,.int .u64 x.sm.c,.int .u64 x.sm.d]] W fun e W'=>e=.returned (.bool (beginP x.kind x.nm x.frm x.gd x.own.l x.ix x.ct x.dt x.sm))∧Below W.heap.size W W'):=fun W hb =>
    begin_any x.kind x.nm x.frm x.gd x.own.l x.own.n (hrd W hb).own.1 x.own.A x.own.c x.ix x.ct x.dt x.sm.a x.sm.b x.sm.c x.sm.d W B (hrd W hb).own.2.2 tZ20 hxs.own hxs.props
   have hBk:Hid (∀ W,Below W0.heap.size W0 W→Calls Tryz.prog 145 #[.slice x.body.A x.body.n x.body.c] W fun e W'=>e=.returned (.int .i64 (if okL x.body.l=true then 0 else 9))∧Below W.heap.size W W'):=fun W hb =>
    checkBk_any x.body.l x.body.n (hrd W hb).body.1 x.body.A x.body.c W B (hrd W hb).body.2.2 tZ20 tZ127
   have hA0:Hid (∀ W,Below W0.heap.size W0 W→Calls Tryz.prog 105 #[.int .i64 x.at_,.int .i64 0] W fun e W'=>e=.returned (.bool (amt x.at_ 0))∧Below W.heap.size W W'):=fun W _=>amountB_any x.at_ 0 W
   have hA1:Hid (∀ W,Below W0.heap.size W0 W→Calls Tryz.prog 105 #[.int .i64 x.nx,.int .i64 0] W fun e W'=>e=.returned (.bool (amt x.nx 0))∧Below W.heap.size W W'):=fun W _=>amountB_any x.nx 0 W
   have hS:Hid (∀ W,Below W0.heap.size W0 W→W.cell? ⟨wr.heap.size,0,none⟩=some (.string ⟨x.into.toArray⟩)∧W.cell? ⟨wr.heap.size,1,none⟩=some (.int .i64 x.kind)∧W.cell? ⟨wr.heap.size,2,none⟩=some (.string ⟨x.nm.toArray⟩)∧W.cell? ⟨wr.heap.size,3,none⟩=some (.int .i64 x.frm)∧W.cell? ⟨wr.heap.size,4,none⟩=some (.int .i64 x.gd)∧W.cell? ⟨wr.heap.size,5,none⟩=some (.slice x.own.A x.own.n x.own.c)∧W.cell? ⟨wr.heap.size,6,none⟩=some (.int .i64 x.ix)∧W.cell? ⟨wr.heap.size,7,none⟩=some (.int .i64 x.ct)∧W.cell? ⟨wr.heap.size,8,none⟩=some (.string ⟨x.dt.toArray⟩)∧W.cell? ⟨wr.heap.size,9,none⟩=some (.int .u64 x.sm.a)∧W.cell? ⟨wr.heap.size,10,none⟩=some (.int .u64 x.sm.b)∧W.cell? ⟨wr.heap.size,11,none⟩=some (.int .u64 x.sm.c)∧W.cell? ⟨wr.heap.size,12,none⟩=some (.int .u64 x.sm.d)∧W.cell? ⟨wr.heap.size,13,none⟩=some (.slice x.body.A x.body.n x.body.c)∧W.cell? ⟨wr.heap.size,14,none⟩=some (.int .i64 x.at_)∧W.cell? ⟨wr.heap.size,15,none⟩=some (.int .i64 x.nx)):=by
    show ∀ W,_→_
    intro W hb
    have hb2:=hblk.below hb hlt0
    exact ⟨hb2.cell 0,hb2.cell 1,hb2.cell 2,hb2.cell 3,hb2.cell 4,hb2.cell 5,hb2.cell 6,hb2.cell 7,hb2.cell 8,hb2.cell 9,hb2.cell 10,hb2.cell 11,hb2.cell 12,hb2.cell 13,hb2.cell 14,hb2.cell 15⟩
   have hSp:Hid (∀ W,Below W0.heap.size W0 W→∀ yp,(∃ h:k-1<l.length,yp=(l[k-1]'h).into)→W.cell? (ad.add ((k-1)*21))=some (.string ⟨yp.toArray⟩)):=by
    show ∀ W,_→_
    intro W hb
    rintro yp ⟨h,rfl⟩
    obtain ⟨ad2,e2,-,p1,-⟩:=stage_at (hr.below ((hbW.trans (hb.mono tZ1)).mono hB)) HN.out (i:=k-1) tZ1
    injection e2 with e2
    subst e2
    exact p1
   have hS0:=(Below.refl W0.heap.size W0).drew
   obtain ⟨into,kind,nm,frm,gd,⟨o1,o2,o3,ol⟩,ix,ct,dt,⟨sa,sb,sc,sd⟩,⟨b1,b2,b3,bl⟩,at_,nx,⟨ua,ub,uc,ud⟩,done⟩:=x
   simp only at HL hbad hgood hprev hW0 hBk hPa hBg hA0 hA1 hS
   clear hx hdr hok hxm hxr hxs hrd hblk hr hrw he hv
   as_aux_lemma =>
    obtain ⟨bPa,hbPa⟩:∃ b,b=pathB into:=⟨_,rfl⟩
    obtain ⟨bBg,hbBg⟩:∃ b,b=beginP kind nm frm gd ol ix ct dt ⟨sa,sb,sc,sd⟩:=⟨_,rfl⟩
    obtain ⟨bB,hbB⟩:∃ b,b=okL bl:=⟨_,rfl⟩
    obtain ⟨bA,hbA⟩:∃ b,b=amt at_ 0:=⟨_,rfl⟩
    obtain ⟨bX,hbX⟩:∃ b,b=amt nx 0:=⟨_,rfl⟩
    rw [← hbPa] at hbad hgood hPa
    rw [← hbBg] at hbad hgood hBg
    rw [← hbB] at hbad hgood hBk
    rw [← hbA] at hbad hgood hA0
    rw [← hbX] at hbad hgood hA1
    clear hbPa hbBg hbB hbA hbX
    go_wp2_with (first | (refine wpList_load_at rfl 77 (.tmp 10) rfl (ad.add (k*21)) rfl [.string ⟨into.toArray⟩,.int .i64 kind,.string ⟨nm.toArray⟩,.int .i64 frm,.int .i64 gd,.slice o1 o2 o3,.int .i64 ix,.int .i64 ct,.string ⟨dt.toArray⟩,.int .u64 sa,.int .u64 sb,.int .u64 sc,.int .u64 sd,.slice b1 b2 b3,.int .i64 at_,.int .i64 nx,.int .u64 ua,.int .u64 ub,.int .u64 uc,.int .u64 ud,.bool done] _ HL.out Tryz.underlying77 rfl tZ2 ?_) | (refine wpList_store_new wr rfl 77 (.tmp 4) (.tmp 11) rfl 77 _ [.string ⟨into.toArray⟩,.int .i64 kind,.string ⟨nm.toArray⟩,.int .i64 frm,.int .i64 gd,.slice o1 o2 o3,.int .i64 ix,.int .i64 ct,.string ⟨dt.toArray⟩,.int .u64 sa,.int .u64 sb,.int .u64 sc,.int .u64 sd,.slice b1 b2 b3,.int .i64 at_,.int .i64 nx,.int .u64 ua,.int .u64 ub,.int .u64 uc,.int .u64 ud,.bool done] rfl rfl rfl tZ2 tZ5 ?_))
    rw [← hW0]
    obtain ⟨G,hG⟩:∃ G,G=Value.agg #[.string ⟨into.toArray⟩,.int .i64 kind,.string ⟨nm.toArray⟩,.int .i64 frm,.int .i64 gd,.slice o1 o2 o3,.int .i64 ix,.int .i64 ct,.string ⟨dt.toArray⟩,.int .u64 sa,.int .u64 sb,.int .u64 sc,.int .u64 sd,.slice b1 b2 b3,.int .i64 at_,.int .i64 nx,.int .u64 ua,.int .u64 ub,.int .u64 uc,.int .u64 ud,.bool done]:=⟨_,rfl⟩
    rw [← hG]
    clear hW0 hszW HL hG
    as_aux_lemma =>
     by_cases hin:into=[]
     ·have HB:=Lib.hid (hbad.out (.inl (by simp [hin])))
      subst hin
      clear hprev hPa hBg hBk hA0 hA1 hgood hbad
      refine wpC_regionH (fun W'=>Below W0.heap.size W0 W') (hS0) (fun OPS D QQ HO HD HD2 HQQ=>?_)
      have hgo3:=hgoL HO 3 15 rfl
      have hgo9:=hgoL HO 9 21 rfl
      have hgo12:=hgoL HO 12 24 rfl
      have hgo24:=hgoL HO 24 36 rfl
      have hgo30:=hgoL HO 30 42 rfl
      have hgo36:=hgoL HO 36 48 rfl
      have hgo42:=hgoL HO 42 54 rfl
      clear HO
      refine zX ?_
      refine zY ?_
      iterate 46 refine zX ?_
      refine wpQuiet_nil (HQQ.out _ (fun W hW=>?_))
      skip
      go_wp2_with fail
      go_ret
      exact ⟨by rw [HB.out];rfl,hbW.trans (hW.mono tZ6)⟩
     ·have HIN:Hid ((into == [])=false):=by show _=_;simpa using hin
      have hin1:(into == [])=false:=HIN.out
      have hin2:into.isEmpty=false:=by cases into <;> simp_all
      clear hin
      refine wpC_regionH (fun W'=>Below W0.heap.size W0 W') (hS0) (fun OPS D QQ HO HD HD2 HQQ=>?_)
      have hgo3:=hgoL HO 3 15 rfl
      have hgo9:=hgoL HO 9 21 rfl
      have hgo12:=hgoL HO 12 24 rfl
      have hgo24:=hgoL HO 24 36 rfl
      have hgo30:=hgoL HO 30 42 rfl
      have hgo36:=hgoL HO 36 48 rfl
      have hgo42:=hgoL HO 42 54 rfl
      clear HO
      refine zX ?_
      refine zY ?_
      iterate 3 refine zX ?_
      refine zY ?_
      cases bPa with
      | false =>
       as_aux_lemma =>
        have HB:=Lib.hid (hbad.out (.inr (.inl tZ18)))
        refine zN hPa.out ?_
        iterate 41 refine zX ?_
        refine wpQuiet_nil (HQQ.out _ (fun W hW=>?_))
        skip
        go_wp2_with fail
        go_ret
        exact ⟨by rw [HB.out];rfl,hbW.trans (hW.mono tZ6)⟩
      | true =>
       as_aux_lemma =>
        refine zN hPa.out ?_
        iterate 4 refine zX ?_
        rcases hprev with ⟨d4,d4',d5⟩ | ⟨d4,d4',i1,i2,i3,i4,yp,d5,d6⟩
        ·as_aux_lemma =>
          iterate 15 refine zX ?_
          refine zY ?_
          cases bBg with
          | false =>
           exact mZ61
          | true =>
           as_aux_lemma =>
            refine zN hBg.out ?_
            iterate 4 refine zX ?_
            refine zY ?_
            cases bB with
            | false =>
             exact mZ62
            | true =>
             as_aux_lemma =>
              refine zN hBk.out ?_
              iterate 4 refine zX ?_
              refine zY ?_
              cases bA with
              | false =>
               exact mZ63
              | true =>
               as_aux_lemma =>
                refine zN hA0.out ?_
                iterate 4 refine zX ?_
                refine zY ?_
                cases bX with
                | false =>
                 exact mZ64
                | true =>
                 as_aux_lemma =>
                  refine zN hA1.out ?_
                  iterate 2 refine zX ?_
                  refine wpQuiet_nil (HQQ.out _ (fun W hW=>?_))
                  skip
                  have HGG:=Lib.hid (hgood.out HIN.out tZ18 d5.out tZ18 tZ18 tZ18 tZ18)
                  have hbf:=hbW.trans (hW.mono tZ6)
                  exact mZ65
        ·as_aux_lemma =>
          have hge:=geqS 9 yp into
          iterate 7 refine zX ?_
          refine wpC_greadS (v:=?_) rfl rfl hgo12.out rfl (fun W hW=>?_) ?_
          rotate_left
          ·exact mZ67
          dsimp only [zB,zC]
          refine zX ?_
          refine zY ?_
          cases hbl:Op.bytesLess yp into with
          | false =>
           as_aux_lemma =>
            have HB:=Lib.hid (hbad.out (.inr (.inr (.inl (d5.out.2 hbl)))))
            rw [hbl] at hge
            iterate 27 refine zX ?_
            refine wpQuiet_nil (HQQ.out _ (fun W hW=>?_))
            skip
            go_wp2_with fail
            go_ret
            exact ⟨by rw [HB.out];rfl,hbW.trans (hW.mono tZ6)⟩
          | true =>
           as_aux_lemma =>
            have HG:=d5.out.1 hbl
            rw [hbl] at hge
            iterate 5 refine zX ?_
            refine zY ?_
            cases bBg with
            | false =>
             exact mZ61
            | true =>
             as_aux_lemma =>
              refine zN hBg.out ?_
              iterate 4 refine zX ?_
              refine zY ?_
              cases bB with
              | false =>
               exact mZ62
              | true =>
               as_aux_lemma =>
                refine zN hBk.out ?_
                iterate 4 refine zX ?_
                refine zY ?_
                cases bA with
                | false =>
                 exact mZ63
                | true =>
                 as_aux_lemma =>
                  refine zN hA0.out ?_
                  iterate 4 refine zX ?_
                  refine zY ?_
                  cases bX with
                  | false =>
                   exact mZ64
                  | true =>
                   as_aux_lemma =>
                    refine zN hA1.out ?_
                    iterate 2 refine zX ?_
                    refine wpQuiet_nil (HQQ.out _ (fun W hW=>?_))
                    skip
                    have HGG:=Lib.hid (hgood.out HIN.out tZ18 HG tZ18 tZ18 tZ18 tZ18)
                    have hbf:=hbW.trans (hW.mono tZ6)
                    exact mZ65
  ·have hkn:k=n:=tZ1
   have HF:Hid (V=decide (n≤4)):=by
    show _=_
    rw [HVB.out,hok.out,List.drop_of_length_le tZ14]
    simp [stagesFrom]
   clear hr hok he hv
   by_cases h8:n≤4
   ·have hi8:(n:Int)≤(4:Int):=tZ1
    exact mZ60
   ·have hi8:¬ (n:Int)≤(4:Int):=tZ1
    exact mZ59
end Go.Proofs.YtiojfffgiejibaaGreatDoor
