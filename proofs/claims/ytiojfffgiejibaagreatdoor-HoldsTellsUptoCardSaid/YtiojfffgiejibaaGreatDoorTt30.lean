/-
  A drawn region whose operations read and make memory, and whose last one, behind all others, may do whatever it does. A drawn region whose operations read and make memory, with one store at an operation S, behind which only operations stand that look at no memory. A drawn region whose operations read and make memory, with one operation S that changes what was made ahead of it, and a last one, L, that does too. Tenants: sizes hang on the content; what may be read below a bound may be read below a higher one. Short words for drawn regions with a store: what stands ahead of it, by reckoning; the values that an operation waits for. Drawn regions with guards: when an operation is wanted. What is done to a block of another element type keeps a tenant of one's own.
-/
import Derived.Test.YtiojfffgiejibaaGreatDoorTtM1
import Derived.WalkKit
import Derived.WalkSpells
import Derived.Below
import Derived.Laws.OwnMore
import Derived.Deep.AppendLies
import Derived.Deep.Draws
import Derived.Laws.Rows
import Derived.Maps.AppendAt
import Derived.RegionTactic
import Derived.OwnWalk
import Derived.Deep.QuietTactic
import Derived.BigQuiet
import Derived.Lib.Hide
import Derived.Laws.CopyOwn
import Derived.IntWalk
import Derived.Orders
import Derived.Test.YtiojfffgiejibaaGreatDoorRows
import Derived.Handy
import Derived.Deep.Quiet
import Derived.Lib.SplitLaws
import Derived.Lib.LastIndexByte
import Derived.Lib.Strings
import Derived.ShutString
import Derived.Sort.Walk0
import Derived.Sort.KeysCollected
import Derived.Shelf.Strings.Search1
import Derived.Shelf.Strings.Search2
import Derived.Shelf.Strings.Search3
import Derived.Shelf.Strings.Cut
import Derived.Shelf.Strings.Count
import Derived.Shelf.LaysM
import Derived.Shelf.Strings.Shaped
import Derived.Shelf.Strings.LastIndex
import Derived.Shelf.Strings.Split
import Derived.Shelf.Strings.SplitShaped
import Derived.Shelf.Unicode.Decode
import Derived.Shelf.Strings.RuneCount
import Derived.Shelf.Strings.Explode
import Derived.Shelf.Unicode.DecodeSlow
import Derived.Shelf.Slices.Turned
import Derived.Test.YtiojfffgiejibaaGreatDoorProg
import Derived.Laws.BytesString
import Derived.Laws.IdiomStrings
import Derived.Lib.ConvBytes
import Derived.Deep.MidRow
import Derived.Test.YtiojfffgiejibaaGreatDoorT0
import Derived.Test.YtiojfffgiejibaaGreatDoorTt1
import Derived.Test.YtiojfffgiejibaaGreatDoorTt7
import Derived.Test.YtiojfffgiejibaaGreatDoorTt10
import Derived.Test.YtiojfffgiejibaaGreatDoorTt15
import Derived.Test.YtiojfffgiejibaaGreatDoorTt20
import Derived.Test.YtiojfffgiejibaaGreatDoorTt25
namespace Go.Proofs.YtiojfffgiejibaaGreatDoor
open Go.RowKit
section
variable {P:Program} {ops:Array Oper}
def depsOf (ops:Array Oper) (i:Nat):List Nat:=match ops[i]? with
 | some o=>(o.after.toList.filter fun e=>Region.binds .any e).map (·.on)
 | none=>[]
def reachL (ops:Array Oper):Nat→List Nat→List Nat
 | 0,l=>l
 | f+1,l=>reachL ops f (l++(l.flatMap (depsOf ops)).filter fun i=>!l.contains i).eraseDups
/-- all others stand ahead of the last one -/
def lastOk (ops:Array Oper) (L:Nat):Bool:=(List.range ops.size).all fun i=>i == L || (reachL ops ops.size (depsOf ops L)).contains i
theorem reach_some {m:Nat→Option Value} (hcl:∀ j o',ops[j]?=some o'→(m j).isSome=true→∀ e∈o'.after,Region.binds .any e=true→(m e.on).isSome=true) (f:Nat):∀ l:List Nat,(∀ i∈l,(m i).isSome=true)→∀ i∈reachL ops f l,(m i).isSome=true:=by
 induction f with
 | zero=>intro l h;exact h
 | succ f ih =>
  intro l h
  refine ih _ (fun i hi=>?_)
  rw [List.mem_eraseDups,List.mem_append] at hi
  rcases hi with hi | hi
  ·exact h i hi
  ·obtain ⟨hi,_⟩:=List.mem_filter.1 hi
   obtain ⟨j,hj,hij⟩:=List.mem_flatMap.1 hi
   unfold depsOf at hij
   cases ho:ops[j]? with
   | none=>rw [ho] at hij;cases hij
   | some o =>
    rw [ho] at hij
    obtain ⟨e,he,rfl⟩:=List.mem_map.1 hij
    obtain ⟨he,hb⟩:=List.mem_filter.1 he
    exact hcl j o ho (h j hj) e (Array.mem_toList_iff.1 he) hb
end
end Go.Proofs.YtiojfffgiejibaaGreatDoor
namespace Go.Proofs.YtiojfffgiejibaaGreatDoor
open Go.RowKit
section
variable {P:Program} {ops:Array Oper}
def ClosedM (ops:Array Oper) (m:Nat→Option Value):Prop:=∀ j o',ops[j]?=some o'→(m j).isSome=true→∀ e∈o'.after,Region.binds .any e=true→(m e.on).isSome=true
theorem ClosedM.upd {m:Nat→Option Value} {i:Nat} {o:Oper} (h:ClosedM ops m) (ho:ops[i]?=some o) (hd:∀ e∈o.after,Region.binds .any e=true→(m e.on).isSome=true) (v:Value):ClosedM ops (upd m i v):=by
 intro j o' ho' hj e he hbi
 by_cases hei:e.on=i
 ·rw [hei,upd_self];rfl
 ·rw [upd_ne m v hei]
  by_cases hji:j=i
  ·subst hji
   rw [ho] at ho'
   injection ho' with ho'
   subst ho'
   exact hd e he hbi
  ·rw [upd_ne m v hji] at hj
   exact h j o' ho' hj e he hbi
end
end Go.Proofs.YtiojfffgiejibaaGreatDoor
namespace Go.Proofs.YtiojfffgiejibaaGreatDoor
open Go.RowKit
section
variable {P:Program} {ops:Array Oper}
theorem wp_region_two {id:Nat} {a0:Act} {w:World} {Q:Exit→Act→World→Prop} (S L:Nat) (late:List Nat) (hm:P.follows .mixedOrders=true) (hok:regionOk ops a0.tmps.size=true) (hlo:lastOk ops L=true) (hLs:L<ops.size) (hSs:S<ops.size) (hSL:S≠L) (Gs:List (Value→World→Prop)) (hst:∀ p∈Gs,Stays p)
  (hlt:∀ i,i<ops.size→i≠S→i≠L→i ∉ late→∀ m,ClosedM ops m→(m S).isSome=true→(m i).isSome=true)
  (hstep:∀ i o,ops[i]?=some o→i≠S→i≠L→i ∉ late→∀ (m:Nat→Option Value) (W:World),Below w.heap.size w W→m i=none→ClosedM ops m→(∀ e∈o.after,Region.binds .any e=true→∃ v,m e.on=some v∧Says Gs e.on v W) →
   ∀ (A:Act) (K:Act→World→Prop),A=frameM a0 ops m→(∀ v W',Below W.heap.size W W'→Says Gs i v W'→K (A.put o.dst v) W')→if Region.wanted o (yielded ops A.tmps)=true then o.wp P A W K Q else K (A.put o.dst undef) W)
  (R:World→Value→World→Prop)
  (hlate:∀ i o,ops[i]?=some o→i≠S→i≠L→i∈late→∀ (m:Nat→Option Value) (W9 W:World),Below w.heap.size w W9→m i=none→ClosedM ops m→(∀ e∈o.after,Region.binds .any e=true→e.on≠S→∃ v,m e.on=some v∧Says Gs e.on v W9)→(W=W9∨∃ u,m S=some u∧R W9 u W) →
   ∀ (A:Act) (K:Act→World→Prop),A=frameM a0 ops m→(∀ v,(∀ W',Says Gs i v W')→K (A.put o.dst v) W)→if Region.wanted o (yielded ops A.tmps)=true then o.wp P A W K Q else K (A.put o.dst undef) W)
  (hS:∀ o,ops[S]?=some o→∀ (m:Nat→Option Value) (W:World),Below w.heap.size w W→m S=none→ClosedM ops m→(∀ e∈o.after,Region.binds .any e=true→∃ v,m e.on=some v∧Says Gs e.on v W) →
   ∀ (A:Act) (K:Act→World→Prop),A=frameM a0 ops m→(∀ u W',R W u W'→K (A.put o.dst u) W')→if Region.wanted o (yielded ops A.tmps)=true then o.wp P A W K Q else K (A.put o.dst undef) W)
  (hL:∀ o,ops[L]?=some o→∀ (m:Nat→Option Value) (W9 W:World) (u:Value),Below w.heap.size w W9→m L=none→(∀ i,i<ops.size→i≠S→i≠L→∃ v,m i=some v∧Says Gs i v W9)→m S=some u→R W9 u W →
   ∀ (A:Act) (K:Act→World→Prop),A=frameM a0 ops m→(∀ v W',Q .normal (frameM a0 ops (upd m L v)) W'→K (A.put o.dst v) W')→if Region.wanted o (yielded ops A.tmps)=true then o.wp P A W K Q else K (A.put o.dst undef) W) :
  (Code.region id ops true).wp P Q a0 w:=by
 have hsay:∀ i v W W',Says Gs i v W→Below W.heap.size W W'→Says Gs i v W':=by
  exact mZ51
 refine wp_region_inv hm hok (fun m W=>(m L=none∧∃ W9,Below w.heap.size w W9∧(∀ i v,m i=some v→i≠S→Says Gs i v W9)∧ClosedM ops m∧((m S=none∧W=W9)∨∃ u,m S=some u∧R W9 u W))∨((∀ i,i<ops.size→(m i).isSome=true)∧Q .normal (frameM a0 ops m) W))
  (.inl ⟨rfl,_,(Below.refl _ _).drew,fun _ _ h=>(by cases h),fun _ _ _ h=>(by cases h),.inl ⟨rfl,rfl⟩⟩) ?_ ?_
 ·intro i o ho m W hJ hmi hdeps A K hA hK
  have his:i<ops.size:=(Array.getElem?_eq_some_iff.1 ho).1
  rcases hJ with ⟨hLn,W9,hb,hs,hcl,hW⟩ | ⟨hall,_⟩
  ·have hdv:∀ e∈o.after,Region.binds .any e=true→e.on≠S→∃ v,m e.on=some v∧Says Gs e.on v W9:=fun e he hbi hne=>by
    have:=hdeps e he hbi
    cases hme:m e.on with
    | none=>rw [hme] at this;cases this
    | some v=>exact ⟨v,rfl,hs _ _ hme hne⟩
   have hsu:∀ v W',Below W9.heap.size W9 W'→(i≠S→Says Gs i v W')→∀ j u,upd m i v j=some u→j≠S→Says Gs j u W':=fun v W' hbw hSy j u hu hjS=>by
    by_cases hji:j=i
    ·subst hji;rw [upd_self] at hu;injection hu with hu;subst hu;exact hSy hjS
    ·rw [upd_ne m v hji] at hu;exact hsay j u W9 W' (hs j u hu hjS) hbw
   by_cases hiL:i=L
   ·subst hiL
    have hr:=reach_some hcl ops.size (depsOf ops i) (fun k hk=>by
     unfold depsOf at hk
     rw [ho] at hk
     obtain ⟨e,he,rfl⟩:=List.mem_map.1 hk
     obtain ⟨he,hbi⟩:=List.mem_filter.1 he
     exact hdeps e (Array.mem_toList_iff.1 he) hbi)
    have hoth:∀ j,j<ops.size→j≠i→(m j).isSome=true:=fun j hj hne=>by
     have h1:=List.all_eq_true.1 hlo j (List.mem_range.2 hj)
     simp only [Bool.or_eq_true,beq_iff_eq,List.contains_iff_mem] at h1
     rcases h1 with h1 | h1
     ·exact absurd h1 hne
     ·exact hr j h1
    rcases hW with ⟨hn,_⟩ | ⟨u,hu,hR⟩
    ·have:=hoth S hSs hSL
     rw [hn] at this
     cases this
    ·refine hL o ho m W9 W u hb hmi (fun j hj h1 h2=>?_) hu hR A K hA (fun v W' hQ=>hK v W' (.inr ⟨fun j hj=>?_,hQ⟩))
     ·have h3:=hoth j hj h2
      cases hmj:m j with
      | none=>rw [hmj] at h3;cases h3
      | some v=>exact ⟨v,rfl,hs j v hmj h1⟩
     ·by_cases hji:j=i
      ·subst hji;rw [upd_self];rfl
      ·rw [upd_ne m v hji];exact hoth j hj hji
   ·by_cases hiS:i=S
    ·subst hiS
     rcases hW with ⟨_,rfl⟩ | ⟨u,hu,_⟩
     ·refine hS o ho m W hb hmi hcl (fun e he hbi=>hdv e he hbi (fun hne=>by have:=hdeps e he hbi;rw [hne,hmi] at this;cases this)) A K hA fun u W' hR=>hK u W' (.inl ⟨by rw [upd_ne m u (Ne.symm hiL)];exact hLn,W,hb,hsu u W (Below.refl _ _) (fun h=>absurd rfl h),hcl.upd ho hdeps u,.inr ⟨u,upd_self _ _ _,hR⟩⟩)
     ·rw [hmi] at hu;cases hu
    ·by_cases hil:i∈late
     ·refine hlate i o ho hiS hiL hil m W9 W hb hmi hcl hdv (by rcases hW with ⟨_,h⟩ | h;exact .inl h;exact .inr h) A K hA fun v hv=>hK v W (.inl ⟨by rw [upd_ne m v (Ne.symm hiL)];exact hLn,W9,hb,hsu v W9 (Below.refl _ _) (fun _=>hv _),hcl.upd ho hdeps v,?_⟩)
      rw [upd_ne m v (fun e=>hiS e.symm)]
      exact hW
     ·rcases hW with ⟨hn,rfl⟩ | ⟨u,hu,_⟩
      ·refine hstep i o ho hiS hiL hil m W hb hmi hcl (fun e he hbi=>hdv e he hbi (fun hne=>by have:=hdeps e he hbi;rw [hne,hn] at this;cases this)) A K hA fun v W' hbw hSy=>hK v W' (.inl ⟨by rw [upd_ne m v (Ne.symm hiL)];exact hLn,W',below_step hb hbw,hsu v W' hbw (fun _=>hSy),hcl.upd ho hdeps v,.inl ⟨?_,rfl⟩⟩)
       rw [upd_ne m v (fun e=>hiS e.symm)]
       exact hn
      ·have:=hlt i his hiS hiL hil m hcl (by rw [hu];rfl)
       rw [hmi] at this
       cases this
  ·have:=hall i his
   rw [hmi] at this
   cases this
 ·intro m W hJ hall
  rcases hJ with ⟨hLn,_⟩ | ⟨_,hQ⟩
  ·have:=hall L hLs
   rw [hLn] at this
   cases this
  ·exact hQ
end
end Go.Proofs.YtiojfffgiejibaaGreatDoor
namespace Go.Proofs.YtiojfffgiejibaaGreatDoor
open Go.RowKit
theorem blk7 {w:World} {g:Nat} {t:TypeId} {a0 a1 a2 a3 a4 a5 a6:Value} (h:Blk w g t #[a0,a1,a2,a3,a4,a5,a6]):w.cell? ⟨g,0,none⟩=some a0∧w.cell? ⟨g,1,none⟩=some a1∧w.cell? ⟨g,2,none⟩=some a2∧w.cell? ⟨g,3,none⟩=some a3∧w.cell? ⟨g,4,none⟩=some a4∧w.cell? ⟨g,5,none⟩=some a5∧w.cell? ⟨g,6,none⟩=some a6 :=
 ⟨h.cell 0,h.cell 1,h.cell 2,h.cell 3,h.cell 4,h.cell 5,h.cell 6⟩
theorem SnapR.eqv.size {x y:SnapR} {w w':World} {B B':Nat} (h:x.eqv y) (hx:x.rd w B) (hy:y.rd w' B') (hz:x.sz):y.sz :=
 h.sz hz (FS.len_eq hx.body.1 hy.body.1 h.body) (FS.len_eq hx.tags.1 hy.tags.1 h.tags) (FS.len_eq hx.own.1 hy.own.1 h.own)
theorem SetR.eqv.size {x y:SetR} {w w':World} {B B':Nat} (h:x.eqv y) (hx:x.rd w B) (hy:y.rd w' B') (hz:x.sz):y.sz:=by
 refine ⟨by rw [← h.path];exact hz.path,by rw [← h.org];exact hz.org,by rw [FS.len_eq hx.body.1 hy.body.1 h.body];exact hz.body,by rw [hy.snaps.1,← h.len,← hx.snaps.1];exact hz.snaps,fun z hm=>?_,by rw [FS.len_eq hx.own.1 hy.own.1 h.own];exact hz.own,by rw [← h.own];exact hz.props⟩
 obtain ⟨i,hi,rfl⟩:=List.getElem_of_mem hm
 have hi':i<x.snaps.l.length:=by rw [h.len];exact hi
 exact (h.each i hi' hi).size (hx.each _ (List.getElem_mem hi')) (hy.each _ hm) (hz.each _ (List.getElem_mem hi'))
theorem StageR.eqv.size {x y:StageR} {w w':World} {B B':Nat} (h:x.eqv y) (hx:x.rd w B) (hy:y.rd w' B') (hz:x.sz):y.sz :=
 ⟨by rw [← h.into];exact hz.into,by rw [← h.nm];exact hz.nm,by rw [← h.dt];exact hz.dt,by rw [FS.len_eq hx.own.1 hy.own.1 h.own];exact hz.own,by rw [← h.own];exact hz.props,by rw [FS.len_eq hx.body.1 hy.body.1 h.body];exact hz.body⟩
theorem TenR.eqv.size {x y:TenR} {w w':World} {B B':Nat} (h:x.eqv y) (hx:x.rd w B) (hy:y.rd w' B') (hz:x.sz):y.sz:=by
 refine ⟨by rw [← h.nm];exact hz.nm,by rw [hy.sets.1,← h.lenS,← hx.sets.1];exact hz.sets,fun z hm=>?_,by rw [FS.len_eq hx.grants.1 hy.grants.1 h.grants];exact hz.grants,by rw [← h.grants];exact hz.eachG,by rw [hy.stages.1,← h.lenT,← hx.stages.1];exact hz.stages,fun z hm=>?_,by rw [FS.len_eq hx.log.1 hy.log.1 h.log];exact hz.log,by rw [← h.log];exact hz.eachL⟩
 ·obtain ⟨i,hi,rfl⟩:=List.getElem_of_mem hm
  have hi':i<x.sets.l.length:=by rw [h.lenS];exact hi
  exact (h.eachS i hi' hi).size (hx.eachS _ (List.getElem_mem hi')) (hy.eachS _ hm) (hz.eachS _ (List.getElem_mem hi'))
 ·obtain ⟨i,hi,rfl⟩:=List.getElem_of_mem hm
  have hi':i<x.stages.l.length:=by rw [h.lenT];exact hi
  exact (h.eachT i hi' hi).size (hx.eachG _ (List.getElem_mem hi')) (hy.eachG _ hm) (hz.eachT _ (List.getElem_mem hi'))
theorem SnapR.rd.more {x:SnapR} {w:World} {B B':Nat} (h:x.rd w B) (hb:B≤B'):x.rd w B':=⟨h.body.more hb,h.tags.more hb,h.own.more hb⟩
theorem SetR.rd.more {x:SetR} {w:World} {B B':Nat} (h:x.rd w B) (hb:B≤B'):x.rd w B':=⟨h.body.more hb,h.snaps.more hb,fun y hy=>(h.each y hy).more hb,h.own.more hb⟩
theorem TenR.rd.more {x:TenR} {w:World} {B B':Nat} (h:x.rd w B) (hb:B≤B'):x.rd w B':=⟨h.sets.more hb,fun y hy=>(h.eachS y hy).more hb,h.grants.more hb,h.stages.more hb,fun y hy=>⟨(h.eachG y hy).own.more hb,(h.eachG y hy).body.more hb⟩,h.log.more hb⟩
end Go.Proofs.YtiojfffgiejibaaGreatDoor
namespace Go.Proofs.YtiojfffgiejibaaGreatDoor
open Go.RowKit
section
variable {ops:Array Oper}
theorem reach_closed {m:Nat→Option Value} (hcl:ClosedM ops m) {S:Nat} (hS:(m S).isSome=true):∀ i∈reachL ops ops.size (depsOf ops S),(m i).isSome=true:=by
 refine reach_some hcl ops.size _ (fun k hk=>?_)
 unfold depsOf at hk
 cases ho:ops[S]? with
 | none=>rw [ho] at hk;cases hk
 | some o =>
  rw [ho] at hk
  obtain ⟨e,he,rfl⟩:=List.mem_map.1 hk
  obtain ⟨he,hbi⟩:=List.mem_filter.1 he
  exact hcl S o ho hS e (Array.mem_toList_iff.1 he) hbi
theorem early2 {S L:Nat} {late:List Nat} (h:((List.range ops.size).all fun j=>j == S || (j == L || (late.contains j || (reachL ops ops.size (depsOf ops S)).contains j)))=true) :
  ∀ i,i<ops.size→i≠S→i≠L→i ∉ late→∀ m,ClosedM ops m→(m S).isSome=true→(m i).isSome=true:=by
 intro i hi h1 h2 h3 m hcl hS
 have h4:=List.all_eq_true.1 h i (List.mem_range.2 hi)
 simp only [Bool.or_eq_true,beq_iff_eq,List.contains_iff_mem] at h4
 rcases h4 with h4 | h4 | h4 | h4
 ·exact absurd h4 h1
 ·exact absurd h4 h2
 ·exact absurd h4 h3
 ·exact reach_closed hcl hS i h4
end
/-- what lies in the slot of an operation that a late one waits for -/
theorem eL {o:Oper} {Gs:List (Value→World→Prop)} {W:World} {ops:Array Oper} {a0 A:Act} {m:Nat→Option Value} {val:Value} {S:Nat}
  (hd:∀ e∈o.after,Region.binds .any e=true→e.on≠S→∃ v,m e.on=some v∧Says Gs e.on v W) (hA:A=frameM a0 ops m) (j k:Nat)
  (hm:(o.after.any fun e=>Region.binds .any e && e.on == j)=true:=by kernel_rfl)
  (hp:∀ v,Says Gs j v W→v=val:=by exact fun _ h=>h) (hne:j≠S:=by decide) (hw:ownerOf ops k=some j:=by kernel_rfl) (hk:k<a0.tmps.size:=by exact of_decide_eq_true tZ2):A.tmps[k]?.getD undef=val:=by
 obtain ⟨i,hi,hm⟩:=Array.any_eq_true.1 hm
 obtain ⟨e,he⟩:∃ e,e=o.after[i]:=⟨_,rfl⟩
 rw [← he] at hm
 have he:e∈o.after:=tZ139
 have hb:Region.binds .any e=true:=by cases h:Region.binds .any e <;> simp [h] at hm ⊢
 obtain rfl:e.on=j:=by simpa [hb] using hm
 obtain ⟨v,h1,h2⟩:=hd e he hb hne
 rw [hA]
 exact tmps_own hw (h1.trans (congrArg some (hp v h2))) hk
/-- the end of a late step of one value -/
theorem zL {p:Prop} (h:p:=by
 try clear hdeps
 try clear hcl
 try clear hmi
 have hK0:=hK _ (fun _=>Eq.refl _)
 clear hA hK
 go_simp
 exact hK0):p:=h
end Go.Proofs.YtiojfffgiejibaaGreatDoor
namespace Go.Proofs.YtiojfffgiejibaaGreatDoor
open Go.RowKit
/-- what lies in the slot of an operation that has come up -/
theorem tO {ops:Array Oper} {a0 A:Act} {m:Nat→Option Value} {k i:Nat} {v:Value} (hA:A=frameM a0 ops m) (hv:m i=some v) (hw:ownerOf ops k=some i:=by kernel_rfl) (hk:k<a0.tmps.size:=by exact of_decide_eq_true tZ2):A.tmps[k]?.getD undef=v:=by
 rw [hA]
 exact tmps_own hw hv hk
/-- what lies in a slot of no operation's -/
theorem tF {ops:Array Oper} {a0 A:Act} {m:Nat→Option Value} {k:Nat} {v:Value} (hA:A=frameM a0 ops m) (hw:ownerOf ops k=none:=by kernel_rfl) (hv:a0.tmps[k]?.getD undef=v:=by rfl):A.tmps[k]?.getD undef=v:=by
 rw [hA,← hv]
 exact tmps_free hw
/-- an operation whose value is said -/
theorem dV {m:Nat→Option Value} {j:Nat} {p:Value→Prop} {val:Value} (h:∃ v,m j=some v∧p v) (hp:∀ v,p v→v=val:=by exact fun _ h=>h):m j=some val:=by
 obtain ⟨v,h1,h2⟩:=h
 rw [h1,hp v h2]
/-- what lies in the slot of an operation that this one waits for -/
theorem eD {o:Oper} {Gs:List (Value→World→Prop)} {W:World} {ops:Array Oper} {a0 A:Act} {m:Nat→Option Value} {val:Value}
  (hd:∀ e∈o.after,Region.binds .any e=true→∃ v,m e.on=some v∧Says Gs e.on v W) (hA:A=frameM a0 ops m) (j k:Nat)
  (hm:(o.after.any fun e=>Region.binds .any e && e.on == j)=true:=by kernel_rfl)
  (hp:∀ v,Says Gs j v W→v=val:=by exact fun _ h=>h) (hw:ownerOf ops k=some j:=by kernel_rfl) (hk:k<a0.tmps.size:=by exact of_decide_eq_true tZ2):A.tmps[k]?.getD undef=val:=by
 obtain ⟨i,hi,hm⟩:=Array.any_eq_true.1 hm
 obtain ⟨e,he⟩:∃ e,e=o.after[i]:=⟨_,rfl⟩
 rw [← he] at hm
 have he:e∈o.after:=tZ139
 have hb:Region.binds .any e=true:=by cases h:Region.binds .any e <;> simp [h] at hm ⊢
 obtain rfl:e.on=j:=by simpa [hb] using hm
 obtain ⟨v,h1,h2⟩:=hd e he hb
 rw [hA]
 exact tmps_own hw (h1.trans (congrArg some (hp v h2))) hk
/-- the end of a step of one value -/
theorem zP {p:Prop} (h:p:=by
 try clear hdeps
 try clear hcl
 try clear hmi
 have hK0:=hK _ _ (Below.refl _ _) (Eq.refl _)
 clear hA hK
 go_simp
 exact hK0):p:=h
end Go.Proofs.YtiojfffgiejibaaGreatDoor
namespace Go.Proofs.YtiojfffgiejibaaGreatDoor
open Go.RowKit
/-- none of a tenant's rows is of this type -/
def offT (T:TypeId):Prop:=97≠T∧9≠T∧100≠T∧58≠T∧56≠T∧104≠T∧77≠T∧106≠T
theorem offT_ten:offT 27:=by unfold offT;decide
section
variable {w w':World} {base g:Nat} {cs:Array Value} {T:TypeId}
theorem SnapO.keptT {x:SnapR} (h:SnapO w base x) (hg:w.grownBy w' (some g)) (hb:Blk w g T cs) (hT:offT T):SnapO w' base x :=
 ⟨h.body.keptT hg hb hT.1,h.tags.keptT hg hb hT.2.1,h.own.keptT hg hb hT.2.2.1⟩
theorem SetO.keptT {x:SetR} (h:SetO w base x) (hg:w.grownBy w' (some g)) (hb:Blk w g T cs) (hT:offT T):SetO w' base x :=
 ⟨h.body.keptT hg hb hT.1,h.snaps.keptT hg hb hT.2.2.2.1,fun y hy=>(h.each y hy).keptT hg hb hT,h.own.keptT hg hb hT.2.2.1⟩
theorem StageO.keptT {x:StageR} (h:StageO w base x) (hg:w.grownBy w' (some g)) (hb:Blk w g T cs) (hT:offT T):StageO w' base x :=
 ⟨h.own.keptT hg hb hT.2.2.1,h.body.keptT hg hb hT.1⟩
theorem TenO.keptT {t:TenR} (h:TenO w base t) (hg:w.grownBy w' (some g)) (hb:Blk w g T cs) (hT:offT T):TenO w' base t :=
 ⟨h.sets.keptT hg hb hT.2.2.2.2.1,fun y hy=>(h.eachS y hy).keptT hg hb hT,h.grants.keptT hg hb hT.2.2.2.2.2.1,h.stages.keptT hg hb hT.2.2.2.2.2.2.1,fun y hy=>(h.eachG y hy).keptT hg hb hT,h.log.keptT hg hb hT.2.2.2.2.2.2.2⟩
end
end Go.Proofs.YtiojfffgiejibaaGreatDoor
