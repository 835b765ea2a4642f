/-
  A region that draws its order, by an invariant: each operation is looked at once, whatever the order. The shelf's words of a text's parts, in the words of the plain law.
-/
import Derived.Orders
import Derived.WalkKit
import Derived.WalkSpells
import Derived.Below
import Derived.Laws.OwnMore
import Derived.Deep.AppendLies
import Derived.Deep.Draws
import Derived.Laws.Rows
import Derived.Maps.AppendAt
import Derived.RegionTactic
import Derived.OwnWalk
import Derived.Deep.QuietTactic
import Derived.BigQuiet
import Derived.Lib.Hide
import Derived.Laws.CopyOwn
import Derived.IntWalk
import Derived.Lib.SplitLaws
import Derived.Lib.LastIndexByte
import Derived.Lib.Strings
import Derived.Test.YtcgclpcocdappaaDoorP0
import Derived.Test.YtcgclpcocdappaaDoorPa1
import Derived.Test.YtcgclpcocdappaaDoorPa2
namespace Go.Proofs.YtcgclpcocdappaaDoor
open Go.RowKit
section
variable {P:Program} {ops:Array Oper}
/-- which operation writes slot k -/
def ownerOf (ops:Array Oper) (k:Nat):Option Nat:=(List.range ops.size).find? fun i=>(ops[i]?.bind (·.dst)) == some k
/-- no two operations write one slot, all slots are there, each waits for earlier ones alone -/
def regionOk (ops:Array Oper) (n:Nat):Bool :=
 (List.range ops.size).all fun i=>match ops[i]? with
  | some o=>(match o.dst with | some d=>decide (ownerOf ops d=some i) && decide (d<n) | none=>true) && o.after.all fun e=>!(Region.binds .any e) || decide (e.on<i)
  | none=>true
def upd (m:Nat→Option Value) (i:Nat) (v:Value):Nat→Option Value:=fun j=>if j=i then some v else m j
theorem upd_self (m:Nat→Option Value) (i:Nat) (v:Value):upd m i v i=some v:=by simp [upd]
theorem upd_ne (m:Nat→Option Value) {i j:Nat} (v:Value) (h:j≠i):upd m i v j=m j:=by simp [upd,h]
/-- the frame when the operations that m knows have come up -/
def frameM (a0:Act) (ops:Array Oper) (m:Nat→Option Value):Act :=
 { tmps:=a0.tmps.mapIdx fun k x=>match ownerOf ops k with | some i=>(m i).getD x | none=>x,defers:=a0.defers }
theorem ownerOf_spec {k i:Nat} (h:ownerOf ops k=some i):∃ o,ops[i]?=some o∧o.dst=some k:=by
 unfold ownerOf at h
 have:=List.find?_some h
 simp only [beq_iff_eq] at this
 cases ho:ops[i]? with
 | none=>rw [ho] at this;cases this
 | some o=>rw [ho] at this;exact ⟨o,rfl,this⟩
theorem regionOk_spec {n:Nat} (h:regionOk ops n=true) {i:Nat} {o:Oper} (ho:ops[i]?=some o):(∀ d,o.dst=some d→ownerOf ops d=some i∧d<n)∧∀ e∈o.after,Region.binds .any e=true→e.on<i:=by
 have hi:i<ops.size:=(Array.getElem?_eq_some_iff.1 ho).1
 have:=List.all_eq_true.1 h i (List.mem_range.2 hi)
 rw [ho] at this
 simp only [Bool.and_eq_true,Array.all_eq_true_iff_forall_mem,Bool.or_eq_true,Bool.not_eq_true',decide_eq_true_eq] at this
 refine ⟨fun d hd=>?_,fun e he hb=>?_⟩
 ·have h1:=this.1
  rw [hd] at h1
  simpa using h1
 ·rcases this.2 e he with h | h
  ·rw [hb] at h;cases h
  ·exact h
theorem frameM_put {a0:Act} {m:Nat→Option Value} (h:regionOk ops a0.tmps.size=true) {i:Nat} {o:Oper} (ho:ops[i]?=some o) (v:Value) :
  (frameM a0 ops m).put o.dst v=frameM a0 ops (upd m i v):=by
 obtain ⟨h1,_⟩:=regionOk_spec h ho
 cases hd:o.dst with
 | none =>
  unfold Act.put frameM
  simp only [Act.mk.injEq,and_true]
  apply Array.ext
  ·simp
  ·intro k hk1 hk2
   simp only [Array.getElem_mapIdx]
   cases hw:ownerOf ops k with
   | none=>rfl
   | some j =>
    obtain ⟨o',ho',hd'⟩:=ownerOf_spec hw
    have hji:j≠i:=by rintro rfl;rw [ho] at ho';cases ho';rw [hd] at hd';cases hd'
    simp only [upd_ne m v hji]
 | some d =>
  obtain ⟨hw,hlt⟩:=h1 d hd
  unfold Act.put frameM
  simp only [Act.mk.injEq,and_true]
  apply Array.ext
  ·simp
  ·intro k hk1 hk2
   by_cases hkd:d=k
   ·subst hkd
    simp [hw,upd_self]
   ·rw [Array.getElem_setIfInBounds_ne (by simpa using hk1) hkd]
    simp only [Array.getElem_mapIdx]
    cases hw':ownerOf ops k with
    | none=>rfl
    | some j =>
     have hji:j≠i:=by
      rintro rfl
      obtain ⟨o',ho',hd'⟩:=ownerOf_spec hw'
      rw [ho] at ho';cases ho';rw [hd] at hd';cases hd';exact hkd rfl
     simp only [upd_ne m v hji]
theorem frameM_none (a0:Act):frameM a0 ops (fun _=>none)=a0:=by
 cases a0 with
 | mk tmps defers =>
  unfold frameM
  simp only [Act.mk.injEq,and_true]
  apply Array.ext
  ·simp
  ·intro k hk1 hk2
   simp only [Array.getElem_mapIdx]
   cases ownerOf ops k <;> rfl
theorem eval_own {a0:Act} {m:Nat→Option Value} {k i:Nat} {v:Value} (hw:ownerOf ops k=some i) (hv:m i=some v) (hk:k<a0.tmps.size):(frameM a0 ops m).eval (.tmp k)=v:=by
 simp [Act.eval,frameM,hk,hw,hv]
theorem eval_free {a0:Act} {m:Nat→Option Value} {k:Nat} (hw:ownerOf ops k=none):(frameM a0 ops m).eval (.tmp k)=a0.eval (.tmp k):=by
 by_cases hk:k<a0.tmps.size
 ·simp [Act.eval,frameM,hk,hw]
 ·simp [Act.eval,frameM,hk]
theorem tmps_own {a0:Act} {m:Nat→Option Value} {k i:Nat} {v:Value} (hw:ownerOf ops k=some i) (hv:m i=some v) (hk:k<a0.tmps.size):(frameM a0 ops m).tmps[k]?.getD undef=v:=by
 simp [frameM,hk,hw,hv]
theorem tmps_free {a0:Act} {m:Nat→Option Value} {k:Nat} (hw:ownerOf ops k=none):(frameM a0 ops m).tmps[k]?.getD undef=a0.tmps[k]?.getD undef:=by
 by_cases hk:k<a0.tmps.size
 ·simp [frameM,hk,hw]
 ·simp [frameM,hk]
theorem wp_region_inv {id:Nat} {a0:Act} {w:World} {Q:Exit→Act→World→Prop} (hm:P.follows .mixedOrders=true) (hok:regionOk ops a0.tmps.size=true) (J:(Nat→Option Value)→World→Prop)
  (h0:J (fun _=>none) w.drew)
  (hstep:∀ i o,ops[i]?=some o→∀ m w,J m w→m i=none→(∀ e∈o.after,Region.binds .any e=true→(m e.on).isSome=true) → 
   ∀ (A:Act) (K:Act→World→Prop),A=frameM a0 ops m→(∀ v w',J (upd m i v) w'→K (A.put o.dst v) w')→if Region.wanted o (yielded ops A.tmps)=true then o.wp P A w K Q else K (A.put o.dst undef) w)
  (hend:∀ m w,J m w→(∀ i,i<ops.size→(m i).isSome=true)→Q .normal (frameM a0 ops m) w) :
  (Code.region id ops true).wp P Q a0 w:=by
 refine wp_region_any hm ?_
 have key:∀ (fuel:Nat) (listed:Array Bool) (m:Nat→Option Value) (w:World),J m w→listed.size=ops.size→(∀ i,i<ops.size→listed.getD i true=(m i).isSome) →
   ((List.range ops.size).filter fun i=>(m i).isNone).length≤fuel→wpAny P .any ops Q fuel listed (frameM a0 ops m) w:=by
  intro fuel
  induction fuel with
  | zero =>
   intro listed m w hJ hsz hl hc
   have hall:∀ i,i<ops.size→(m i).isSome=true:=by
    intro i hi
    have he:(List.range ops.size).filter (fun i=>(m i).isNone)=[]:=List.eq_nil_of_length_eq_zero (by omega)
    have:=List.filter_eq_nil_iff.1 he i (List.mem_range.2 hi)
    cases hmi:m i with
    | none=>rw [hmi] at this;exact absurd rfl this
    | some _=>rfl
   refine ⟨?_,hend m w hJ hall⟩
   apply List.eq_nil_iff_forall_not_mem.2
   intro j hj
   obtain ⟨hu,o,ho,_⟩:=mem_ready.1 hj
   have hjs:j<ops.size:=(Array.getElem?_eq_some_iff.1 ho).1
   rw [hl j hjs,hall j hjs] at hu
   cases hu
  | succ fuel ih =>
   intro listed m w hJ hsz hl hc
   refine ⟨fun hr=>hend m w hJ ?_,fun i hi=>?_⟩
   ·-- nothing is ready: all have come up
    intro i
    induction i using Nat.strongRecOn with
    | ind i ihi =>
     intro hi
     cases hmi:m i with
     | some _=>rfl
     | none =>
      exfalso
      have ho:ops[i]?=some ops[i]:=Array.getElem?_eq_getElem hi
      have:i∈Region.ready .any ops listed:=by
       refine mem_ready.2 ⟨by rw [hl i hi,hmi];rfl,ops[i],ho,fun e he hb=>?_⟩
       have hlt:=(regionOk_spec hok ho).2 e he hb
       have h2:=ihi e.on hlt (by omega)
       have h3:=hl e.on (by omega)
       rw [h2] at h3
       have h4:e.on<listed.size:=by omega
       simp [Array.getD,h4] at h3 ⊢
       exact h3
      rw [hr] at this
      cases this
   ·obtain ⟨hu,o,ho,hdeps⟩:=mem_ready.1 hi
    have his:i<ops.size:=(Array.getElem?_eq_some_iff.1 ho).1
    have hmi:m i=none:=by
     rw [hl i his] at hu
     cases hmi:m i with
     | none=>rfl
     | some _=>rw [hmi] at hu;cases hu
    have hs:=hstep i o ho m w hJ hmi (fun e he hb=>by
     have h1:=hdeps e he hb
     have hlt:=(regionOk_spec hok ho).2 e he hb
     have h2:=hl e.on (by omega)
     have h4:e.on<listed.size:=by omega
     simp [Array.getD,h4] at h1 h2
     rw [← h2];exact h1)
    have next:∀ v w',J (upd m i v) w'→wpAny P .any ops Q fuel (listed.setIfInBounds i true) ((frameM a0 ops m).put o.dst v) w':=by
     intro v w' hJ'
     rw [frameM_put hok ho]
     refine ih _ _ _ hJ' (by simpa using hsz) ?_ ?_
     ·intro j hj
      by_cases hji:j=i
      ·subst hji
       simp [upd_self,Array.getD,hsz,hj]
      ·rw [upd_ne m v hji,← hl j hj]
       exact getD_set_ne true (fun h=>hji h.symm)
     ·have hlt:((List.range ops.size).filter fun j=>(upd m i v j).isNone).length<((List.range ops.size).filter fun j=>(m j).isNone).length:=by
       have hsub:(List.range ops.size).filter (fun j=>(upd m i v j).isNone)=((List.range ops.size).filter fun j=>(m j).isNone).filter fun j=>decide (j≠i):=by
        rw [List.filter_filter]
        apply List.filter_congr
        intro j _
        by_cases hji:j=i
        ·subst hji;simp [upd_self]
        ·simp [upd_ne m v hji,hji]
       rw [hsub]
       exact List.length_filter_lt_length_iff_exists.2 ⟨i,List.mem_filter.2 ⟨List.mem_range.2 his,by rw [hmi];rfl⟩,by simp⟩
      omega
    unfold wpOp
    rw [ho]
    show if Region.wanted o (yielded ops (frameM a0 ops m).tmps)=true then _ else _
    have hs':=hs (frameM a0 ops m) (wpAny P .any ops Q fuel (listed.setIfInBounds i true)) rfl (fun v w' h=>next v w' h)
    by_cases hw:Region.wanted o (yielded ops (frameM a0 ops m).tmps)=true
    ·rw [if_pos hw] at hs' ⊢
     exact .inl hs'
    ·rw [if_neg hw] at hs' ⊢
     exact hs'
 have h:=key ops.size (Array.replicate ops.size false) (fun _=>none) w.drew h0 (by simp) (fun i hi=>by simp [Array.getD,hi]) (Nat.le_trans (List.length_filter_le _ _) (by simp))
 rw [frameM_none] at h
 exact h
/-! ### Values that are determined -/
def Det (val:Nat→Option Value) (m:Nat→Option Value):Prop:=∀ i v x,val i=some x→m i=some v→v=x
theorem Det.start (val:Nat→Option Value):Det val (fun _=>none):=fun _ _ _ _ h=>by cases h
theorem Det.up {val m:Nat→Option Value} (h:Det val m) {i:Nat} {v:Value} (hv:∀ x,val i=some x→v=x):Det val (upd m i v):=by
 intro j u x hx hu
 by_cases hj:j=i
 ·subst hj
  rw [upd_self] at hu
  cases hu
  exact hv x hx
 ·rw [upd_ne m v hj] at hu
  exact h j u x hx hu
theorem Det.get {val m:Nat→Option Value} (h:Det val m) {i:Nat} {x:Value} (hx:val i=some x) (hs:(m i).isSome=true):m i=some x:=by
 cases hm:m i with
 | none=>rw [hm] at hs;cases hs
 | some v=>rw [h i v x hx hm]
/-! ### The frame behind the region, written out -/
def putAll:Act→List Oper→List Value→Act
 | a,o :: os,v :: vs=>putAll (a.put o.dst v) os vs
 | a,_,_=>a
theorem frameM_congr {a0:Act} {m m':Nat→Option Value} (h:∀ i,i<ops.size→m i=m' i):frameM a0 ops m=frameM a0 ops m':=by
 unfold frameM
 simp only [Act.mk.injEq,and_true]
 apply Array.ext
 ·simp
 ·intro k hk1 hk2
  simp only [Array.getElem_mapIdx]
  cases hw:ownerOf ops k with
  | none=>rfl
  | some j =>
   obtain ⟨o,ho,_⟩:=ownerOf_spec hw
   simp only [h j (Array.getElem?_eq_some_iff.1 ho).1]
theorem putAll_frame {a0:Act} (hok:regionOk ops a0.tmps.size=true):∀ (os:List Oper) (vs:List Value) (k:Nat) (m:Nat→Option Value),(∀ j,os[j]?=ops[k+j]?)→os.length=vs.length →
  putAll (frameM a0 ops m) os vs=frameM a0 ops (fun i=>if k≤i∧i<k+vs.length then vs[i-k]? else m i):=by
 intro os
 induction os with
 | nil =>
  intro vs k m _ hl
  have:vs=[]:=List.eq_nil_of_length_eq_zero hl.symm
  subst this
  show frameM a0 ops m=_
  congr 1
  funext i
  rw [if_neg (by simp)]
 | cons o os ih =>
  intro vs k m ho hl
  match vs,hl with
  | v :: vs,hl =>
   have h0:ops[k]?=some o:=by simpa using (ho 0).symm
   show putAll ((frameM a0 ops m).put o.dst v) os vs=_
   rw [frameM_put hok h0,ih vs (k+1) _ (fun j=>by have:=ho (j+1);simpa [Nat.add_assoc,Nat.add_comm 1 j] using this) (by simpa using hl)]
   congr 1
   funext i
   by_cases h1:i=k
   ·subst h1
    rw [if_neg (by omega),upd_self,if_pos ⟨Nat.le_refl _,by simp⟩]
    simp
   ·by_cases h2:k+1≤i∧i<k+1+vs.length
    ·rw [if_pos h2,if_pos ⟨by omega,by simp;omega⟩]
     obtain ⟨d,rfl⟩:∃ d,i=k+1+d:=⟨i-(k+1),by omega⟩
     rw [show k+1+d-(k+1)=d by omega,show k+1+d-k=d+1 by omega]
     rfl
    ·rw [if_neg h2,upd_ne m v h1,if_neg (by simp;omega)]
theorem frameM_all {a0:Act} {l:List Oper} (hok:regionOk l.toArray a0.tmps.size=true) {m:Nat→Option Value} (vs:List Value) (hl:l.length=vs.length) (h:∀ i,i<l.length→m i=vs[i]?) :
  frameM a0 l.toArray m=putAll a0 l vs:=by
 have:=putAll_frame (ops:=l.toArray) hok l vs 0 (fun _=>none) (fun j=>by simp) hl
 rw [frameM_none] at this
 rw [this]
 exact frameM_congr fun i hi=>by
  have hi':i<l.length:=by simpa using hi
  simp [h i hi',← hl,hi']
end
end Go.Proofs.YtcgclpcocdappaaDoor
namespace Go.Proofs.YtcgclpcocdappaaDoor
open Go.Lib
theorem index_none (c:UInt8) (s:List UInt8) (h:c ∉ s):index s [c]=-1:=by
 induction s with
 | nil=>rfl
 | cons b r ih =>
  have hb:([c].isPrefixOf (b :: r))=false:=by
   have:c≠b:=fun e=>h (by rw [e];exact List.mem_cons_self ..)
   simp [List.isPrefixOf,this]
  unfold index
  rw [hb,ih (fun e=>h (List.mem_cons_of_mem _ e))]
  rfl
theorem index_some (c:UInt8) (a r:List UInt8) (h:c ∉ a):index (a++c :: r) [c]=(a.length:Int):=by
 induction a with
 | nil=>simp [index,List.isPrefixOf]
 | cons b a ih =>
  have hb:([c].isPrefixOf (b :: (a++c :: r)))=false:=by
   have:c≠b:=fun e=>h (by rw [e];exact List.mem_cons_self ..)
   simp [List.isPrefixOf,this]
  rw [List.cons_append]
  unfold index
  rw [hb,ih (fun e=>h (List.mem_cons_of_mem _ e))]
  have:(((a.length:Nat):Int) == -1)=false:=by rw [beq_eq_false_iff_ne];omega
  simp [this]
/-- a text holds no c, or one first -/
theorem first_split (c:UInt8) (s:List UInt8):c ∉ s∨∃ a r,s=a++c :: r∧c ∉ a:=by
 induction s with
 | nil=>exact .inl (by simp)
 | cons b s ih =>
  by_cases hb:c=b
  ·exact .inr ⟨[],s,by simp [hb],by simp⟩
  ·rcases ih with h | ⟨a,r,rfl,h⟩
   ·exact .inl (by simp [hb,h])
   ·exact .inr ⟨b :: a,r,rfl,by simp [hb,h]⟩
theorem partsL_one (a:List UInt8) (h:47 ∉ a):partsL a=[a]:=by
 induction a with
 | nil=>rfl
 | cons b a ih =>
  unfold partsL
  rw [if_neg (fun e=>h (by rw [e];exact List.mem_cons_self ..)),ih (fun e=>h (List.mem_cons_of_mem _ e))]
theorem partsL_two (a r:List UInt8) (h:47 ∉ a):partsL (a++47 :: r)=a :: partsL r:=by
 induction a with
 | nil=>simp [partsL]
 | cons b a ih =>
  rw [List.cons_append,partsL,if_neg (fun e=>h (by rw [e];exact List.mem_cons_self ..)),ih (fun e=>h (List.mem_cons_of_mem _ e))]
theorem splitK_parts (n:Nat):∀ s:List UInt8,s.length≤n→splitK [47] 0 (count s [47]) s=partsL s:=by
 induction n with
 | zero =>
  intro s hs
  obtain rfl:=List.eq_nil_of_length_eq_zero (Nat.le_zero.1 hs)
  rfl
 | succ n ih =>
  intro s hs
  rcases first_split 47 s with h | ⟨a,r,rfl,h⟩
  ·rw [partsL_one s h,count_miss (index_none 47 s h)]
   rfl
  ·have hi:=index_some 47 a r h
   have hd:(a++47 :: r).drop (a.length+1)=r:=by
    rw [← List.drop_drop,List.drop_append_of_le_length (Nat.le_refl _)]
    simp
   have hc:=count_hit (s:=a++47 :: r) (sub:=[47]) (i:=a.length) (by simp) hi
   rw [partsL_two a r h,hc]
   rw [show ([47]:List UInt8).length=1 from rfl,hd,Nat.add_comm 1]
   have hm:(index (a++47 :: r) [47] == -1)=false:=by rw [hi,beq_eq_false_iff_ne];omega
   unfold splitK
   rw [hm,hi,if_neg (by simp)]
   simp only [Int.toNat_natCast,Nat.add_zero,List.length_singleton,hd]
   rw [List.take_left' rfl,ih r (by simp at hs;omega)]
theorem splitB_parts (s:ByteArray):(splitB ⟨#[47]⟩ 0 (countB s ⟨#[47]⟩) s).map (·.data.toList)=partsL s.data.toList:=by
 rw [splitB_data]
 exact splitK_parts _ _ (Nat.le_refl _)
theorem splitB_len (s:ByteArray):(splitB ⟨#[47]⟩ 0 (countB s ⟨#[47]⟩) s).length=countB s ⟨#[47]⟩+1:=splitB_all ⟨#[47]⟩ (Nat.le_refl _) 0 _ s rfl
theorem atL_none (s:List UInt8) (h:64 ∉ s):atL s=none:=by
 induction s with
 | nil=>rfl
 | cons b s ih =>
  unfold atL
  rw [if_neg (fun e=>h (by rw [e];exact List.mem_cons_self ..)),ih (fun e=>h (List.mem_cons_of_mem _ e))]
theorem cut_at (s:List UInt8):cut s [64]=match atL s with
  | some (p,n)=>(p,n,true)
  | none=>(s,[],false):=by
 rcases first_split 64 s with h | ⟨a,r,rfl,h⟩
 ·rw [atL_none s h]
  unfold cut
  rw [index_none 64 s h]
  rfl
 ·rw [atL_join a r (fun c hc e=>h (by rw [← e];exact hc))]
  unfold cut
  rw [index_some 64 a r h,if_pos (by omega)]
  have hd:(a++64 :: r).drop (a.length+1)=r:=by
   rw [← List.drop_drop,List.drop_append_of_le_length (Nat.le_refl _)]
   simp
  simp only [Int.toNat_natCast,List.length_singleton,hd]
  rw [List.take_left' rfl]
theorem lastS_spec (l:List UInt8):(lastS l=none∧47 ∉ l)∨∃ k,lastS l=some k∧l[k]?=some 47∧∀ j,k<j→l[j]?≠some 47:=by
 induction l with
 | nil=>exact .inl ⟨rfl,by simp⟩
 | cons b l ih =>
  unfold lastS
  rcases ih with ⟨h,hn⟩ | ⟨k,h,hk,hj⟩
  ·rw [h]
   by_cases hb:b=47
   ·refine .inr ⟨0,by simp [hb],by simp [hb],?_⟩
    intro j hj e
    obtain ⟨j,rfl⟩:∃ i,j=i+1:=⟨j-1,by omega⟩
    rw [zD] at e
    exact hn (List.mem_of_getElem? e)
   ·exact .inl ⟨by simp [hb],by simp [hn];exact fun e=>hb e.symm⟩
  ·rw [h]
   refine .inr ⟨k+1,rfl,by simpa using hk,?_⟩
   intro j hlt e
   obtain ⟨j,rfl⟩:∃ i,j=i+1:=⟨j-1,by omega⟩
   rw [zD] at e
   exact hj j (by omega) e
theorem data_get (s:ByteArray) (j:Nat) (hj:j<s.size):s.data.toList[j]?=some s.data[j]!:=by
 have h:j<s.data.size:=hj
 rw [getElem!_pos s.data j h,Array.getElem?_toList,Array.getElem?_eq_getElem h]
theorem last_eq (s:ByteArray):(max (Lib.lastIndexByte s 47) 0)=(((lastS s.data.toList).getD 0:Nat):Int):=by
 rcases Lib.lastIndexByte_spec s 47 with ⟨h,hn⟩ | ⟨i,hi,h,hc,hn⟩
 ·rw [h]
  rcases lastS_spec s.data.toList with ⟨h2,_⟩ | ⟨k,_,hk,_⟩
  ·rw [h2];rfl
  ·exfalso
   have hks:k<s.size:=(List.getElem?_eq_some_iff.1 hk).1
   rw [data_get s k hks] at hk
   exact hn k hks (by rw [Option.some.inj hk];rfl)
 ·rw [h]
  have h47:s.data[i]! = 47:=UInt8.toNat_inj.1 (by have e:(47:UInt8).toNat=47:=rfl;rw [e];omega)
  have hi2:s.data.toList[i]?=some 47:=by rw [data_get s i hi,h47]
  rcases lastS_spec s.data.toList with ⟨_,h3⟩ | ⟨k,h2,hk,hj⟩
  ·exact absurd (List.mem_of_getElem? hi2) h3
  ·rw [h2]
   have hks:k<s.size:=(List.getElem?_eq_some_iff.1 hk).1
   have hki:k=i:=by
    rcases Nat.lt_trichotomy k i with hl | he | hg
    ·exact absurd hi2 (hj i hl)
    ·exact he
    ·rw [data_get s k hks] at hk
     exact absurd (by rw [Option.some.inj hk];rfl) (hn k hg hks)
   subst hki
   simp
theorem last_bound (l:List UInt8):(lastS l).getD 0≤l.length:=by
 rcases lastS_spec l with ⟨h,_⟩ | ⟨k,h,hk,_⟩
 ·rw [h];simp
 ·rw [h]
  have:=(List.getElem?_eq_some_iff.1 hk).1
  simp only [Option.getD_some]
  omega
theorem trim_eq (l:List UInt8):Lib.trimSuffix l [47]=trimL l:=by
 unfold Lib.trimSuffix trimL
 by_cases h:l.getLast?=some 47
 ·rw [if_pos h]
  obtain ⟨r,rfl⟩:∃ r,l=r++[47]:=by
   rcases List.eq_nil_or_concat l with rfl | ⟨r,x,rfl⟩
   ·cases h
   ·simp at h;exact ⟨r,by simp [h]⟩
  rw [if_pos (by unfold Lib.hasSuffix;rw [List.isSuffixOf_iff_suffix];exact List.suffix_append _ _)]
  simp
 ·rw [if_neg h,if_neg]
  intro h2
  unfold Lib.hasSuffix at h2
  rw [List.isSuffixOf_iff_suffix] at h2
  obtain ⟨r,rfl⟩:=h2
  exact h (by simp)
end Go.Proofs.YtcgclpcocdappaaDoor
