/-
  A region that draws its order: calls that make memory, and stores of what they return into one box: each operation is looked at once. Rows that are written over, in themselves: what can be read of them stays good. slices.IndexFunc and ContainsFunc at texts (names.Path's). 'clear' of a piece of a row that is known whole. cmp.Compare at strings, by its contract. Drawn regions with guards: when an operation is wanted. A row of one's own of which one field of one element is stored: the element is another one, the rest stays. A region's class walk by steps that find their own kind: zX (arithmetic, or an operation that is not wanted), zY (a load), zN (a call by its contract). names.Name, names.Path. 'append' into a row that is known whole and has room. A drawn region whose operations read and make memory, and whose last one, behind all others, may do whatever it does. Grants: the plain law. slices.IndexFunc and slices.DeleteFunc at elements of 2 cells, by their contracts. A drawn region whose operations read and make memory, with one store at an operation S, behind which only operations stand that look at no memory.
-/
import Derived.Test.YtmladblmknbgnaaGreatDoorH0
import Derived.Test.YtmladblmknbgnaaGreatDoorH3
import Derived.Test.YtmladblmknbgnaaGreatDoorH2
import Derived.Deep.MidRow
import Derived.Handy
import Derived.Test.YtmladblmknbgnaaGreatDoorRows
import Derived.Test.YtmladblmknbgnaaGreatDoorH1
namespace Go.Proofs.YtmladblmknbgnaaGreatDoor
open Go.RowKit
/-- the box's cells: (the store, the field, whose value is stored) -/
def fld (old:List Value) (m:Nat→Option Value):List (Nat×Nat×Nat)→Nat→Option Value
 | [],f=>old[f]?
 | (s,g,c) :: r,f=>if f=g∧(m s).isSome=true then m c else fld old m r f
def Closed (ops:Array Oper) (m:Nat→Option Value):Prop:=∀ j o',ops[j]?=some o'→(m j).isSome=true→∀ e∈o'.after,Region.binds .any e=true→(m e.on).isSome=true
theorem fld_other (old:List Value) (m:Nat→Option Value) (i:Nat) (v:Value) (hi:m i=none) (sts:List (Nat×Nat×Nat)) (hs:∀ s∈sts,s.1≠i) (hc:∀ s∈sts,(m s.1).isSome=true→(m s.2.2).isSome=true) (f:Nat):fld old (upd m i v) sts f=fld old m sts f:=by
 induction sts with
 | nil=>rfl
 | cons x r ih =>
  obtain ⟨s,g,c⟩:=x
  have h1:s≠i:=hs _ List.mem_cons_self
  have h2:=hc _ List.mem_cons_self
  simp only [fld,upd_ne m v h1]
  by_cases hh:f=g∧(m s).isSome=true
  ·rw [if_pos hh,if_pos hh]
   have h3:=h2 hh.2
   refine upd_ne m v fun e=>?_
   simp only [e,hi] at h3
   cases h3
  ·rw [if_neg hh,if_neg hh]
   exact ih (fun s hs'=>hs s (List.mem_cons_of_mem _ hs')) (fun s hs'=>hc s (List.mem_cons_of_mem _ hs'))
theorem fld_store (old:List Value) (m:Nat→Option Value) {i f c:Nat} (hi:m i=none) (u:Value) (hu:m c=some u) (sts:List (Nat×Nat×Nat)) (hmem:(i,f,c)∈sts) (hn:(sts.map (·.1)).Nodup) (hf:(sts.map (·.2.1)).Nodup) (hc:∀ s∈sts,(m s.1).isSome=true→(m s.2.2).isSome=true) (g:Nat) :
  fld old (upd m i undef) sts g=if g=f then some u else fld old m sts g:=by
 have hci:c≠i:=fun e=>by rw [e,hi] at hu;cases hu
 induction sts with
 | nil=>cases hmem
 | cons x r ih =>
  obtain ⟨s,g',c'⟩:=x
  simp only [List.map_cons,List.nodup_cons] at hn hf
  have h2:=hc _ List.mem_cons_self
  have hcr:∀ s∈r,(m s.1).isSome=true→(m s.2.2).isSome=true:=fun s hs'=>hc s (List.mem_cons_of_mem _ hs')
  rcases List.mem_cons.1 hmem with e | hmem
  ·cases e
   simp only [fld,upd_self,Option.isSome_some,and_true]
   by_cases hg:g=f
   ·rw [if_pos hg,if_pos hg,upd_ne m undef hci,hu]
   ·rw [if_neg hg,if_neg hg,if_neg (fun h=>hg h.1)]
    exact fld_other old m i undef hi r (fun s hs e=>hn.1 (by rw [← e];exact List.mem_map_of_mem (f:=(·.1)) hs)) hcr g
  ·have hsi:s≠i:=fun e=>hn.1 (by rw [e];exact List.mem_map_of_mem (f:=(·.1)) hmem)
   have hgf:g'≠f:=fun e=>hf.1 (by rw [e];exact List.mem_map_of_mem (f:=(·.2.1)) hmem)
   simp only [fld,upd_ne m undef hsi]
   by_cases hh:g=g'∧(m s).isSome=true
   ·rw [if_pos hh,if_pos hh,if_neg (fun e=>hgf (hh.1.symm.trans e))]
    have h3:=h2 hh.2
    refine upd_ne m undef fun e=>?_
    simp only [e,hi] at h3
    cases h3
   ·rw [if_neg hh,if_neg hh]
    exact ih hmem hn.2 hf.2 hcr
section
variable {P:Program} {ops:Array Oper}
def StaysB (b:Nat) (p:Value→World→Prop):Prop:=∀ v W W',p v W→W.grownBy W' (some b)→p v W'
theorem StaysB.pure {b:Nat} {q:Value→Prop}:StaysB b (fun v _=>q v):=fun _ _ _ h _=>h
theorem staysB_nil {b:Nat}:∀ p∈([]:List (Value→World→Prop)),StaysB b p:=fun _ h=>by cases h
theorem staysB_cons {b:Nat} {p:Value→World→Prop} {l:List (Value→World→Prop)} (hp:StaysB b p) (hl:∀ q∈l,StaysB b q):∀ q∈p :: l,StaysB b q:=by
 intro q hq
 rcases List.mem_cons.1 hq with rfl | h
 ·exact hp
 ·exact hl q h
theorem grown_of_below {W W':World} {r:Option Nat} (h:Below W.heap.size W W'):W.grownBy W' r:=⟨h.os,h.tape,h.output,h.size,fun k hk _=>h.block k hk⟩
theorem grown_tr {a b c:World} {r:Option Nat} (h:a.grownBy b r) (k:b.grownBy c r):a.grownBy c r :=
 ⟨k.os.trans h.os,k.tape.trans h.tape,k.output.trans h.output,Nat.le_trans h.size k.size,fun x hx hr=>(k.block x (Nat.lt_of_lt_of_le hx h.size) hr).trans (h.block x hx hr)⟩
theorem grown_box (w:World) (g i:Nat) (u:Value):w.grownBy (w.setCell ⟨g,i,none⟩ u) (some g):=⟨rfl,rfl,rfl,by simp [World.setCell],fun k _ hne=>Below.heap_setCell w ⟨g,i,none⟩ u k (fun e=>hne (by rw [e]))⟩
def stsOk (ops:Array Oper) (sts:List (Nat×Nat×Nat)) (n:Nat):Bool :=
 decide (sts.map (·.1)).Nodup && decide (sts.map (·.2.1)).Nodup && sts.all fun s=>decide (s.2.1<n) && match ops[s.1]? with
  | some o=>o.after.any fun e=>Region.binds .any e && decide (e.on=s.2.2)
  | none=>false
theorem wp_region_box {id:Nat} {a0:Act} {w:World} {Q:Exit→Act→World→Prop} (hm:P.follows .mixedOrders=true) (hok:regionOk ops a0.tmps.size=true) (b:Nat) (T:TypeId) (old:List Value) (sts:List (Nat×Nat×Nat)) (hsts:stsOk ops sts old.length=true)
  (Gs:List (Value→World→Prop)) (hst:∀ p∈Gs,StaysB b p) (hblk:Blk w b T old.toArray)
  (hstep:∀ i o,ops[i]?=some o→∀ (m:Nat→Option Value) (W:World),w.grownBy W (some b)→m i=none→Closed ops m→(∀ e∈o.after,Region.binds .any e=true→∃ v,m e.on=some v∧Says Gs e.on v W)→(∀ f,W.cell? ⟨b,f,none⟩=fld old m sts f)→(∀ f,W.frozen? ⟨b,f,none⟩=false)→b<W.heap.size →
   ∀ (A:Act) (K:Act→World→Prop),A=frameM a0 ops m→(∀ v W',Below W.heap.size W W'→Says Gs i v W'→(∀ s∈sts,s.1≠i)→K (A.put o.dst v) W')→(∀ f c u,(i,f,c)∈sts→m c=some u→Says Gs i undef (W.setCell ⟨b,f,none⟩ u)→K (A.put o.dst undef) (W.setCell ⟨b,f,none⟩ u)) →
    if Region.wanted o (yielded ops A.tmps)=true then o.wp P A W K Q else K (A.put o.dst undef) W)
  (hend:∀ (m:Nat→Option Value) (W:World),w.grownBy W (some b)→(∀ i,i<ops.size→∃ v,m i=some v∧Says Gs i v W)→(∃ cs:List Value,cs.length=old.length∧Blk W b T cs.toArray∧∀ f,cs[f]?=fld old m sts f)→Q .normal (frameM a0 ops m) W) :
  (Code.region id ops true).wp P Q a0 w:=by
 simp only [stsOk,Bool.and_eq_true,decide_eq_true_eq] at hsts
 obtain ⟨⟨hn,hf⟩,hall⟩:=hsts
 have hsay:∀ i v W W',Says Gs i v W→W.grownBy W' (some b)→Says Gs i v W':=by
  intro i v W W' h hb
  unfold Says at h ⊢
  cases hG:Gs[i]? with
  | none=>trivial
  | some p=>rw [hG] at h;exact hst p (List.mem_of_getElem? hG) v W W' h hb
 have hcs:∀ m,Closed ops m→∀ s∈sts,(m s.1).isSome=true→(m s.2.2).isSome=true:=by
  intro m hcl s hs hd
  have h1:=List.all_eq_true.1 hall s hs
  simp only [Bool.and_eq_true] at h1
  cases ho:ops[s.1]? with
  | none=>rw [ho] at h1;exact absurd h1.2 (by simp)
  | some o =>
   rw [ho] at h1
   obtain ⟨e,he,h2⟩:=Array.any_eq_true'.1 h1.2
   simp only [Bool.and_eq_true,decide_eq_true_eq] at h2
   rw [← h2.2]
   exact hcl _ _ ho hd e he h2.1
 refine wp_region_inv hm hok (fun m W=>w.grownBy W (some b)∧(∀ i v,m i=some v→Says Gs i v W)∧Closed ops m∧∃ cs:List Value,cs.length=old.length∧Blk W b T cs.toArray∧∀ f,cs[f]?=fld old m sts f) ⟨⟨rfl,rfl,rfl,Nat.le_refl _,fun _ _ _=>rfl⟩,fun _ _ h=>(by cases h),fun _ _ _ h=>(by cases h),old,rfl,hblk.drew,fun f=>?_⟩ ?_ ?_
 ·clear hn hf hall hcs hst hstep hend
  induction sts with
  | nil=>rfl
  | cons x r ih=>obtain ⟨s,g,c⟩:=x;simp only [fld,Option.isSome_none,Bool.false_eq_true,and_false,if_false];exact ih
 ·intro i o ho m W hJ hmi hdeps A K hA hK
  obtain ⟨hgr,hsy,hcl,cs,hcl2,hbk,hcf⟩:=hJ
  have hcl':∀ v,Closed ops (upd m i v):=by
   intro v j o' ho' hj e he hbi
   by_cases hei:e.on=i
   ·rw [hei,upd_self];rfl
   ·rw [upd_ne m v hei]
    by_cases hji:j=i
    ·subst hji
     rw [ho] at ho'
     cases ho'
     exact hdeps e he hbi
    ·rw [upd_ne m v hji] at hj
     exact hcl j o' ho' hj e he hbi
  have hsu:∀ v W',W.grownBy W' (some b)→Says Gs i v W'→∀ j u,upd m i v j=some u→Says Gs j u W':=by
   intro v W' hb hS j u hu
   by_cases hj:j=i
   ·subst hj
    rw [upd_self] at hu
    cases hu
    exact hS
   ·rw [upd_ne m v hj] at hu
    exact hsay j u W W' (hsy j u hu) hb
  refine hstep i o ho m W hgr hmi hcl (fun e he hb=>?_) (fun f=>by rw [hbk.cell f,zF];exact hcf f) (fun f=>hbk.frozen f) hbk.lt A K hA (fun v W' hb hS hns=>hK v W' ⟨grown_tr hgr (grown_of_below hb),hsu v W' (grown_of_below hb) hS,hcl' v,cs,hcl2,hbk.below hb hbk.lt,fun f=>?_⟩) (fun f c u hmem hu hS=>hK undef _ ⟨grown_tr hgr (grown_box W b f u),hsu undef _ (grown_box W b f u) hS,hcl' undef,cs.set f u,by rw [List.length_set];exact hcl2,?_,fun g=>?_⟩)
  ·have:=hdeps e he hb
   cases hme:m e.on with
   | none=>rw [hme] at this;cases this
   | some v=>exact ⟨v,rfl,hsy _ _ hme⟩
  ·rw [hcf f]
   exact (fld_other old m i v hmi sts hns (hcs m hcl) f).symm
  ·have:=hbk.set_ f u
   have e:cs.toArray.setIfInBounds f u=(cs.set f u).toArray:=by simp
   rw [e] at this
   exact this
  ·rw [fld_store old m hmi u hu sts hmem hn hf (hcs m hcl) g]
   have h1:=List.all_eq_true.1 hall _ hmem
   simp only [Bool.and_eq_true,decide_eq_true_eq] at h1
   by_cases hg:g=f
   ·subst hg
    rw [if_pos rfl,List.getElem?_set,if_pos rfl,if_pos (by rw [hcl2];exact h1.1)]
   ·rw [if_neg hg,List.getElem?_set,if_neg (fun e=>hg e.symm)]
    exact hcf g
 ·intro m W hJ hall
  refine hend m W hJ.1 (fun i hi=>?_) hJ.2.2.2
  have:=hall i hi
  cases hmi:m i with
  | none=>rw [hmi] at this;cases this
  | some v=>exact ⟨v,rfl,hJ.2.1 _ _ hmi⟩
end
end Go.Proofs.YtmladblmknbgnaaGreatDoor
namespace Go.Proofs.YtmladblmknbgnaaGreatDoor
open Go.RowKit
def setL (xs:List Value):Nat→List Value→List Value
 | _,[]=>xs
 | o,u :: r=>setL (xs.set o u) (o+1) r
theorem grown_trans {a b c:World} {r:Option Nat} (h:a.grownBy b r) (k:b.grownBy c r):a.grownBy c r :=
 ⟨k.os.trans h.os,k.tape.trans h.tape,k.output.trans h.output,Nat.le_trans h.size k.size,fun x hx hr=>(k.block x (Nat.lt_of_lt_of_le hx h.size) hr).trans (h.block x hx hr)⟩
theorem stored_all {base size n cap g:Nat} {e:TypeId} (cs:List Value):∀ (w:World) (xs:List Value) (o:Nat),w.ownsRow base e size (.slice (some ⟨g,0,none⟩) n cap) n xs →
  (w.setCells g o cs).ownsRow base e size (.slice (some ⟨g,0,none⟩) n cap) n (setL xs o cs)∧w.grownBy (w.setCells g o cs) (some g):=by
 induction cs with
 | nil=>intro w xs o h;exact ⟨h,rfl,rfl,rfl,Nat.le_refl _,fun _ _ _=>rfl⟩
 | cons u r ih =>
  intro w xs o h
  obtain ⟨h1,h2⟩:=h.stored o u
  obtain ⟨h3,h4⟩:=ih _ _ (o+1) h1
  exact ⟨h3,grown_trans h2 h4⟩
/-- a row of lo ..< hi -/
def RowW (w:World) (lo hi:Nat) (T:TypeId) (k:Nat) (v:Value) (n:Nat) (xs:List Value):Prop:=w.ownsRow lo T k v n xs∧∀ g,v.ownBlock=some g→g<hi
def RowX (w:World) (lo hi:Nat) (T:TypeId) (k:Nat) (v:Value):Prop:=∃ n xs,RowW w lo hi T k v n xs
theorem RowX.nil (w:World) (lo hi:Nat) (T:TypeId) (k:Nat):RowX w lo hi T k (.slice none 0 0):=⟨0,[],World.ownsRow_nil _ _ _ _,fun g h=>by simp [Value.ownBlock] at h⟩
section
variable {w w':World} {lo hi base size n cap g:Nat} {e:TypeId} {xs:List Value}
theorem RowW.kept {T:TypeId} {k m:Nat} {v:Value} {ys:List Value} (h:RowW w lo hi T k v m ys) (hg:w.grownBy w' (some g)) (hne:v.ownBlock≠some g):RowW w' lo hi T k v m ys:=⟨h.1.kept hg (.inr hne),h.2⟩
theorem own_blk {T:TypeId} {k m c:Nat} {ys:List Value} (h:w.ownsRow lo T k (.slice (some ⟨g,0,none⟩) m c) m ys):∃ cur,Blk w g T cur:=by
 rcases h.2 with ⟨h0,_⟩ | ⟨g',cap',cur,hv,_,hg,_⟩
 ·cases h0
 ·cases hv
  exact ⟨cur,hg⟩
/-- a row is as it was, or it is the row that is written -/
theorem RowW.or (hrow:w.ownsRow base e size (.slice (some ⟨g,0,none⟩) n cap) n xs) {T:TypeId} {k m:Nat} {v:Value} {ys:List Value} (h:RowW w lo hi T k v m ys) (o:Nat) (cs:List Value) :
  RowW (w.setCells g o cs) lo hi T k v m ys∨T=e∧v.ownBlock=some g∧RowW (w.setCells g o cs) lo hi T k v m (setL ys o cs):=by
 by_cases hb:v.ownBlock=some g
 ·refine .inr ?_
  rcases h.1.2 with ⟨rfl,_⟩ | ⟨g',cap',cur,hv,hlo,hg,h1,h2,h3,h4⟩
  ·simp [Value.ownBlock] at hb
  ·subst hv
   have:g'=g:=by simpa [Value.ownBlock] using hb
   subst this
   obtain ⟨cur2,hk⟩:=own_blk hrow
   have hk':Blk w g' T cur:=hg
   have hT:T=e:=by
    unfold Blk at hk hk'
    rw [hk'] at hk
    injection hk with hk
    injection hk
   exact ⟨hT,rfl,(stored_all cs w ys o h.1).1,h.2⟩
 ·exact .inl (h.kept (stored_all cs w xs o hrow).2 hb)
theorem RowX.set (hrow:w.ownsRow base e size (.slice (some ⟨g,0,none⟩) n cap) n xs) {T:TypeId} {k:Nat} {v:Value} (h:RowX w lo hi T k v) (o:Nat) (cs:List Value):RowX (w.setCells g o cs) lo hi T k v:=by
 obtain ⟨m,ys,h⟩:=h
 rcases h.or hrow o cs with h | ⟨_,_,h⟩
 ·exact ⟨m,ys,h⟩
 ·exact ⟨m,_,h⟩
theorem RowX.below {T:TypeId} {k:Nat} {v:Value} (h:RowX w lo hi T k v) (hb:Below w.heap.size w w'):RowX w' lo hi T k v:=by
 obtain ⟨n,xs,h⟩:=h
 exact ⟨n,xs,own_below h.1 hb,h.2⟩
end
/-- what changed lies in lo ..< hi -/
structure OnlyIn (lo hi:Nat) (w w':World):Prop where
 low:Below lo w w'
 high:∀ k,hi≤k→k<w.heap.size→w'.heap[k]?=w.heap[k]?
theorem OnlyIn.refl (lo hi:Nat) (w:World):OnlyIn lo hi w w:=⟨Below.refl _ _,fun _ _ _=>rfl⟩
theorem OnlyIn.trans {lo hi:Nat} {a b c:World} (h:OnlyIn lo hi a b) (k:OnlyIn lo hi b c):OnlyIn lo hi a c :=
 ⟨h.low.trans k.low,fun x hx hs=>(k.high x hx (Nat.lt_of_lt_of_le hs h.low.size)).trans (h.high x hx hs)⟩
theorem OnlyIn.of_below {lo hi:Nat} {w w':World} (h:Below w.heap.size w w') (hlo:lo≤w.heap.size):OnlyIn lo hi w w':=⟨h.mono hlo,fun k _ hs=>h.block k hs⟩
theorem OnlyIn.grown {lo hi g:Nat} {w w':World} (h:w.grownBy w' (some g)) (h1:lo≤g) (h2:g<hi) (hlo:lo≤w.heap.size):OnlyIn lo hi w w' :=
 ⟨⟨h.os,h.tape,h.output,h.size,fun k hk=>h.block k (by omega) (by simp;omega)⟩,fun k hk hs=>h.block k hs (by simp;omega)⟩
theorem own_only {lo hi base size n:Nat} {e:TypeId} {v:Value} {xs:List Value} {w w':World} (h:w.ownsRow base e size v n xs) (hb:hi≤base) (ho:OnlyIn lo hi w w'):w'.ownsRow base e size v n xs:=by
 refine ⟨h.1,?_⟩
 rcases h.2 with h0 | ⟨g,cap,cur,h1,h2,h3,h4⟩
 ·exact .inl h0
 ·refine .inr ⟨g,cap,cur,h1,h2,?_,h4⟩
  rw [ho.high g (by omega) (Blk.lt (cs:=cur) (t:=e) h3)]
  exact h3
theorem FS.own.only {α:Type} {w w':World} {lo hi base k:Nat} {t:TypeId} {enc:α→List Value} {s:FS α} (h:s.own w base t k enc) (hb:hi≤base) (ho:OnlyIn lo hi w w'):s.own w' base t k enc:=⟨h.1,own_only h.2 hb ho⟩
section
variable {w w':World} {base lo hi:Nat}
theorem RowW.of_own {T:TypeId} {k n:Nat} {v:Value} {xs:List Value} (h:w.ownsRow lo T k v n xs):RowW w lo w.heap.size T k v n xs:=⟨h,fun g hg=>(h.lt g hg).2⟩
theorem FS.own.rowx {α:Type} {k:Nat} {t:TypeId} {enc:α→List Value} {s:FS α} (h:s.own w lo t k enc):RowX w lo w.heap.size t k s.val:=⟨_,_,RowW.of_own h.2⟩
end
/-! ### an element of a row -/
theorem RowW.el {w:World} {lo hi k n:Nat} {T:TypeId} {v:Value} {xs:List Value} (h:RowW w lo hi T k v n xs) {i:Nat} (hi':i<n) :
  ∃ g c,v=.slice (some ⟨g,0,none⟩) n c∧lo≤g∧g<hi∧n≤maxLen∧(∀ j,j<n*k→w.cell? ⟨g,j,none⟩=xs[j]?)∧w.there g (i*k) k∧w.ownsRow lo T k (.slice (some ⟨g,0,none⟩) n c) n xs:=by
 obtain ⟨ho,hh⟩:=h
 rcases ho.2 with ⟨_,h0⟩ | ⟨g,cap,cur,hv,hlo,hg,hnc,hcm,hcs,htk⟩
 ·omega
 ·subst hv
  have hle:(i+1)*k≤n*k:=Nat.mul_le_mul_right _ hi'
  rw [Nat.add_mul,Nat.one_mul] at hle
  have hk2:n*k≤cap*k:=Nat.mul_le_mul_right _ hnc
  have hc:∀ j,w.cell? ⟨g,j,none⟩=cur[j]?:=fun j=>cell_of_row w g j cur T (0,0) hg
  refine ⟨g,cap,rfl,hlo,hh g rfl,by omega,fun j hj=>?_,fun j hj=>⟨?_,(Blk.frozen (w:=w) (g:=g) (t:=T) (cs:=cur) hg) _⟩,ho⟩
  ·rw [hc,← htk,List.getElem?_take,if_pos hj,Array.getElem?_toList]
  ·rw [hc]
   simp
   omega
end Go.Proofs.YtmladblmknbgnaaGreatDoor
namespace Go.Proofs.YtmladblmknbgnaaGreatDoor
open Go.RowKit
set_option maxRecDepth 100000 in
set_option maxHeartbeats 1000000 in
theorem fiS_index {α:Type} (f:α→Value) (p:α→Bool) (l:List α) (n:Nat) (hnl:n=l.length) (A:Option Addr) (c:Nat) (w:World) (B:Nat)
  (hr:Reads w B 1 A n (l.map f)) (hB:B≤w.heap.size) (hn:n≤5000000000000)
  (hp:∀ x∈l,∀ W,Calls Tryz.prog 173 #[f x] W fun e W'=>e=.returned (.bool (p x))∧Below W.heap.size W W') :
  Calls Tryz.prog 211 #[.slice A n c,.func (.func 173) #[] #[]] w fun e w'=>e=.returned (.int .i64 (firstI p l))∧Below w.heap.size w w':=by
 have HN:=Lib.hid hnl
 have HP:=Lib.hid hp
 clear hnl hp
 go_enter Tryz.func211,Tryz.ntmps211
 go_wp2_with fail
 go_loopw [8] (fun j wr=>∃ k:Nat,k≤n∧j=.int .i64 (k:Int)∧Hid (∀ y∈l.take k,p y=false)∧Below w.heap.size w wr) (fun j _=>n-(intOf j).toNat)
 case atStart=>exact ⟨0,Nat.zero_le _,rfl,(show ∀ y∈_,_ by simp),Below.refl _ _⟩
 case round =>
  obtain ⟨k,hk,rfl,hno,hbw⟩:=hrel
  by_cases hlt:k<n
  ·have hki:(k:Int)<(n:Int):=by omega
   have hkl:k<l.length:=by have:=HN.out;omega
   obtain ⟨ad,u,rfl,_,hxu,hcell⟩:=(hr.below (hbw.mono hB)).at_ hlt
   obtain ⟨x,hx⟩:∃ x,x=l[k]'hkl:=⟨_,rfl⟩
   have hux:u=f x:=by
    rw [List.getElem?_map,List.getElem?_eq_getElem hkl] at hxu
    rw [hx]
    exact (Option.some.inj hxu).symm
   subst hux
   clear hxu
   have htk:=List.take_succ_eq_append_getElem hkl
   rw [← hx] at htk
   have HTK:=Lib.hid htk
   have HX:=Lib.hid (show l[k]?=some x by rw [hx];exact List.getElem?_eq_getElem _)
   have hc:=HP.out x (List.mem_of_getElem? HX.out) wr
   obtain ⟨b,hb⟩:∃ b,b=p x:=⟨_,rfl⟩
   rw [← hb] at hc
   have HBX:=Lib.hid hb
   clear hx htk hr hb
   obtain ⟨fx,hfx⟩:∃ v,v=f x:=⟨_,rfl⟩
   rw [← hfx] at hc hcell
   clear hfx
   go_wp2_with fail
   refine hc.mono ?_
   clear hc
   rintro e w1 ⟨rfl,hb1⟩
   have hbw1:=hbw.trans (hb1.mono hbw.size)
   cases b with
   | true =>
    go_wp2_with fail
    go_ret
    have hf:=firstP_eq p l k x hno.out HX.out HBX.out.symm
    exact ⟨by unfold firstI;rw [hf,if_pos hkl];rfl,hbw1⟩
   | false =>
    go_wp2_with fail
    go_roundw
    case rel =>
     refine ⟨k+1,by omega,by go_num,?_,hbw1⟩
     show ∀ y∈l.take (k+1),p y=false
     intro y hy
     rw [HTK.out] at hy
     rcases List.mem_append.1 hy with hy | hy
     ·exact hno.out y hy
     ·simp at hy;subst hy;exact HBX.out.symm
    case measure=>simp [intOf];omega
  ·have hkn:k=n:=by omega
   have HF:Hid (firstI p l=-1):=by
    show _=_
    unfold firstI
    rw [firstP_none p l (fun y hy=>hno.out y (by rw [List.take_of_length_le (by rw [hkn,HN.out];exact Nat.le_refl _)];exact hy)),if_neg (Nat.lt_irrefl _)]
   clear hr hkn
   go_wp2_with fail
   go_ret
   exact ⟨by rw [HF.out];rfl,hbw⟩
theorem fiS_contains {α:Type} (f:α→Value) (p:α→Bool) (l:List α) (n:Nat) (hnl:n=l.length) (A:Option Addr) (c:Nat) (w:World) (B:Nat)
  (hr:Reads w B 1 A n (l.map f)) (hB:B≤w.heap.size) (hn:n≤5000000000000)
  (hp:∀ x∈l,∀ W,Calls Tryz.prog 173 #[f x] W fun e W'=>e=.returned (.bool (p x))∧Below W.heap.size W W') :
  Calls Tryz.prog 172 #[.slice A n c,.func (.func 173) #[] #[]] w fun e w'=>e=.returned (.bool (l.any p))∧Below w.heap.size w w':=by
 have hcall:=Lib.hid (fiS_index f p l n hnl A c w B hr hB hn hp)
 have HA:=Lib.hid (firstI_any p l)
 clear hnl hr hp
 go_enter Tryz.func172,Tryz.ntmps172
 go_wp2_with fail
 refine hcall.out.mono ?_
 rintro e w1 ⟨rfl,hb⟩
 go_wp2_with fail
 go_ret
 exact ⟨by rw [← HA.out];rfl,hb⟩
end Go.Proofs.YtmladblmknbgnaaGreatDoor
namespace Go.Proofs.YtmladblmknbgnaaGreatDoor
open Go.RowKit
section
variable {P:Program}
theorem run_clear_rowK (w:World) (t ty e:TypeId) (z:Value) (ht:P.underlying t=some (.slice e)) (hv:∀ w,(zeroValue e).run P w=.ok z w) (h1:∀ u∈z.cells.toList,u.oneCell'=true)
  (g o n c:Nat) (cur:List Value) (T:TypeId) (hg:w.heap[g]?=some (.cells cur.toArray T (0,0))) (hn:0<n) (hfit:o+n*z.cells.size≤cur.length) :
  (Builtin.clear_ #[t] ty #[.slice (some ⟨g,o,none⟩) n c]).run P w=.ok (.tuple #[]) (w.setRow g (splice cur o (Builtin.zeroCells z.cells n).toList).toArray):=by
 have hzl:(Builtin.zeroCells z.cells n).toList.length=n*z.cells.size:=by simp [Builtin.zeroCells]
 have hz1:∀ u∈(Builtin.zeroCells z.cells n).toList,u.oneCell'=true:=by
  intro u hu
  simp only [Builtin.zeroCells,Array.toList_map,Array.toList_range,List.mem_map,List.mem_range] at hu
  obtain ⟨i,hi,rfl⟩:=hu
  have hk:0<z.cells.size:=by
   rcases Nat.eq_zero_or_pos z.cells.size with h | h
   ·rw [h] at hi;omega
   ·exact h
  have hm:=Nat.mod_lt i hk
  rw [getElem!_pos z.cells _ hm]
  exact h1 _ (by simp)
 have hst:=run_storeCells_at P g o T (Builtin.zeroCells z.cells n).toList 0 cur.toArray w hg (by rw [hzl];simpa using hfit) hz1
 obtain ⟨m,rfl⟩:∃ m,n=m+1:=⟨n-1,by omega⟩
 simp [Builtin.clear_,run_underlying ht,hv,hst,splice]
theorem wp_clearK {o:Oper} {a:Act} {w:World} {K:Act→World→Prop} {Q:Exit→Act→World→Prop} (d:Operand) (t:TypeId)
  (ho:o.op=.call { callee:=.builtin .clear,args:=#[d],argTypes:=#[t] }) (e:TypeId) (z:Value) (ht:P.underlying t=some (.slice e)) (hv:∀ w,(zeroValue e).run P w=.ok z w) (h1:∀ u∈z.cells.toList,u.oneCell'=true)
  (g off n c:Nat) (hd:a.eval d=.slice (some ⟨g,off,none⟩) n c) (cur:List Value) (T:TypeId) (hg:w.heap[g]?=some (.cells cur.toArray T (0,0))) (hfit:off+n*z.cells.size≤cur.length)
  (h:∀ w' zs,zs.length=n*z.cells.size→Hid (w'.heap[g]?=some (.cells (splice cur off zs).toArray T (0,0)))→w.grownBy w' (some g)→K (a.put o.dst (.tuple #[])) w'):o.wp P a w K Q:=by
 rcases Nat.eq_zero_or_pos n with h0 | h0
 ·subst h0
  have hrun:(Builtin.clear_ #[t] o.type #[.slice (some ⟨g,off,none⟩) 0 c]).run P w=.ok (.tuple #[]) w:=by simp [Builtin.clear_,run_underlying ht]
  unfold Oper.wp
  simp [execOp,ho,resolve,invoke,builtin,hd,hrun,Result.andThen]
  exact h w [] (by simp) (show _=_ by simpa [splice] using hg) (World.grownBy.refl _ _)
 ·have hrun:=run_clear_rowK (P:=P) w t o.type e z ht hv h1 g off n c cur T hg h0 hfit
  unfold Oper.wp
  simp [execOp,ho,resolve,invoke,builtin,hd,hrun,Result.andThen]
  exact h _ _ (by simp [Builtin.zeroCells]) (show _=_ from setRow_heap w g _ _ T _ hg) (grown_setRow _)
theorem wpList_clearK {w:World} {ops:Array Oper} {rest:List Oper} {o:Oper} {a:Act} {Q:Exit→Act→World→Prop} (hgd:o.guard=none) (d:Operand) (t:TypeId)
  (ho:o.op=.call { callee:=.builtin .clear,args:=#[d],argTypes:=#[t] }) (e:TypeId) (z:Value) (ht:P.underlying t=some (.slice e)) (hv:∀ w,(zeroValue e).run P w=.ok z w) (h1:∀ u∈z.cells.toList,u.oneCell'=true)
  (g off n c:Nat) (hd:a.eval d=.slice (some ⟨g,off,none⟩) n c) (cur:List Value) (T:TypeId) (hg:w.heap[g]?=some (.cells cur.toArray T (0,0))) (hfit:off+n*z.cells.size≤cur.length)
  (h:∀ w' zs,zs.length=n*z.cells.size→Hid (w'.heap[g]?=some (.cells (splice cur off zs).toArray T (0,0)))→w.grownBy w' (some g)→wpList P ops Q rest (a.put o.dst (.tuple #[])) w'):wpList P ops Q (o :: rest) a w :=
 wpList_plain hgd fun _ hK=>wp_clearK d t ho e z ht hv h1 g off n c hd cur T hg hfit (fun w' zs h0 h1 h2=>hK _ _ (h w' zs h0 h1 h2))
end
end Go.Proofs.YtmladblmknbgnaaGreatDoor
namespace Go.Proofs.YtmladblmknbgnaaGreatDoor
open Go.RowKit
def cmpS (x y:BS):Int:=if Op.bytesLess x y=true then -1 else if Op.bytesLess y x=true then 1 else 0
theorem cmpS_neg (x y:BS):cmpS x y<0↔Op.bytesLess x y=true:=by
 unfold cmpS
 split
 ·rename_i h;simp [h]
 ·rename_i h
  split
  ·simp [h]
  ·simp [h]
theorem cmpS_zero (x y:BS):cmpS x y=0↔x=y:=by
 unfold cmpS
 split
 ·rename_i h
  constructor
  ·intro e;cases e
  ·intro e;exact absurd e (bl_ne h)
 ·rename_i h
  split
  ·rename_i h2
   constructor
   ·intro e;cases e
   ·intro e;exact absurd e.symm (bl_ne h2)
  ·rename_i h2
   constructor
   ·intro _
    by_cases e:x=y
    ·exact e
    ·exact absurd (bl_tri x y (by simpa using h) e) h2
   ·intro _;rfl
set_option maxRecDepth 100000 in
theorem isNaNS_any (x:BS) (w:World):Calls Tryz.prog 205 #[.string ⟨x.toArray⟩] w fun e w'=>e=.returned (.bool false)∧∃ q,w'=w.drewN q:=by
 go_enter Tryz.func205,Tryz.ntmps205
 go_wp2_with fail
 go_ret
 exact ⟨rfl,0,rfl⟩
set_option maxRecDepth 100000 in
theorem compareS_any (x y:BS) (w:World):Calls Tryz.prog 164 #[.string ⟨x.toArray⟩,.string ⟨y.toArray⟩] w fun e w'=>e=.returned (.int .i64 (cmpS x y))∧∃ q,w'=w.drewN q:=by
 have hlss:=lssS 9 x y
 have hgtr:=gtrS 9 x y
 go_enter Tryz.func164,Tryz.ntmps164
 go_wp2_with fail
 refine (isNaNS_any x _).mono ?_
 rintro e w1 ⟨rfl,q1,rfl⟩
 go_wp2_with fail
 refine (isNaNS_any y _).mono ?_
 rintro e w1 ⟨rfl,q2,rfl⟩
 cases h1:Op.bytesLess x y with
 | true =>
  have HV:Hid (cmpS x y=-1):=by show _=_;unfold cmpS;rw [if_pos h1]
  rw [h1] at hlss hgtr
  clear h1
  go_wp2_with fail
  go_ret
  exact ⟨by rw [HV.out];rfl,q1+q2,rfl⟩
 | false =>
  by_cases h2:x=y
  ·have HV:Hid (cmpS x y=0):=(cmpS_zero x y).2 h2
   have hd:(Op.bytesLess x y || x == y)=true:=by simp [h2]
   rw [hd] at hgtr
   rw [h1] at hlss
   clear h1 h2 hd
   go_wp2_with fail
   go_ret
   exact ⟨by rw [HV.out];rfl,q1+q2,rfl⟩
  ·have HV:Hid (cmpS x y=1):=by show _=_;unfold cmpS;rw [if_neg (by rw [h1];simp),if_pos (bl_tri x y h1 h2)]
   have hd:(Op.bytesLess x y || x == y)=false:=by rw [h1];simpa using h2
   rw [hd] at hgtr
   rw [h1] at hlss
   clear h1 h2 hd
   go_wp2_with fail
   go_ret
   exact ⟨by rw [HV.out];rfl,q1+q2,rfl⟩
end Go.Proofs.YtmladblmknbgnaaGreatDoor
namespace Go.Proofs.YtmladblmknbgnaaGreatDoor
open Go.RowKit
/-- what lies in the slot of an operation that has come up -/
theorem tO {ops:Array Oper} {a0 A:Act} {m:Nat→Option Value} {k i:Nat} {v:Value} (hA:A=frameM a0 ops m) (hv:m i=some v) (hw:ownerOf ops k=some i:=by kernel_rfl) (hk:k<a0.tmps.size:=by exact of_decide_eq_true (by kernel_rfl)):A.tmps[k]?.getD undef=v:=by
 rw [hA]
 exact tmps_own hw hv hk
/-- what lies in a slot of no operation's -/
theorem tF {ops:Array Oper} {a0 A:Act} {m:Nat→Option Value} {k:Nat} {v:Value} (hA:A=frameM a0 ops m) (hw:ownerOf ops k=none:=by kernel_rfl) (hv:a0.tmps[k]?.getD undef=v:=by rfl):A.tmps[k]?.getD undef=v:=by
 rw [hA,← hv]
 exact tmps_free hw
/-- an operation whose value is said -/
theorem dV {m:Nat→Option Value} {j:Nat} {p:Value→Prop} {val:Value} (h:∃ v,m j=some v∧p v) (hp:∀ v,p v→v=val:=by exact fun _ h=>h):m j=some val:=by
 obtain ⟨v,h1,h2⟩:=h
 rw [h1,hp v h2]
/-- what lies in the slot of an operation that this one waits for -/
theorem eD {o:Oper} {Gs:List (Value→World→Prop)} {W:World} {ops:Array Oper} {a0 A:Act} {m:Nat→Option Value} {val:Value}
  (hd:∀ e∈o.after,Region.binds .any e=true→∃ v,m e.on=some v∧Says Gs e.on v W) (hA:A=frameM a0 ops m) (j k:Nat)
  (hm:(o.after.any fun e=>Region.binds .any e && e.on == j)=true:=by kernel_rfl)
  (hp:∀ v,Says Gs j v W→v=val:=by exact fun _ h=>h) (hw:ownerOf ops k=some j:=by kernel_rfl) (hk:k<a0.tmps.size:=by exact of_decide_eq_true (by kernel_rfl)):A.tmps[k]?.getD undef=val:=by
 obtain ⟨i,hi,hm⟩:=Array.any_eq_true.1 hm
 obtain ⟨e,he⟩:∃ e,e=o.after[i]:=⟨_,rfl⟩
 rw [← he] at hm
 have he:e∈o.after:=by rw [he];exact Array.getElem_mem hi
 have hb:Region.binds .any e=true:=by cases h:Region.binds .any e <;> simp [h] at hm ⊢
 obtain rfl:e.on=j:=by simpa [hb] using hm
 obtain ⟨v,h1,h2⟩:=hd e he hb
 rw [hA]
 exact tmps_own hw (h1.trans (congrArg some (hp v h2))) hk
/-- the end of a step of one value -/
theorem zP {p:Prop} (h:p:=by
  try clear hdeps
  try clear hcl
  try clear hmi
  have hK0:=hK _ _ (Below.refl _ _) (Eq.refl _)
  clear hA hK
  go_simp
  exact hK0):p:=h
end Go.Proofs.YtmladblmknbgnaaGreatDoor
namespace Go.Proofs.YtmladblmknbgnaaGreatDoor
open Go.RowKit
theorem cellsK_setF {α:Type} {enc:α→List Value} {k:Nat} (hk:∀ x,(enc x).length=k) (l:List α) (i j:Nat) (hj:j<k) (x':α) (u:Value) (he:∀ x,l[i]?=some x→enc x'=(enc x).set j u) :
  cellsK enc (l.set i x')=(cellsK enc l).set (i*k+j) u:=by
 induction l generalizing i with
 | nil=>simp [cellsK]
 | cons x l ih =>
  cases i with
  | zero =>
   show enc x'++cellsK enc l=(enc x++cellsK enc l).set (0*k+j) u
   rw [he x rfl,Nat.zero_mul,Nat.zero_add,List.set_append_left _ _ (by rw [hk];exact hj)]
  | succ i =>
   show enc x++cellsK enc (l.set i x')=(enc x++cellsK enc l).set ((i+1)*k+j) u
   rw [ih i (fun y hy=>he y hy),Nat.succ_mul,List.set_append_right _ _ (by rw [hk];omega),hk]
   congr 2
   omega
section
variable {α:Type} {w w':World} {base k g:Nat} {t T:TypeId} {enc:α→List Value} {s:FS α}
/-- one field of one element stored -/
theorem FS.own.field (h:s.own w base t k enc) (hk:∀ x,(enc x).length=k) (hA:s.A=some ⟨g,0,none⟩) (i j:Nat) (hj:j<k) (x':α) (u:Value) (he:∀ x,s.l[i]?=some x→enc x'=(enc x).set j u) :
  FS.own (w.setCell ⟨g,i*k+j,none⟩ u) base t k enc ⟨s.A,s.n,s.c,s.l.set i x'⟩∧w.grownBy (w.setCell ⟨g,i*k+j,none⟩ u) (some g):=by
 obtain ⟨A,n,c,l⟩:=s
 simp only at hA
 subst hA
 have h2:=World.ownsRow.stored h.2 (i*k+j) u
 refine ⟨⟨by rw [List.length_set];exact h.1,?_⟩,h2.2⟩
 show World.ownsRow _ base t k _ n (cellsK enc (l.set i x'))
 rw [cellsK_setF hk l i j hj x' u he]
 exact h2.1
/-- a row that is not empty is a block of its own -/
theorem FS.own.blk (h:s.own w base t k enc) (h0:0<s.n):∃ g cs,s.A=some ⟨g,0,none⟩∧base≤g∧Blk w g t cs:=by
 obtain ⟨A,n,c,l⟩:=s
 rcases h.2.2 with ⟨e,e0⟩ | ⟨g,cap,cur,e,hb,hg,_⟩
 ·simp only at h0 e0
  omega
 ·unfold FS.val at e
  injection e with e1 e2 e3
  exact ⟨g,cur,e1,hb,hg⟩
/-- what is grown in a block of another element type keeps a row -/
theorem FS.own.keptT {cs:Array Value} (h:s.own w base t k enc) (hg:w.grownBy w' (some g)) (hb:Blk w g T cs) (hne:t≠T):s.own w' base t k enc :=
 ⟨h.1,h.2.kept hg (.inr (own_blk_ne h.2 hb hne))⟩
end
end Go.Proofs.YtmladblmknbgnaaGreatDoor
namespace Go.Proofs.YtmladblmknbgnaaGreatDoor
open Go.RowKit
/-- one follows from the other -/
structure Imp (β α:Prop):Prop where
 go:β→α
section
variable {P:Program} {ops:Array Oper} {C:World→Prop} {Q:Act→Prop}
theorem yK {o:Oper} {rest:List Oper} {l l':List Value} {d:List Deferred} {j g k:Nat} {b:Bool} (hg:o.guard=some (g,b)) (hj:o.dst=some j) (hd:Hid ((ops[g]?).bind (·.dst)=some k)) (ht:l[k]?.getD undef=.bool (!b)∨l[k]?.getD undef=undef)
  (hl:l.set j undef=l':=by (dsimp only [zB,zC];try (with_reducible rfl))):Imp (wpQuiet P ops C Q rest ⟨l'.toArray,d⟩) (wpQuiet P ops C Q (o :: rest) ⟨l.toArray,d⟩):=.mk fun x=>wpC_skipS hg hj hd.out ht (hl ▸ x)
theorem yR {o:Oper} {rest:List Oper} {l l':List Value} {d:List Deferred} {v:Value} {k:Nat} (hg:o.guard=none) (hd:o.dst=some k)
  (h:∀ w,C w→o.quietAt P ⟨l.toArray,d⟩ C w v:=by
   intro W hW
   clear hW
   go_simp
   try (with_reducible rfl))
  (hl:l.set k v=l':=by (dsimp only [zB,zC];try (with_reducible rfl))):Imp (wpQuiet P ops C Q rest ⟨l'.toArray,d⟩) (wpQuiet P ops C Q (o :: rest) ⟨l.toArray,d⟩):=.mk fun x=>wpC_readS hg hd h (hl ▸ x)
theorem yG {o:Oper} {rest:List Oper} {l l':List Value} {d:List Deferred} {v:Value} {j g k:Nat} {b:Bool} (hg:o.guard=some (g,b)) (hj:o.dst=some j) (hd:Hid ((ops[g]?).bind (·.dst)=some k)) (ht:l[k]?.getD undef=.bool b)
  (h:∀ w,C w→o.quietAt P ⟨l.toArray,d⟩ C w v:=by
   intro W hW
   clear hW
   go_simp
   try (with_reducible rfl))
  (hl:l.set j v=l':=by (dsimp only [zB,zC];try (with_reducible rfl))):Imp (wpQuiet P ops C Q rest ⟨l'.toArray,d⟩) (wpQuiet P ops C Q (o :: rest) ⟨l.toArray,d⟩):=.mk fun x=>wpC_greadS hg hj hd.out ht h (hl ▸ x)
theorem yRm {o:Oper} {rest:List Oper} {l l':List Value} {d:List Deferred} {v:Value} {k:Nat} (hg:o.guard=none) (hd:o.dst=some k)
  (h:∀ w,C w→o.quietAt P ⟨l.toArray,d⟩ C w v:=by
   intro W hW
   replace hW:=HD.out W hW
   try have zf:=hS.out W hW
   try have zg:=zc W hW
   go_simp
   try (with_reducible rfl))
  (hl:l.set k v=l':=by (dsimp only [zB,zC];try (with_reducible rfl))):Imp (wpQuiet P ops C Q rest ⟨l'.toArray,d⟩) (wpQuiet P ops C Q (o :: rest) ⟨l.toArray,d⟩):=.mk fun x=>wpC_readS hg hd h (hl ▸ x)
theorem yGm {o:Oper} {rest:List Oper} {l l':List Value} {d:List Deferred} {v:Value} {j g k:Nat} {b:Bool} (hg:o.guard=some (g,b)) (hj:o.dst=some j) (hd:Hid ((ops[g]?).bind (·.dst)=some k)) (ht:l[k]?.getD undef=.bool b)
  (h:∀ w,C w→o.quietAt P ⟨l.toArray,d⟩ C w v:=by
   intro W hW
   replace hW:=HD.out W hW
   try have zf:=hS.out W hW
   try have zg:=zc W hW
   go_simp
   try (with_reducible rfl))
  (hl:l.set j v=l':=by (dsimp only [zB,zC];try (with_reducible rfl))):Imp (wpQuiet P ops C Q rest ⟨l'.toArray,d⟩) (wpQuiet P ops C Q (o :: rest) ⟨l.toArray,d⟩):=.mk fun x=>wpC_greadS hg hj hd.out ht h (hl ▸ x)
theorem yRc {o:Oper} {rest:List Oper} {l l':List Value} {d:List Deferred} {v:Value} {k:Nat} (hg:o.guard=none) (hd:o.dst=some k)
  (h:∀ w,C w→o.quietAt P ⟨l.toArray,d⟩ C w v:=by
   intro W hW
   replace hW:=HD.out W hW
   try have zf:=hS.out W hW
   go_simp
   first | have zd:=zc W hW | have zd:=zc W
   try simp only [Bool.false_eq_true,if_true,if_false] at zd
   first
   | exact callD zd (fun _ hb=>HD2.out _ (below_step hW hb))
   | exact callD zd (fun _ hb=>HD2.out _ (hS.out _ (below_step (by first | exact hW.2.2 | exact hW.2.2.2 | exact hW.2.2.2.2 | exact hW.2.2.2.2.2.2.2) hb))))
  (hl:l.set k v=l':=by (dsimp only [zB,zC];try (with_reducible rfl))):Imp (wpQuiet P ops C Q rest ⟨l'.toArray,d⟩) (wpQuiet P ops C Q (o :: rest) ⟨l.toArray,d⟩):=.mk fun x=>wpC_readS hg hd h (hl ▸ x)
theorem yGc {o:Oper} {rest:List Oper} {l l':List Value} {d:List Deferred} {v:Value} {j g k:Nat} {b:Bool} (hg:o.guard=some (g,b)) (hj:o.dst=some j) (hd:Hid ((ops[g]?).bind (·.dst)=some k)) (ht:l[k]?.getD undef=.bool b)
  (h:∀ w,C w→o.quietAt P ⟨l.toArray,d⟩ C w v:=by
   intro W hW
   replace hW:=HD.out W hW
   try have zf:=hS.out W hW
   go_simp
   first | have zd:=zc W hW | have zd:=zc W
   try simp only [Bool.false_eq_true,if_true,if_false] at zd
   first
   | exact callD zd (fun _ hb=>HD2.out _ (below_step hW hb))
   | exact callD zd (fun _ hb=>HD2.out _ (hS.out _ (below_step (by first | exact hW.2.2 | exact hW.2.2.2 | exact hW.2.2.2.2 | exact hW.2.2.2.2.2.2.2) hb))))
  (hl:l.set j v=l':=by (dsimp only [zB,zC];try (with_reducible rfl))):Imp (wpQuiet P ops C Q rest ⟨l'.toArray,d⟩) (wpQuiet P ops C Q (o :: rest) ⟨l.toArray,d⟩):=.mk fun x=>wpC_greadS hg hj hd.out ht h (hl ▸ x)
theorem wpC_regionH {id:Nat} {R:Exit→Act→World→Prop} {a:Act} {w:World} {l:List Oper} (C:World→Prop) (hC:C w.drew)
  (h:∀ (OPS:Array Oper) (D:World→Prop) (QQ:Act→Prop),Hid (OPS=l.toArray)→Hid (∀ W,D W→C W)→Hid (∀ W,C W→D W)→Hid (∀ a',(∀ w',C w'→R .normal a' w')→QQ a')→wpQuiet P OPS D QQ l a)
  (hm:P.follows .mixedOrders=true:=by kernel_rfl) (hB:Region.lexB .any l.toArray=true:=by kernel_rfl):(Code.region id l.toArray true).wp P R a w :=
 wpC_region C hm hB hC h
theorem hgoL {OPS:Array Oper} {l:List Oper} (h:Hid (OPS=l.toArray)) (g k:Nat) (hk:(l[g]?).bind (·.dst)=some k):Hid ((OPS[g]?).bind (·.dst)=some k):=by
 show _=_
 rw [h.out,zF]
 exact hk
theorem callD {f:FuncId} {args:Array Value} {W:World} {v:Value} {D:World→Prop} (h:Calls P f args W fun e w'=>e=.returned v∧Below W.heap.size W w') (hD:∀ W',Below W.heap.size W W'→D W'):Calls P f args W fun e w'=>e=.returned v∧D w' :=
 h.mono fun _ _ hh=>⟨hh.1,hD _ hh.2⟩
end
theorem zX {α β:Prop} (k:β) (h:Imp β α:=by
  first
  | exact yK rfl rfl (by with_reducible assumption) (by first | exact .inl rfl | exact .inr rfl)
  | exact yR rfl rfl
  | exact yG rfl rfl (by with_reducible assumption) rfl):α:=h.go k
theorem zY {α β:Prop} (k:β) (h:Imp β α:=by
  first
  | exact yRm rfl rfl
  | exact yGm rfl rfl (by with_reducible assumption) rfl):α:=h.go k
theorem zM {p α β:Prop} (c:p) (k:β) (h:p→Imp β α:=by
  intro zc
  first
  | exact yRm rfl rfl
  | exact yGm rfl rfl (by with_reducible assumption) rfl):α:=(h c).go k
theorem zN {p α β:Prop} (c:p) (k:β) (h:p→Imp β α:=by
  intro zc
  first
  | exact yRc rfl rfl
  | exact yGc rfl rfl (by with_reducible assumption) rfl):α:=(h c).go k
end Go.Proofs.YtmladblmknbgnaaGreatDoor
namespace Go.Proofs.YtmladblmknbgnaaGreatDoor
open Go.RowKit
/-! ### Path -/
set_option maxRecDepth 100000 in
theorem path1_any (s:ByteArray) (w:World):Calls Tryz.prog 173 #[.string s] w fun e w'=>e=.returned (.bool (!nameB s.data.toList))∧Below w.heap.size w w':=by
 go_enter Tryz.func173,Tryz.ntmps173
 go_wp2_with fail
 refine (name_any s w).mono ?_
 rintro e w1 ⟨rfl,hb⟩
 go_wp2_with fail
 go_ret
 exact ⟨rfl,hb⟩
/-- the cell of internal/bytealg.MaxLen holds some number -/
def HasMax (w:World):Prop:=∃ m,w.cell? ⟨0,0,none⟩=some (.int .i64 m)
theorem HasMax.lt {w:World} (h:HasMax w):0<w.heap.size:=by
 obtain ⟨m,hm⟩:=h
 exact World.block_lt_of_cell? w _ hm
theorem HasMax.below {w w':World} (h:HasMax w) (hb:Below w.heap.size w w'):HasMax w':=by
 obtain ⟨m,hm⟩:=h
 exact ⟨m,(hb.cell (World.block_lt_of_cell? w _ hm)).trans hm⟩
theorem HasMax.of_shaped {w:World} (h:w.ShapedOpen Tryz.prog):HasMax w:=Go.Proofs.cell_of_shapedOpen_int (zero:=#[.int .i64 0]) (t:=3) h (of_decide_eq_true (by kernel_rfl)) (by kernel_rfl) rfl (by kernel_rfl) (by kernel_rfl) Tryz.underlying3
theorem path_parts (s:ByteArray) (hne:s.data.toList≠[]):(decide (Lib.countB s ⟨#[47]⟩+1≤4) && !((Lib.splitB ⟨#[47]⟩ 0 (Lib.countB s ⟨#[47]⟩) s).any fun x=>!nameB x.data.toList))=pathB s.data.toList:=by
 have he:s.data.toList.isEmpty=false:=by
  cases h:s.data.toList with
  | nil=>exact absurd h hne
  | cons a r=>rfl
 unfold pathB
 rw [he,← splitB_parts s,List.length_map,splitB_len,List.all_map,List.all_eq_not_any_not]
 rfl
set_option maxRecDepth 100000 in
set_option maxHeartbeats 1000000 in
theorem path_any (s:ByteArray) (w:World) (hs:s.size≤4000000000) (hm:HasMax w) :
  Calls Tryz.prog 112 #[.string s] w fun e w'=>e=.returned (.bool (pathB s.data.toList))∧Below w.heap.size w w':=by
 obtain ⟨m,hm⟩:=hm
 have hsp:=Lib.hid (Tryz.strings_Split s ⟨#[47]⟩ m w (by omega) hm (Nat.le_refl _))
 have hlen:=Lib.hid (splitB_len s)
 have hpp:=Lib.hid (path_parts s)
 have htl:=Lib.hid (toList_data s)
 have hcount:=Lib.hid (Lib.countB_le ⟨#[47]⟩ (Nat.le_refl _) _ s (Nat.le_refl _))
 go_enter Tryz.func112,Tryz.ntmps112
 go_wp2_with fail
 ·have h0:s.toList.isEmpty=true:=by assumption
  rw [htl.out,List.isEmpty_iff] at h0
  go_ret
  exact ⟨by rw [h0];rfl,Below.refl _ _⟩
 ·have h0:s.toList.isEmpty=false:=by assumption
  rw [htl.out] at h0
  have h1:=Lib.hid (hpp.out (fun e=>by rw [e] at h0;cases h0))
  clear h0
  obtain ⟨L,hL⟩:∃ L,L=Lib.splitB ⟨#[47]⟩ 0 (Lib.countB s ⟨#[47]⟩) s:=⟨_,rfl⟩
  obtain ⟨N,hN⟩:∃ N,N=Lib.countB s ⟨#[47]⟩+1:=⟨_,rfl⟩
  have hN2:N≤4000000001:=by have:=hcount.out;omega
  rw [← hN] at hsp hlen h1
  rw [← hL] at hsp hlen h1
  have hsp:=hsp.out
  clear hcount hpp hL hN
  obtain ⟨b,hbe⟩:∃ b,b=L.any fun x=>!nameB x.data.toList:=⟨_,rfl⟩
  rw [← hbe] at h1
  obtain ⟨W,hW⟩:∃ W,W=w.alloc (Obj.cells (List.map Value.string L).toArray 9):=⟨_,rfl⟩
  have hbW:Below w.heap.size w W:=by rw [hW];exact Below.alloc (Below.refl _ _) (Nat.le_refl _) _
  have hrW:Reads W (w.heap.size+1) 1 (some ⟨w.heap.size,0,none⟩) N (L.map Value.string):=by
   rw [hW]
   exact Reads.lit w (List.map Value.string L).toArray 9 (by simp [hlen.out])
  have hsW:W.heap.size=w.heap.size+1:=by rw [hW];show (w.heap.push _).size=_;rw [Array.size_push]
  have hc:=Lib.hid (fiS_contains Value.string (fun x=>!nameB x.data.toList) L N hlen.out.symm (some ⟨w.heap.size,0,none⟩) N W (w.heap.size+1) hrW (by omega) (by omega) (fun x _ W=>path1_any x W))
  rw [← hbe] at hc
  rw [← hW] at hsp
  clear hW hbe
  refine hsp.mono ?_
  clear hsp
  rintro e w1 ⟨rfl,rfl⟩
  go_wp2_with fail
  ·have h4:(N:Int)≤4:=by assumption
   refine hc.out.mono ?_
   rintro e w2 ⟨rfl,hb2⟩
   go_wp2_with fail
   go_ret
   refine ⟨congrArg Ending.returned (congrArg Value.bool ?_),hbW.trans (hb2.mono (by omega))⟩
   rw [← h1.out,decide_eq_true (show N≤4 by omega)]
   rfl
  ·have h4:4<(N:Int):=by assumption
   go_ret
   refine ⟨congrArg Ending.returned (congrArg Value.bool ?_),hbW⟩
   rw [← h1.out,decide_eq_false (show ¬ N≤4 by omega)]
   rfl
end Go.Proofs.YtmladblmknbgnaaGreatDoor
namespace Go.Proofs.YtmladblmknbgnaaGreatDoor
open Go.RowKit
section
variable {P:Program}
theorem run_append_rowK (w:World) (t ty elem:TypeId) (k:Nat) (g sLen sCap:Nat) (a:Addr) (xLen xCap:Nat) (cur:List Value) (T:TypeId) (cs:List Value)
  (hu:P.underlying t=some (.slice elem)) (hs:(P.info? elem).map (·.size)=some k)
  (hg:w.heap[g]?=some (.cells cur.toArray T (0,0))) (hn:cs.length=xLen*k)
  (hsrc:∀ j v,cs[j]?=some v→w.cell? (a.add j)=some v) (hfit:sLen*k+cs.length≤cur.length) (hroom:sLen+xLen≤sCap) (h1:∀ v∈cs,v.oneCell'=true) :
  (Builtin.append_ #[t,t] ty #[.slice (some ⟨g,0,none⟩) sLen sCap,.slice (some a) xLen xCap]).run P w =
   .ok (.slice (some ⟨g,0,none⟩) (sLen+xLen) sCap) (w.setRow g (splice cur (sLen*k) cs).toArray):=by
 have hl:=run_loadCells_list (P:=P) w a cs hsrc
 have hst:=run_storeCells_at P g (sLen*k) T cs 0 cur.toArray w hg (by simpa using hfit) h1
 cases hq:P.info? elem with
 | none=>simp [hq] at hs
 | some i =>
  have hi:i.size=k:=by simpa [hq] using hs
  simp [Builtin.append_,run_underlying hu,Builtin.lenOf,Builtin.firstCells,sizeOf,typeInfo,hq,hi,← hn,hl,hroom,addr_add0,hst,splice]
theorem wp_appendK {o:Oper} {a:Act} {w:World} {K:Act→World→Prop} {Q:Exit→Act→World→Prop} (d s:Operand) (t:TypeId)
  (ho:o.op=.call { callee:=.builtin .append,args:=#[d,s],argTypes:=#[t,t] }) (elem:TypeId) (k:Nat) (hu:P.underlying t=some (.slice elem)) (hsz:(P.info? elem).map (·.size)=some k)
  (g sLen sCap:Nat) (ad:Addr) (xLen xCap:Nat) (hd:a.eval d=.slice (some ⟨g,0,none⟩) sLen sCap) (hs:a.eval s=.slice (some ad) xLen xCap)
  (cur:List Value) (T:TypeId) (hg:w.heap[g]?=some (.cells cur.toArray T (0,0))) (cs:List Value) (hn:cs.length=xLen*k)
  (hsrc:∀ j v,cs[j]?=some v→w.cell? (ad.add j)=some v) (hfit:sLen*k+cs.length≤cur.length) (hroom:sLen+xLen≤sCap) (h1:∀ v∈cs,v.oneCell'=true)
  (h:∀ w',Hid (w'.heap[g]?=some (.cells (splice cur (sLen*k) cs).toArray T (0,0)))→w.grownBy w' (some g)→K (a.put o.dst (.slice (some ⟨g,0,none⟩) (sLen+xLen) sCap)) w'):o.wp P a w K Q:=by
 have hrun:=run_append_rowK (P:=P) w t o.type elem k g sLen sCap ad xLen xCap cur T cs hu hsz hg hn hsrc hfit hroom h1
 unfold Oper.wp
 simp [execOp,ho,resolve,invoke,builtin,hd,hs,hrun,Result.andThen]
 exact h _ (show _=_ by simpa [splice] using setRow_heap w g _ _ T _ hg) (grown_setRow _)
theorem step_appendK {ops:Array Oper} {o:Oper} {a:Act} {w:World} {K:Act→World→Prop} {Q:Exit→Act→World→Prop} {E:Prop} (hgd:o.guard=none) (d s:Operand) (t:TypeId)
  (ho:o.op=.call { callee:=.builtin .append,args:=#[d,s],argTypes:=#[t,t] }) (elem:TypeId) (k:Nat) (hu:P.underlying t=some (.slice elem)) (hsz:(P.info? elem).map (·.size)=some k)
  (g sLen sCap:Nat) (ad:Addr) (xLen xCap:Nat) (hd:a.eval d=.slice (some ⟨g,0,none⟩) sLen sCap) (hs:a.eval s=.slice (some ad) xLen xCap)
  (cur:List Value) (T:TypeId) (hg:w.heap[g]?=some (.cells cur.toArray T (0,0))) (cs:List Value) (hn:cs.length=xLen*k)
  (hsrc:∀ j v,cs[j]?=some v→w.cell? (ad.add j)=some v) (hfit:sLen*k+cs.length≤cur.length) (hroom:sLen+xLen≤sCap) (h1:∀ v∈cs,v.oneCell'=true)
  (h:∀ w',Hid (w'.heap[g]?=some (.cells (splice cur (sLen*k) cs).toArray T (0,0)))→w.grownBy w' (some g)→K (a.put o.dst (.slice (some ⟨g,0,none⟩) (sLen+xLen) sCap)) w') :
  if Region.wanted o (yielded ops a.tmps)=true then Oper.wp P o a w K Q else E:=by
 have hw:Region.wanted o (yielded ops a.tmps)=true:=by simp [Region.wanted,hgd]
 rw [if_pos hw]
 exact wp_appendK d s t ho elem k hu hsz g sLen sCap ad xLen xCap hd hs cur T hg cs hn hsrc hfit hroom h1 h
end
end Go.Proofs.YtmladblmknbgnaaGreatDoor
namespace Go.Proofs.YtmladblmknbgnaaGreatDoor
open Go.RowKit
section
variable {P:Program} {ops:Array Oper}
def depsOf (ops:Array Oper) (i:Nat):List Nat:=match ops[i]? with
 | some o=>(o.after.toList.filter fun e=>Region.binds .any e).map (·.on)
 | none=>[]
def reachL (ops:Array Oper):Nat→List Nat→List Nat
 | 0,l=>l
 | f+1,l=>reachL ops f (l++(l.flatMap (depsOf ops)).filter fun i=>!l.contains i).eraseDups
/-- all others stand ahead of the last one -/
def lastOk (ops:Array Oper) (L:Nat):Bool:=(List.range ops.size).all fun i=>i == L || (reachL ops ops.size (depsOf ops L)).contains i
theorem reach_some {m:Nat→Option Value} (hcl:∀ j o',ops[j]?=some o'→(m j).isSome=true→∀ e∈o'.after,Region.binds .any e=true→(m e.on).isSome=true) (f:Nat):∀ l:List Nat,(∀ i∈l,(m i).isSome=true)→∀ i∈reachL ops f l,(m i).isSome=true:=by
 induction f with
 | zero=>intro l h;exact h
 | succ f ih =>
  intro l h
  refine ih _ (fun i hi=>?_)
  rw [List.mem_eraseDups,List.mem_append] at hi
  rcases hi with hi | hi
  ·exact h i hi
  ·obtain ⟨hi,_⟩:=List.mem_filter.1 hi
   obtain ⟨j,hj,hij⟩:=List.mem_flatMap.1 hi
   unfold depsOf at hij
   cases ho:ops[j]? with
   | none=>rw [ho] at hij;cases hij
   | some o =>
    rw [ho] at hij
    obtain ⟨e,he,rfl⟩:=List.mem_map.1 hij
    obtain ⟨he,hb⟩:=List.mem_filter.1 he
    exact hcl j o ho (h j hj) e (Array.mem_toList_iff.1 he) hb
end
end Go.Proofs.YtmladblmknbgnaaGreatDoor
namespace Go.Proofs.YtmladblmknbgnaaGreatDoor
open Go.RowKit
abbrev GT:=BS×BS×Int
abbrev GL:=List GT
def cmpG (a b c d:BS):Int:=if cmpS a c=0 then cmpS b d else cmpS a c
theorem cmpG_neg (a b c d:BS):cmpG a b c d<0↔Op.bytesLess a c=true∨a=c∧Op.bytesLess b d=true:=by
 unfold cmpG
 by_cases h:cmpS a c=0
 ·rw [if_pos h,cmpS_neg]
  rw [cmpS_zero] at h
  subst h
  rw [bl_irrefl]
  simp
 ·rw [if_neg h,cmpS_neg]
  rw [cmpS_zero] at h
  simp [h]
def grantB (g:GT):Bool:=nameB g.1 && pathB g.2.1 && decide (1≤g.2.2) && decide (g.2.2≤255)
def grantsFrom:Option GT→GL→Bool
 | _,[]=>true
 | p,x :: l=>grantB x && (match p with | none=>true | some q=>decide (cmpG q.1 q.2.1 x.1 x.2.1<0)) && grantsFrom (some x) l
def grantsB (l:GL):Bool:=decide (l.length≤16) && grantsFrom none l
def grantsE (l:GL):Int:=if grantsB l=true then 0 else 9
theorem grantsFrom_cons (p:Option GT) (x:GT) (l:GL):grantsFrom p (x :: l)=(grantB x && (match p with | none=>true | some q=>decide (cmpG q.1 q.2.1 x.1 x.2.1<0)) && grantsFrom (some x) l):=by
 cases p <;> rfl
end Go.Proofs.YtmladblmknbgnaaGreatDoor
namespace Go.Proofs.YtmladblmknbgnaaGreatDoor
open Go.RowKit
/-! ### DeleteFunc -/
/-- between two rounds: what stays lies at the beginning, what has not been looked at as it was -/
structure DelI {α:Type} (p:α→Bool) (l L:List α) (i j:Nat):Prop where
 len:L.length=l.length
 le:i≤j
 jl:j≤l.length
 pre:L.take i=(l.take j).filter fun x=>!p x
 suf:L.drop j=l.drop j
theorem DelI.keep {α:Type} {p:α→Bool} {l L:List α} {i j:Nat} {x:α} (h:DelI p l L i j) (hlt:i<j) (hx:l[j]?=some x) (hp:p x=false):DelI p l (L.set i x) (i+1) (j+1):=by
 have hj:=(List.getElem?_eq_some_iff.1 hx).1
 refine ⟨by rw [List.length_set];exact h.len,by omega,by omega,?_,?_⟩
 ·rw [List.take_succ_eq_append_getElem hj,List.filter_append,← h.pre,(List.getElem?_eq_some_iff.1 hx).2]
  rw [List.take_succ_eq_append_getElem (by rw [List.length_set,h.len];omega),List.take_set_of_le (Nat.le_refl _),List.getElem_set_self]
  simp [hp]
 ·rw [List.drop_set_of_lt (by omega)]
  have:=congrArg (List.drop 1) h.suf
  simpa using this
end Go.Proofs.YtmladblmknbgnaaGreatDoor
namespace Go.Proofs.YtmladblmknbgnaaGreatDoor
open Go.RowKit
section
variable {P:Program} {ops:Array Oper}
def ClosedM (ops:Array Oper) (m:Nat→Option Value):Prop:=∀ j o',ops[j]?=some o'→(m j).isSome=true→∀ e∈o'.after,Region.binds .any e=true→(m e.on).isSome=true
theorem ClosedM.upd {m:Nat→Option Value} {i:Nat} {o:Oper} (h:ClosedM ops m) (ho:ops[i]?=some o) (hd:∀ e∈o.after,Region.binds .any e=true→(m e.on).isSome=true) (v:Value):ClosedM ops (upd m i v):=by
 intro j o' ho' hj e he hbi
 by_cases hei:e.on=i
 ·rw [hei,upd_self];rfl
 ·rw [upd_ne m v hei]
  by_cases hji:j=i
  ·subst hji
   rw [ho] at ho'
   injection ho' with ho'
   subst ho'
   exact hd e he hbi
  ·rw [upd_ne m v hji] at hj
   exact h j o' ho' hj e he hbi
end
end Go.Proofs.YtmladblmknbgnaaGreatDoor
