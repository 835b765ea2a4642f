/-
  A region that draws its order: calls that make memory, and stores of what they return into one box: each operation is looked at once. Rows that are written over, in themselves: what can be read of them stays good. slices.BinarySearchFunc at elements of 5 cells, by its contract. slices.IndexFunc and ContainsFunc at texts (names.Path's). 'clear' of a piece of a row that is known whole. cmp.Compare at strings, by its contract. Drawn regions with guards: when an operation is wanted. A row of one's own of which one field of one element is stored: the element is another one, the rest stays. alive (layer 11): a block put into no content, and read. A property's value, looked up: plain. slices.IndexFunc and slices.DeleteFunc at elements of 2 cells, by their contracts.
-/
import Derived.Test.YtcgclpcocdappaaGreatDoorXM1
import Derived.Test.YtcgclpcocdappaaGreatDoorX0
import Derived.Test.YtcgclpcocdappaaGreatDoorX3
import Derived.Test.YtcgclpcocdappaaGreatDoorX2
import Derived.Deep.MidRow
import Derived.Test.YtcgclpcocdappaaGreatDoorRows
import Derived.Handy
import Derived.Test.YtcgclpcocdappaaGreatDoorX4
import Derived.Test.YtcgclpcocdappaaGreatDoorX1
namespace Go.Proofs.YtcgclpcocdappaaGreatDoor
open Go.RowKit
/-- the box's cells: (the store, the field, whose value is stored) -/
def fld (old:List Value) (m:Nat→Option Value):List (Nat×Nat×Nat)→Nat→Option Value
 | [],f=>old[f]?
 | (s,g,c) :: r,f=>if f=g∧(m s).isSome=true then m c else fld old m r f
def Closed (ops:Array Oper) (m:Nat→Option Value):Prop:=∀ j o',ops[j]?=some o'→(m j).isSome=true→∀ e∈o'.after,Region.binds .any e=true→(m e.on).isSome=true
theorem fld_other (old:List Value) (m:Nat→Option Value) (i:Nat) (v:Value) (hi:m i=none) (sts:List (Nat×Nat×Nat)) (hs:∀ s∈sts,s.1≠i) (hc:∀ s∈sts,(m s.1).isSome=true→(m s.2.2).isSome=true) (f:Nat):fld old (upd m i v) sts f=fld old m sts f:=by
 induction sts with
 | nil=>rfl
 | cons x r ih =>
  obtain ⟨s,g,c⟩:=x
  have h1:s≠i:=hs _ List.mem_cons_self
  have h2:=hc _ List.mem_cons_self
  simp only [fld,upd_ne m v h1]
  by_cases hh:f=g∧(m s).isSome=true
  ·rw [if_pos hh,if_pos hh]
   have h3:=h2 hh.2
   refine upd_ne m v fun e=>?_
   simp only [e,hi] at h3
   cases h3
  ·rw [if_neg hh,if_neg hh]
   exact ih (fun s hs'=>hs s (List.mem_cons_of_mem _ hs')) (fun s hs'=>hc s (List.mem_cons_of_mem _ hs'))
theorem fld_store (old:List Value) (m:Nat→Option Value) {i f c:Nat} (hi:m i=none) (u:Value) (hu:m c=some u) (sts:List (Nat×Nat×Nat)) (hmem:(i,f,c)∈sts) (hn:(sts.map (·.1)).Nodup) (hf:(sts.map (·.2.1)).Nodup) (hc:∀ s∈sts,(m s.1).isSome=true→(m s.2.2).isSome=true) (g:Nat) :
  fld old (upd m i undef) sts g=if g=f then some u else fld old m sts g:=by
 have hci:c≠i:=fun e=>by rw [e,hi] at hu;cases hu
 induction sts with
 | nil=>cases hmem
 | cons x r ih =>
  obtain ⟨s,g',c'⟩:=x
  simp only [List.map_cons,List.nodup_cons] at hn hf
  have h2:=hc _ List.mem_cons_self
  have hcr:∀ s∈r,(m s.1).isSome=true→(m s.2.2).isSome=true:=fun s hs'=>hc s (List.mem_cons_of_mem _ hs')
  rcases List.mem_cons.1 hmem with e | hmem
  ·cases e
   simp only [fld,upd_self,Option.isSome_some,and_true]
   by_cases hg:g=f
   ·rw [if_pos hg,if_pos hg,upd_ne m undef hci,hu]
   ·rw [if_neg hg,if_neg hg,if_neg (fun h=>hg h.1)]
    exact fld_other old m i undef hi r (fun s hs e=>hn.1 (by rw [← e];exact List.mem_map_of_mem (f:=(·.1)) hs)) hcr g
  ·have hsi:s≠i:=fun e=>hn.1 (by rw [e];exact List.mem_map_of_mem (f:=(·.1)) hmem)
   have hgf:g'≠f:=fun e=>hf.1 (by rw [e];exact List.mem_map_of_mem (f:=(·.2.1)) hmem)
   simp only [fld,upd_ne m undef hsi]
   by_cases hh:g=g'∧(m s).isSome=true
   ·rw [if_pos hh,if_pos hh,if_neg (fun e=>hgf (hh.1.symm.trans e))]
    have h3:=h2 hh.2
    refine upd_ne m undef fun e=>?_
    simp only [e,hi] at h3
    cases h3
   ·rw [if_neg hh,if_neg hh]
    exact ih hmem hn.2 hf.2 hcr
section
variable {P:Program} {ops:Array Oper}
def StaysB (b:Nat) (p:Value→World→Prop):Prop:=∀ v W W',p v W→W.grownBy W' (some b)→p v W'
theorem StaysB.pure {b:Nat} {q:Value→Prop}:StaysB b (fun v _=>q v):=fun _ _ _ h _=>h
theorem staysB_nil {b:Nat}:∀ p∈([]:List (Value→World→Prop)),StaysB b p:=fun _ h=>by cases h
theorem staysB_cons {b:Nat} {p:Value→World→Prop} {l:List (Value→World→Prop)} (hp:StaysB b p) (hl:∀ q∈l,StaysB b q):∀ q∈p :: l,StaysB b q:=by
 intro q hq
 rcases List.mem_cons.1 hq with rfl | h
 ·exact hp
 ·exact hl q h
theorem grown_of_below {W W':World} {r:Option Nat} (h:Below W.heap.size W W'):W.grownBy W' r:=⟨h.os,h.tape,h.output,h.size,fun k hk _=>h.block k hk⟩
theorem grown_tr {a b c:World} {r:Option Nat} (h:a.grownBy b r) (k:b.grownBy c r):a.grownBy c r :=
 ⟨k.os.trans h.os,k.tape.trans h.tape,k.output.trans h.output,Nat.le_trans h.size k.size,fun x hx hr=>(k.block x (Nat.lt_of_lt_of_le hx h.size) hr).trans (h.block x hx hr)⟩
theorem grown_box (w:World) (g i:Nat) (u:Value):w.grownBy (w.setCell ⟨g,i,none⟩ u) (some g):=⟨rfl,rfl,rfl,by simp [World.setCell],fun k _ hne=>Below.heap_setCell w ⟨g,i,none⟩ u k (fun e=>hne (by rw [e]))⟩
def stsOk (ops:Array Oper) (sts:List (Nat×Nat×Nat)) (n:Nat):Bool :=
 decide (sts.map (·.1)).Nodup && decide (sts.map (·.2.1)).Nodup && sts.all fun s=>decide (s.2.1<n) && match ops[s.1]? with
  | some o=>o.after.any fun e=>Region.binds .any e && decide (e.on=s.2.2)
  | none=>false
theorem wp_region_box {id:Nat} {a0:Act} {w:World} {Q:Exit→Act→World→Prop} (hm:P.follows .mixedOrders=true) (hok:regionOk ops a0.tmps.size=true) (b:Nat) (T:TypeId) (old:List Value) (sts:List (Nat×Nat×Nat)) (hsts:stsOk ops sts old.length=true)
  (Gs:List (Value→World→Prop)) (hst:∀ p∈Gs,StaysB b p) (hblk:Blk w b T old.toArray)
  (hstep:∀ i o,ops[i]?=some o→∀ (m:Nat→Option Value) (W:World),w.grownBy W (some b)→m i=none→Closed ops m→(∀ e∈o.after,Region.binds .any e=true→∃ v,m e.on=some v∧Says Gs e.on v W)→(∀ f,W.cell? ⟨b,f,none⟩=fld old m sts f)→(∀ f,W.frozen? ⟨b,f,none⟩=false)→b<W.heap.size →
   ∀ (A:Act) (K:Act→World→Prop),A=frameM a0 ops m→(∀ v W',Below W.heap.size W W'→Says Gs i v W'→(∀ s∈sts,s.1≠i)→K (A.put o.dst v) W')→(∀ f c u,(i,f,c)∈sts→m c=some u→Says Gs i undef (W.setCell ⟨b,f,none⟩ u)→K (A.put o.dst undef) (W.setCell ⟨b,f,none⟩ u)) →
    if Region.wanted o (yielded ops A.tmps)=true then o.wp P A W K Q else K (A.put o.dst undef) W)
  (hend:∀ (m:Nat→Option Value) (W:World),w.grownBy W (some b)→(∀ i,i<ops.size→∃ v,m i=some v∧Says Gs i v W)→(∃ cs:List Value,cs.length=old.length∧Blk W b T cs.toArray∧∀ f,cs[f]?=fld old m sts f)→Q .normal (frameM a0 ops m) W) :
  (Code.region id ops true).wp P Q a0 w:=by
 simp only [stsOk,Bool.and_eq_true,decide_eq_true_eq] at hsts
 obtain ⟨⟨hn,hf⟩,hall⟩:=hsts
 have hsay:∀ i v W W',Says Gs i v W→W.grownBy W' (some b)→Says Gs i v W':=by
  exact mZ38
 have hcs:∀ m,Closed ops m→∀ s∈sts,(m s.1).isSome=true→(m s.2.2).isSome=true:=by
  intro m hcl s hs hd
  have h1:=List.all_eq_true.1 hall s hs
  simp only [Bool.and_eq_true] at h1
  cases ho:ops[s.1]? with
  | none=>rw [ho] at h1;exact absurd h1.2 tZ3
  | some o =>
   rw [ho] at h1
   obtain ⟨e,he,h2⟩:=Array.any_eq_true'.1 h1.2
   simp only [Bool.and_eq_true,decide_eq_true_eq] at h2
   rw [← h2.2]
   exact hcl _ _ ho hd e he h2.1
 refine wp_region_inv hm hok (fun m W=>w.grownBy W (some b)∧(∀ i v,m i=some v→Says Gs i v W)∧Closed ops m∧∃ cs:List Value,cs.length=old.length∧Blk W b T cs.toArray∧∀ f,cs[f]?=fld old m sts f) ⟨⟨rfl,rfl,rfl,Nat.le_refl _,fun _ _ _=>rfl⟩,fun _ _ h=>(by cases h),fun _ _ _ h=>(by cases h),old,rfl,hblk.drew,fun f=>?_⟩ ?_ ?_
 ·clear hn hf hall hcs hst hstep hend
  induction sts with
  | nil=>rfl
  | cons x r ih=>obtain ⟨s,g,c⟩:=x;simp only [fld,Option.isSome_none,Bool.false_eq_true,and_false,if_false];exact ih
 ·intro i o ho m W hJ hmi hdeps A K hA hK
  obtain ⟨hgr,hsy,hcl,cs,hcl2,hbk,hcf⟩:=hJ
  have hcl':∀ v,Closed ops (upd m i v):=by
   intro v j o' ho' hj e he hbi
   by_cases hei:e.on=i
   ·rw [hei,upd_self];rfl
   ·rw [upd_ne m v hei]
    by_cases hji:j=i
    ·subst hji
     rw [ho] at ho'
     cases ho'
     exact hdeps e he hbi
    ·rw [upd_ne m v hji] at hj
     exact hcl j o' ho' hj e he hbi
  have hsu:∀ v W',W.grownBy W' (some b)→Says Gs i v W'→∀ j u,upd m i v j=some u→Says Gs j u W':=by
   intro v W' hb hS j u hu
   by_cases hj:j=i
   ·subst hj
    rw [upd_self] at hu
    cases hu
    exact hS
   ·rw [upd_ne m v hj] at hu
    exact hsay j u W W' (hsy j u hu) hb
  refine hstep i o ho m W hgr hmi hcl (fun e he hb=>?_) (fun f=>by rw [hbk.cell f,zF];exact hcf f) (fun f=>hbk.frozen f) hbk.lt A K hA (fun v W' hb hS hns=>hK v W' ⟨grown_tr hgr (grown_of_below hb),hsu v W' (grown_of_below hb) hS,hcl' v,cs,hcl2,hbk.below hb hbk.lt,fun f=>?_⟩) (fun f c u hmem hu hS=>hK undef _ ⟨grown_tr hgr (grown_box W b f u),hsu undef _ (grown_box W b f u) hS,hcl' undef,cs.set f u,by rw [List.length_set];exact hcl2,?_,fun g=>?_⟩)
  ·have:=hdeps e he hb
   cases hme:m e.on with
   | none=>rw [hme] at this;cases this
   | some v=>exact ⟨v,rfl,hsy _ _ hme⟩
  ·rw [hcf f]
   exact (fld_other old m i v hmi sts hns (hcs m hcl) f).symm
  ·have:=hbk.set_ f u
   have e:cs.toArray.setIfInBounds f u=(cs.set f u).toArray:=tZ3
   rw [e] at this
   exact this
  ·rw [fld_store old m hmi u hu sts hmem hn hf (hcs m hcl) g]
   have h1:=List.all_eq_true.1 hall _ hmem
   simp only [Bool.and_eq_true,decide_eq_true_eq] at h1
   by_cases hg:g=f
   ·subst hg
    rw [if_pos rfl,List.getElem?_set,if_pos rfl,if_pos (by rw [hcl2];exact h1.1)]
   ·rw [if_neg hg,List.getElem?_set,if_neg (fun e=>hg e.symm)]
    exact hcf g
 ·intro m W hJ hall
  refine hend m W hJ.1 (fun i hi=>?_) hJ.2.2.2
  exact mZ37
end
end Go.Proofs.YtcgclpcocdappaaGreatDoor
namespace Go.Proofs.YtcgclpcocdappaaGreatDoor
open Go.RowKit
def setL (xs:List Value):Nat→List Value→List Value
 | _,[]=>xs
 | o,u :: r=>setL (xs.set o u) (o+1) r
theorem grown_trans {a b c:World} {r:Option Nat} (h:a.grownBy b r) (k:b.grownBy c r):a.grownBy c r :=
 ⟨k.os.trans h.os,k.tape.trans h.tape,k.output.trans h.output,Nat.le_trans h.size k.size,fun x hx hr=>(k.block x (Nat.lt_of_lt_of_le hx h.size) hr).trans (h.block x hx hr)⟩
theorem stored_all {base size n cap g:Nat} {e:TypeId} (cs:List Value):∀ (w:World) (xs:List Value) (o:Nat),w.ownsRow base e size (.slice (some ⟨g,0,none⟩) n cap) n xs →
  (w.setCells g o cs).ownsRow base e size (.slice (some ⟨g,0,none⟩) n cap) n (setL xs o cs)∧w.grownBy (w.setCells g o cs) (some g):=by
 induction cs with
 | nil=>intro w xs o h;exact ⟨h,rfl,rfl,rfl,Nat.le_refl _,fun _ _ _=>rfl⟩
 | cons u r ih =>
  intro w xs o h
  obtain ⟨h1,h2⟩:=h.stored o u
  obtain ⟨h3,h4⟩:=ih _ _ (o+1) h1
  exact ⟨h3,grown_trans h2 h4⟩
/-- a row of lo ..< hi -/
def RowW (w:World) (lo hi:Nat) (T:TypeId) (k:Nat) (v:Value) (n:Nat) (xs:List Value):Prop:=w.ownsRow lo T k v n xs∧∀ g,v.ownBlock=some g→g<hi
def RowX (w:World) (lo hi:Nat) (T:TypeId) (k:Nat) (v:Value):Prop:=∃ n xs,RowW w lo hi T k v n xs
theorem RowX.nil (w:World) (lo hi:Nat) (T:TypeId) (k:Nat):RowX w lo hi T k (.slice none 0 0):=⟨0,[],World.ownsRow_nil _ _ _ _,fun g h=>by simp [Value.ownBlock] at h⟩
section
variable {w w':World} {lo hi base size n cap g:Nat} {e:TypeId} {xs:List Value}
theorem RowW.kept {T:TypeId} {k m:Nat} {v:Value} {ys:List Value} (h:RowW w lo hi T k v m ys) (hg:w.grownBy w' (some g)) (hne:v.ownBlock≠some g):RowW w' lo hi T k v m ys:=⟨h.1.kept hg (.inr hne),h.2⟩
theorem own_blk {T:TypeId} {k m c:Nat} {ys:List Value} (h:w.ownsRow lo T k (.slice (some ⟨g,0,none⟩) m c) m ys):∃ cur,Blk w g T cur:=by
 rcases h.2 with ⟨h0,_⟩ | ⟨g',cap',cur,hv,_,hg,_⟩
 ·cases h0
 ·cases hv
  exact ⟨cur,hg⟩
/-- a row is as it was, or it is the row that is written -/
theorem RowW.or (hrow:w.ownsRow base e size (.slice (some ⟨g,0,none⟩) n cap) n xs) {T:TypeId} {k m:Nat} {v:Value} {ys:List Value} (h:RowW w lo hi T k v m ys) (o:Nat) (cs:List Value) :
  RowW (w.setCells g o cs) lo hi T k v m ys∨T=e∧v.ownBlock=some g∧RowW (w.setCells g o cs) lo hi T k v m (setL ys o cs):=by
 by_cases hb:v.ownBlock=some g
 ·refine .inr ?_
  rcases h.1.2 with ⟨rfl,_⟩ | ⟨g',cap',cur,hv,hlo,hg,h1,h2,h3,h4⟩
  ·simp [Value.ownBlock] at hb
  ·subst hv
   have:g'=g:=by simpa [Value.ownBlock] using hb
   subst this
   obtain ⟨cur2,hk⟩:=own_blk hrow
   have hk':Blk w g' T cur:=hg
   have hT:T=e:=by
    unfold Blk at hk hk'
    rw [hk'] at hk
    injection hk with hk
    injection hk
   exact ⟨hT,rfl,(stored_all cs w ys o h.1).1,h.2⟩
 ·exact .inl (h.kept (stored_all cs w xs o hrow).2 hb)
theorem RowX.set (hrow:w.ownsRow base e size (.slice (some ⟨g,0,none⟩) n cap) n xs) {T:TypeId} {k:Nat} {v:Value} (h:RowX w lo hi T k v) (o:Nat) (cs:List Value):RowX (w.setCells g o cs) lo hi T k v:=by
 obtain ⟨m,ys,h⟩:=h
 rcases h.or hrow o cs with h | ⟨_,_,h⟩
 ·exact ⟨m,ys,h⟩
 ·exact ⟨m,_,h⟩
theorem RowX.below {T:TypeId} {k:Nat} {v:Value} (h:RowX w lo hi T k v) (hb:Below w.heap.size w w'):RowX w' lo hi T k v:=by
 obtain ⟨n,xs,h⟩:=h
 exact ⟨n,xs,own_below h.1 hb,h.2⟩
end
/-- what changed lies in lo ..< hi -/
structure OnlyIn (lo hi:Nat) (w w':World):Prop where
 low:Below lo w w'
 high:∀ k,hi≤k→k<w.heap.size→w'.heap[k]?=w.heap[k]?
theorem OnlyIn.refl (lo hi:Nat) (w:World):OnlyIn lo hi w w:=⟨Below.refl _ _,fun _ _ _=>rfl⟩
theorem OnlyIn.trans {lo hi:Nat} {a b c:World} (h:OnlyIn lo hi a b) (k:OnlyIn lo hi b c):OnlyIn lo hi a c :=
 ⟨h.low.trans k.low,fun x hx hs=>(k.high x hx (Nat.lt_of_lt_of_le hs h.low.size)).trans (h.high x hx hs)⟩
theorem OnlyIn.of_below {lo hi:Nat} {w w':World} (h:Below w.heap.size w w') (hlo:lo≤w.heap.size):OnlyIn lo hi w w':=⟨h.mono hlo,fun k _ hs=>h.block k hs⟩
theorem OnlyIn.grown {lo hi g:Nat} {w w':World} (h:w.grownBy w' (some g)) (h1:lo≤g) (h2:g<hi) (hlo:lo≤w.heap.size):OnlyIn lo hi w w' :=
 ⟨⟨h.os,h.tape,h.output,h.size,fun k hk=>h.block k tZ1 tZ6⟩,fun k hk hs=>h.block k hs tZ6⟩
theorem own_only {lo hi base size n:Nat} {e:TypeId} {v:Value} {xs:List Value} {w w':World} (h:w.ownsRow base e size v n xs) (hb:hi≤base) (ho:OnlyIn lo hi w w'):w'.ownsRow base e size v n xs:=by
 refine ⟨h.1,?_⟩
 rcases h.2 with h0 | ⟨g,cap,cur,h1,h2,h3,h4⟩
 ·exact .inl h0
 ·refine .inr ⟨g,cap,cur,h1,h2,?_,h4⟩
  rw [ho.high g tZ1 (Blk.lt (cs:=cur) (t:=e) h3)]
  exact h3
theorem FS.own.only {α:Type} {w w':World} {lo hi base k:Nat} {t:TypeId} {enc:α→List Value} {s:FS α} (h:s.own w base t k enc) (hb:hi≤base) (ho:OnlyIn lo hi w w'):s.own w' base t k enc:=⟨h.1,own_only h.2 hb ho⟩
section
variable {w w':World} {base lo hi:Nat}
theorem RowW.of_own {T:TypeId} {k n:Nat} {v:Value} {xs:List Value} (h:w.ownsRow lo T k v n xs):RowW w lo w.heap.size T k v n xs:=⟨h,fun g hg=>(h.lt g hg).2⟩
theorem FS.own.rowx {α:Type} {k:Nat} {t:TypeId} {enc:α→List Value} {s:FS α} (h:s.own w lo t k enc):RowX w lo w.heap.size t k s.val:=⟨_,_,RowW.of_own h.2⟩
end
/-! ### an element of a row -/
theorem RowW.el {w:World} {lo hi k n:Nat} {T:TypeId} {v:Value} {xs:List Value} (h:RowW w lo hi T k v n xs) {i:Nat} (hi':i<n) :
  ∃ g c,v=.slice (some ⟨g,0,none⟩) n c∧lo≤g∧g<hi∧n≤maxLen∧(∀ j,j<n*k→w.cell? ⟨g,j,none⟩=xs[j]?)∧w.there g (i*k) k∧w.ownsRow lo T k (.slice (some ⟨g,0,none⟩) n c) n xs:=by
 obtain ⟨ho,hh⟩:=h
 rcases ho.2 with ⟨_,h0⟩ | ⟨g,cap,cur,hv,hlo,hg,hnc,hcm,hcs,htk⟩
 ·omega
 ·subst hv
  have hle:(i+1)*k≤n*k:=Nat.mul_le_mul_right _ hi'
  rw [Nat.add_mul,Nat.one_mul] at hle
  have hk2:n*k≤cap*k:=Nat.mul_le_mul_right _ hnc
  have hc:∀ j,w.cell? ⟨g,j,none⟩=cur[j]?:=fun j=>cell_of_row w g j cur T (0,0) hg
  refine ⟨g,cap,rfl,hlo,hh g rfl,by omega,fun j hj=>?_,fun j hj=>⟨?_,(Blk.frozen (w:=w) (g:=g) (t:=T) (cs:=cur) hg) _⟩,ho⟩
  ·rw [hc,← htk,List.getElem?_take,if_pos hj,Array.getElem?_toList]
  ·rw [hc]
   simp
   omega
end Go.Proofs.YtcgclpcocdappaaGreatDoor
namespace Go.Proofs.YtcgclpcocdappaaGreatDoor
open Go.RowKit
set_option maxRecDepth 100000 in
set_option maxHeartbeats 1000000 in
theorem searchSet_any {α:Type} (f0 f1 f2 f3 f4:α→Value) (cf:α→Int) (l:List α) (hl:SignAsc cf l) (n:Nat) (hnl:n=l.length) (A:Option Addr) (c:Nat) (tgt:Value) (w:World) (B:Nat)
  (hr:Reads w B 5 A n (cellsK (fun x=>[f0 x,f1 x,f2 x,f3 x,f4 x]) l)) (hB:B≤w.heap.size) (hn:n≤5000000000000)
  (hcmp:∀ x W,Below w.heap.size w W→Calls Tryz.prog 146 #[.agg #[f0 x,f1 x,f2 x,f3 x,f4 x],tgt] W fun e W'=>e=.returned (.int .i64 (cf x))∧Below W.heap.size W W') :
  Calls Tryz.prog 145 #[.slice A n c,tgt,.func (.func 146) #[] #[]] w fun e w'=>e=.returned (.tuple #[.int .i64 (posF cf l),.bool (atF cf l)])∧Below w.heap.size w w':=by
 have HN:=Lib.hid hnl
 have HL:=Lib.hid hl
 have HC:=Lib.hid hcmp
 clear hnl hl hcmp
 go_enter Tryz.func145,Tryz.ntmps145
 go_wp2_with fail
 go_loopw [9,10] (fun i j wr=>∃ a b:Nat,a≤b∧b≤n∧i=.int .i64 (a:Int)∧j=.int .i64 (b:Int)∧Hid ((∀ (k:Nat) (x:α),k<a→l[k]?=some x→cf x<0)∧∀ (k:Nat) (x:α),b≤k→l[k]?=some x→0≤cf x)∧Below w.heap.size w wr) (fun i j _=>(intOf j).toNat-(intOf i).toNat)
 case atStart=>exact ⟨0,n,Nat.zero_le _,Nat.le_refl _,rfl,rfl,⟨fun k x hk _=>by omega,fun k x hk hx=>by have:=(List.getElem?_eq_some_iff.1 hx).1;have:=HN.out;omega⟩,Below.refl _ _⟩
 case round =>
  obtain ⟨a,b,hab,hbn,rfl,rfl,hI,hbw⟩:=hrel
  by_cases hlt:a<b
  ·obtain ⟨h,hh⟩:∃ h,h=(a+b) / 2:=⟨_,rfl⟩
   have hha:a≤h:=tZ1
   have hhb:h<b:=tZ1
   have hlI:(a:Int)<(b:Int):=tZ1
   have hrw:=hr.below (hbw.mono hB)
   obtain ⟨ad,rfl,hadB,c0,c1,c2,c3,c4⟩:=hrw.el5 HN.out (show h<n by omega)
   obtain ⟨x,hx⟩:∃ x,x=l[h]'tZ7:=⟨_,rfl⟩
   rw [← hx] at c0 c1 c2 c3 c4
   have HX:=Lib.hid (show l[h]?=some x by rw [hx];exact List.getElem?_eq_getElem _)
   have HH:=Lib.hid hh
   have hcx:=HC.out x wr hbw
   obtain ⟨z,hz⟩:∃ z,z=cf x:=⟨_,rfl⟩
   rw [← hz] at hcx
   have HZ:=Lib.hid hz
   clear hx hr hz
   rw [hh] at c0 c1 c2 c3 c4
   exact mZ35
  ·obtain rfl:a=b:=tZ1
   have hpos:posF cf l=a:=posF_eq cf l a tZ7 hI.out.1 (fun x hx=>hI.out.2 a x (Nat.le_refl _) hx)
   have hrw:=hr.below (hbw.mono hB)
   by_cases han:a<n
   ·obtain ⟨ad,rfl,hadB,c0,c1,c2,c3,c4⟩:=hrw.el5 HN.out han
    obtain ⟨x,hx⟩:∃ x,x=l[a]'tZ7:=⟨_,rfl⟩
    rw [← hx] at c0 c1 c2 c3 c4
    exact mZ34
   ·have hat:atF cf l=false:=by
     unfold atF
     rw [hpos,List.getElem?_eq_none tZ7]
     rfl
    have HPOS:=Lib.hid hpos
    have HAT:=Lib.hid hat
    clear hr hrw hpos hat
    go_wp2_with fail
    go_ret2
    exact ⟨by rw [HPOS.out,HAT.out];rfl,hbw⟩
end Go.Proofs.YtcgclpcocdappaaGreatDoor
namespace Go.Proofs.YtcgclpcocdappaaGreatDoor
open Go.RowKit
set_option maxRecDepth 100000 in
set_option maxHeartbeats 1000000 in
theorem fiS_index {α:Type} (f:α→Value) (p:α→Bool) (l:List α) (n:Nat) (hnl:n=l.length) (A:Option Addr) (c:Nat) (w:World) (B:Nat)
  (hr:Reads w B 1 A n (l.map f)) (hB:B≤w.heap.size) (hn:n≤5000000000000)
  (hp:∀ x∈l,∀ W,Calls Tryz.prog 143 #[f x] W fun e W'=>e=.returned (.bool (p x))∧Below W.heap.size W W') :
  Calls Tryz.prog 186 #[.slice A n c,.func (.func 143) #[] #[]] w fun e w'=>e=.returned (.int .i64 (firstI p l))∧Below w.heap.size w w':=by
 have HN:=Lib.hid hnl
 have HP:=Lib.hid hp
 clear hnl hp
 go_enter Tryz.func186,Tryz.ntmps186
 exact mZ27
theorem fiS_contains {α:Type} (f:α→Value) (p:α→Bool) (l:List α) (n:Nat) (hnl:n=l.length) (A:Option Addr) (c:Nat) (w:World) (B:Nat)
  (hr:Reads w B 1 A n (l.map f)) (hB:B≤w.heap.size) (hn:n≤5000000000000)
  (hp:∀ x∈l,∀ W,Calls Tryz.prog 143 #[f x] W fun e W'=>e=.returned (.bool (p x))∧Below W.heap.size W W') :
  Calls Tryz.prog 142 #[.slice A n c,.func (.func 143) #[] #[]] w fun e w'=>e=.returned (.bool (l.any p))∧Below w.heap.size w w':=by
 have hcall:=Lib.hid (fiS_index f p l n hnl A c w B hr hB hn hp)
 have HA:=Lib.hid (firstI_any p l)
 clear hnl hr hp
 go_enter Tryz.func142,Tryz.ntmps142
 go_wp2_with fail
 refine hcall.out.mono ?_
 exact mZ29
end Go.Proofs.YtcgclpcocdappaaGreatDoor
namespace Go.Proofs.YtcgclpcocdappaaGreatDoor
open Go.RowKit
section
variable {P:Program}
theorem run_clear_rowK (w:World) (t ty e:TypeId) (z:Value) (ht:P.underlying t=some (.slice e)) (hv:∀ w,(zeroValue e).run P w=.ok z w) (h1:∀ u∈z.cells.toList,u.oneCell'=true)
  (g o n c:Nat) (cur:List Value) (T:TypeId) (hg:w.heap[g]?=some (.cells cur.toArray T (0,0))) (hn:0<n) (hfit:o+n*z.cells.size≤cur.length) :
  (Builtin.clear_ #[t] ty #[.slice (some ⟨g,o,none⟩) n c]).run P w=.ok (.tuple #[]) (w.setRow g (splice cur o (Builtin.zeroCells z.cells n).toList).toArray):=by
 have hzl:(Builtin.zeroCells z.cells n).toList.length=n*z.cells.size:=by simp [Builtin.zeroCells]
 have hz1:∀ u∈(Builtin.zeroCells z.cells n).toList,u.oneCell'=true:=by
  intro u hu
  simp only [Builtin.zeroCells,Array.toList_map,Array.toList_range,List.mem_map,List.mem_range] at hu
  obtain ⟨i,hi,rfl⟩:=hu
  have hk:0<z.cells.size:=by
   rcases Nat.eq_zero_or_pos z.cells.size with h | h
   ·rw [h] at hi;omega
   ·exact h
  have hm:=Nat.mod_lt i hk
  rw [getElem!_pos z.cells _ hm]
  exact h1 _ tZ3
 have hst:=run_storeCells_at P g o T (Builtin.zeroCells z.cells n).toList 0 cur.toArray w hg (by rw [hzl];simpa using hfit) hz1
 obtain ⟨m,rfl⟩:∃ m,n=m+1:=⟨n-1,by omega⟩
 simp [Builtin.clear_,run_underlying ht,hv,hst,splice]
theorem wp_clearK {o:Oper} {a:Act} {w:World} {K:Act→World→Prop} {Q:Exit→Act→World→Prop} (d:Operand) (t:TypeId)
  (ho:o.op=.call { callee:=.builtin .clear,args:=#[d],argTypes:=#[t] }) (e:TypeId) (z:Value) (ht:P.underlying t=some (.slice e)) (hv:∀ w,(zeroValue e).run P w=.ok z w) (h1:∀ u∈z.cells.toList,u.oneCell'=true)
  (g off n c:Nat) (hd:a.eval d=.slice (some ⟨g,off,none⟩) n c) (cur:List Value) (T:TypeId) (hg:w.heap[g]?=some (.cells cur.toArray T (0,0))) (hfit:off+n*z.cells.size≤cur.length)
  (h:∀ w' zs,zs.length=n*z.cells.size→Hid (w'.heap[g]?=some (.cells (splice cur off zs).toArray T (0,0)))→w.grownBy w' (some g)→K (a.put o.dst (.tuple #[])) w'):o.wp P a w K Q:=by
 rcases Nat.eq_zero_or_pos n with h0 | h0
 ·subst h0
  have hrun:(Builtin.clear_ #[t] o.type #[.slice (some ⟨g,off,none⟩) 0 c]).run P w=.ok (.tuple #[]) w:=by simp [Builtin.clear_,run_underlying ht]
  unfold Oper.wp
  simp [execOp,ho,resolve,invoke,builtin,hd,hrun,Result.andThen]
  exact h w [] tZ3 (show _=_ by simpa [splice] using hg) (World.grownBy.refl _ _)
 ·have hrun:=run_clear_rowK (P:=P) w t o.type e z ht hv h1 g off n c cur T hg h0 hfit
  unfold Oper.wp
  simp [execOp,ho,resolve,invoke,builtin,hd,hrun,Result.andThen]
  exact h _ _ (by simp [Builtin.zeroCells]) (show _=_ from setRow_heap w g _ _ T _ hg) (grown_setRow _)
theorem wpList_clearK {w:World} {ops:Array Oper} {rest:List Oper} {o:Oper} {a:Act} {Q:Exit→Act→World→Prop} (hgd:o.guard=none) (d:Operand) (t:TypeId)
  (ho:o.op=.call { callee:=.builtin .clear,args:=#[d],argTypes:=#[t] }) (e:TypeId) (z:Value) (ht:P.underlying t=some (.slice e)) (hv:∀ w,(zeroValue e).run P w=.ok z w) (h1:∀ u∈z.cells.toList,u.oneCell'=true)
  (g off n c:Nat) (hd:a.eval d=.slice (some ⟨g,off,none⟩) n c) (cur:List Value) (T:TypeId) (hg:w.heap[g]?=some (.cells cur.toArray T (0,0))) (hfit:off+n*z.cells.size≤cur.length)
  (h:∀ w' zs,zs.length=n*z.cells.size→Hid (w'.heap[g]?=some (.cells (splice cur off zs).toArray T (0,0)))→w.grownBy w' (some g)→wpList P ops Q rest (a.put o.dst (.tuple #[])) w'):wpList P ops Q (o :: rest) a w :=
 wpList_plain hgd fun _ hK=>wp_clearK d t ho e z ht hv h1 g off n c hd cur T hg hfit (fun w' zs h0 h1 h2=>hK _ _ (h w' zs h0 h1 h2))
end
end Go.Proofs.YtcgclpcocdappaaGreatDoor
namespace Go.Proofs.YtcgclpcocdappaaGreatDoor
open Go.RowKit
def cmpS (x y:BS):Int:=if Op.bytesLess x y=true then -1 else if Op.bytesLess y x=true then 1 else 0
theorem cmpS_neg (x y:BS):cmpS x y<0↔Op.bytesLess x y=true:=by
 unfold cmpS
 split
 ·rename_i h;simp [h]
 ·rename_i h
  split
  ·simp [h]
  ·simp [h]
theorem cmpS_zero (x y:BS):cmpS x y=0↔x=y:=by
 unfold cmpS
 split
 ·rename_i h
  constructor
  ·intro e;cases e
  ·intro e;exact absurd e (bl_ne h)
 ·rename_i h
  split
  ·rename_i h2
   constructor
   ·intro e;cases e
   ·intro e;exact absurd e.symm (bl_ne h2)
  ·rename_i h2
   constructor
   ·intro _
    by_cases e:x=y
    ·exact e
    ·exact absurd (bl_tri x y tZ72 e) h2
   ·intro _;rfl
set_option maxRecDepth 100000 in
theorem isNaNS_any (x:BS) (w:World):Calls Tryz.prog 188 #[.string ⟨x.toArray⟩] w fun e w'=>e=.returned (.bool false)∧∃ q,w'=w.drewN q:=by
 go_enter Tryz.func188,Tryz.ntmps188
 exact mZ52
set_option maxRecDepth 100000 in
theorem compareS_any (x y:BS) (w:World):Calls Tryz.prog 147 #[.string ⟨x.toArray⟩,.string ⟨y.toArray⟩] w fun e w'=>e=.returned (.int .i64 (cmpS x y))∧∃ q,w'=w.drewN q:=by
 have hlss:=lssS 9 x y
 have hgtr:=gtrS 9 x y
 go_enter Tryz.func147,Tryz.ntmps147
 go_wp2_with fail
 refine (isNaNS_any x _).mono ?_
 rintro e w1 ⟨rfl,q1,rfl⟩
 go_wp2_with fail
 refine (isNaNS_any y _).mono ?_
 rintro e w1 ⟨rfl,q2,rfl⟩
 cases h1:Op.bytesLess x y with
 | true =>
  have HV:Hid (cmpS x y=-1):=by show _=_;unfold cmpS;rw [if_pos h1]
  rw [h1] at hlss hgtr
  clear h1
  go_wp2_with fail
  go_ret
  exact ⟨by rw [HV.out];rfl,q1+q2,rfl⟩
 | false =>
  by_cases h2:x=y
  ·have HV:Hid (cmpS x y=0):=(cmpS_zero x y).2 h2
   have hd:(Op.bytesLess x y || x == y)=true:=by simp [h2]
   exact mZ53
  ·have HV:Hid (cmpS x y=1):=by show _=_;unfold cmpS;rw [if_neg (by rw [h1];simp),if_pos (bl_tri x y h1 h2)]
   have hd:(Op.bytesLess x y || x == y)=false:=by rw [h1];simpa using h2
   exact mZ53
end Go.Proofs.YtcgclpcocdappaaGreatDoor
namespace Go.Proofs.YtcgclpcocdappaaGreatDoor
open Go.RowKit
/-- what lies in the slot of an operation that has come up -/
theorem tO {ops:Array Oper} {a0 A:Act} {m:Nat→Option Value} {k i:Nat} {v:Value} (hA:A=frameM a0 ops m) (hv:m i=some v) (hw:ownerOf ops k=some i:=by kernel_rfl) (hk:k<a0.tmps.size:=by exact of_decide_eq_true tZ2):A.tmps[k]?.getD undef=v:=by
 rw [hA]
 exact tmps_own hw hv hk
/-- what lies in a slot of no operation's -/
theorem tF {ops:Array Oper} {a0 A:Act} {m:Nat→Option Value} {k:Nat} {v:Value} (hA:A=frameM a0 ops m) (hw:ownerOf ops k=none:=by kernel_rfl) (hv:a0.tmps[k]?.getD undef=v:=by rfl):A.tmps[k]?.getD undef=v:=by
 rw [hA,← hv]
 exact tmps_free hw
/-- an operation whose value is said -/
theorem dV {m:Nat→Option Value} {j:Nat} {p:Value→Prop} {val:Value} (h:∃ v,m j=some v∧p v) (hp:∀ v,p v→v=val:=by exact fun _ h=>h):m j=some val:=by
 obtain ⟨v,h1,h2⟩:=h
 rw [h1,hp v h2]
/-- what lies in the slot of an operation that this one waits for -/
theorem eD {o:Oper} {Gs:List (Value→World→Prop)} {W:World} {ops:Array Oper} {a0 A:Act} {m:Nat→Option Value} {val:Value}
  (hd:∀ e∈o.after,Region.binds .any e=true→∃ v,m e.on=some v∧Says Gs e.on v W) (hA:A=frameM a0 ops m) (j k:Nat)
  (hm:(o.after.any fun e=>Region.binds .any e && e.on == j)=true:=by kernel_rfl)
  (hp:∀ v,Says Gs j v W→v=val:=by exact fun _ h=>h) (hw:ownerOf ops k=some j:=by kernel_rfl) (hk:k<a0.tmps.size:=by exact of_decide_eq_true tZ2):A.tmps[k]?.getD undef=val:=by
 obtain ⟨i,hi,hm⟩:=Array.any_eq_true.1 hm
 obtain ⟨e,he⟩:∃ e,e=o.after[i]:=⟨_,rfl⟩
 rw [← he] at hm
 have he:e∈o.after:=tZ158
 have hb:Region.binds .any e=true:=by cases h:Region.binds .any e <;> simp [h] at hm ⊢
 obtain rfl:e.on=j:=by simpa [hb] using hm
 obtain ⟨v,h1,h2⟩:=hd e he hb
 rw [hA]
 exact tmps_own hw (h1.trans (congrArg some (hp v h2))) hk
/-- the end of a step of one value -/
theorem zP {p:Prop} (h:p:=by
 try clear hdeps
 try clear hcl
 try clear hmi
 have hK0:=hK _ _ (Below.refl _ _) (Eq.refl _)
 clear hA hK
 go_simp
 exact hK0):p:=h
end Go.Proofs.YtcgclpcocdappaaGreatDoor
namespace Go.Proofs.YtcgclpcocdappaaGreatDoor
open Go.RowKit
theorem cellsK_setF {α:Type} {enc:α→List Value} {k:Nat} (hk:∀ x,(enc x).length=k) (l:List α) (i j:Nat) (hj:j<k) (x':α) (u:Value) (he:∀ x,l[i]?=some x→enc x'=(enc x).set j u) :
  cellsK enc (l.set i x')=(cellsK enc l).set (i*k+j) u:=by
 induction l generalizing i with
 | nil=>simp [cellsK]
 | cons x l ih =>
  cases i with
  | zero =>
   show enc x'++cellsK enc l=(enc x++cellsK enc l).set (0*k+j) u
   rw [he x rfl,Nat.zero_mul,Nat.zero_add,List.set_append_left _ _ (by rw [hk];exact hj)]
  | succ i =>
   show enc x++cellsK enc (l.set i x')=(enc x++cellsK enc l).set ((i+1)*k+j) u
   rw [ih i (fun y hy=>he y hy),Nat.succ_mul,List.set_append_right _ _ (by rw [hk];omega),hk]
   congr 2
   omega
section
variable {α:Type} {w w':World} {base k g:Nat} {t T:TypeId} {enc:α→List Value} {s:FS α}
/-- one field of one element stored -/
theorem FS.own.field (h:s.own w base t k enc) (hk:∀ x,(enc x).length=k) (hA:s.A=some ⟨g,0,none⟩) (i j:Nat) (hj:j<k) (x':α) (u:Value) (he:∀ x,s.l[i]?=some x→enc x'=(enc x).set j u) :
  FS.own (w.setCell ⟨g,i*k+j,none⟩ u) base t k enc ⟨s.A,s.n,s.c,s.l.set i x'⟩∧w.grownBy (w.setCell ⟨g,i*k+j,none⟩ u) (some g):=by
 obtain ⟨A,n,c,l⟩:=s
 simp only at hA
 subst hA
 have h2:=World.ownsRow.stored h.2 (i*k+j) u
 refine ⟨⟨by rw [List.length_set];exact h.1,?_⟩,h2.2⟩
 show World.ownsRow _ base t k _ n (cellsK enc (l.set i x'))
 rw [cellsK_setF hk l i j hj x' u he]
 exact h2.1
/-- a row that is not empty is a block of its own -/
theorem FS.own.blk (h:s.own w base t k enc) (h0:0<s.n):∃ g cs,s.A=some ⟨g,0,none⟩∧base≤g∧Blk w g t cs:=by
 obtain ⟨A,n,c,l⟩:=s
 rcases h.2.2 with ⟨e,e0⟩ | ⟨g,cap,cur,e,hb,hg,_⟩
 ·simp only at h0 e0
  omega
 ·unfold FS.val at e
  injection e with e1 e2 e3
  exact ⟨g,cur,e1,hb,hg⟩
/-- what is grown in a block of another element type keeps a row -/
theorem FS.own.keptT {cs:Array Value} (h:s.own w base t k enc) (hg:w.grownBy w' (some g)) (hb:Blk w g T cs) (hne:t≠T):s.own w' base t k enc :=
 ⟨h.1,h.2.kept hg (.inr (own_blk_ne h.2 hb hne))⟩
end
end Go.Proofs.YtcgclpcocdappaaGreatDoor
namespace Go.Proofs.YtcgclpcocdappaaGreatDoor
open Go.RowKit
set_option maxRecDepth 100000 in
theorem cloneB_any (xs:List Value) (n:Nat) (A:Option Addr) (c:Nat) (w:World) (B:Nat) (hr:Reads w B 2 A n xs) (hB:B≤w.heap.size) (h1:∀ u∈xs,u.oneCell'=true) (hn:n≤5000000000000) :
  Calls Tryz.prog 45 #[.slice A n c] w fun e w'=>∃ v,e=.returned v∧w'.ownsRow w.heap.size 75 2 v n xs∧Below w.heap.size w w':=by
 obtain ⟨i0,hi0,hz0,hz1,hz2⟩:=info_parts Tryz.infoB
 exact mZ15
end Go.Proofs.YtcgclpcocdappaaGreatDoor
namespace Go.Proofs.YtcgclpcocdappaaGreatDoor
open Go.RowKit
def getV (l:PL) (n:BS):Value:=.tuple #[.string ⟨((getP l n).getD []).toArray⟩,.bool (getP l n).isSome]
theorem find_none {l:PL} {n:BS} (h:∀ x∈l,x.1≠n):getP l n=none:=by
 unfold getP
 rw [List.find?_eq_none.2]
 ·rfl
 ·intro x hx e
  exact h x hx (beq_iff_eq.1 e)
theorem find_at {l:PL} {n:BS} {k:Nat} {x:BS×BS} (h:∀ y∈l.take k,y.1≠n) (hx:l[k]?=some x) (he:x.1=n):getP l n=some x.2:=by
 obtain ⟨hk,hxk⟩:=List.getElem?_eq_some_iff.1 hx
 have:l=l.take k++x :: l.drop (k+1):=by
  rw [← hxk,← List.drop_eq_getElem_cons hk,List.take_append_drop]
 rw [this]
 clear this hx hxk hk
 generalize l.take k=a at h ⊢
 induction a with
 | nil=>rw [List.nil_append,getP_cons,if_pos he]
 | cons y a ih=>rw [List.cons_append,getP_cons,if_neg (h y (List.mem_cons_self ..)),ih (fun z hz=>h z (List.mem_cons_of_mem _ hz))]
end Go.Proofs.YtcgclpcocdappaaGreatDoor
namespace Go.Proofs.YtcgclpcocdappaaGreatDoor
open Go.RowKit
/-- a predicate that is a function value: called in a world that keeps what it captured -/
structure PredD (P:Program) (g:Nat) (caps:Array Value) {α:Type} (enc:α→Array Value) (p:α→Bool) (Keep:World→Prop):Prop where
 call:∀ x W,Keep W→Calls P g (#[.agg (enc x)]++caps) W fun e W'=>e=.returned (.bool (p x))∧Below W.heap.size W W'
 below:∀ W W',Keep W→Below W.heap.size W W'→Keep W'
set_option maxRecDepth 100000 in
set_option maxHeartbeats 1000000 in
theorem delBk_index {α:Type} (f0 f1:α→Value) (p:α→Bool) (l:List α) (n:Nat) (hnl:n=l.length) (A:Option Addr) (c:Nat) (p0 p1:Addr) (Keep:World→Prop) (w:World) (B:Nat)
  (hr:Reads w B 2 A n (cellsK (fun x=>[f0 x,f1 x]) l)) (hB:B≤w.heap.size) (hn:n≤5000000000000) (hp:PredD Tryz.prog 157 #[.pointer (some p0),.pointer (some p1)] (fun x=>#[f0 x,f1 x]) p Keep) (hk0:Keep w) :
  Calls Tryz.prog 195 #[.slice A n c,.func (.func 157) #[] #[.pointer (some p0),.pointer (some p1)]] w fun e w'=>e=.returned (.int .i64 (firstI p l))∧Below w.heap.size w w'∧Keep w':=by
 have HN:=Lib.hid hnl
 have HP:=Lib.hid hp
 clear hnl hp
 go_enter Tryz.func195,Tryz.ntmps195
 go_wp2_with fail
 go_loopw [8] (fun j wr=>∃ k:Nat,k≤n∧j=.int .i64 (k:Int)∧Hid (∀ y∈l.take k,p y=false)∧Below w.heap.size w wr∧Keep wr) (fun j _=>n-(intOf j).toNat)
 case atStart=>exact ⟨0,Nat.zero_le _,rfl,(show ∀ y∈_,_ by simp),Below.refl _ _,hk0⟩
 case round =>
  obtain ⟨k,hk,rfl,hno,hbw,hkw⟩:=hrel
  by_cases hlt:k<n
  ·have hki:(k:Int)<(n:Int):=tZ1
   have hkl:k<l.length:=tZ7
   obtain ⟨ad,rfl,_,c0,c1⟩:=(hr.below (hbw.mono hB)).el2 HN.out hlt
   obtain ⟨x,hx⟩:∃ x,x=l[k]'hkl:=⟨_,rfl⟩
   rw [← hx] at c0 c1
   have htk:=List.take_succ_eq_append_getElem hkl
   rw [← hx] at htk
   have HTK:=Lib.hid htk
   have HX:=Lib.hid (show l[k]?=some x by rw [hx];exact List.getElem?_eq_getElem _)
   have hc:=HP.out.call x wr hkw
   obtain ⟨b,hb⟩:∃ b,b=p x:=⟨_,rfl⟩
   rw [← hb] at hc
   have HBX:=Lib.hid hb
   simp only [List.append_toArray,List.cons_append,List.nil_append] at hc
   clear hx htk hr hb
   go_wp2_with fail
   refine hc.mono ?_
   clear hc
   rintro e w1 ⟨rfl,hb1⟩
   have hkw1:=HP.out.below wr w1 hkw hb1
   have hbw1:=hbw.trans (hb1.mono hbw.size)
   cases b with
   | true =>
    go_wp2_with fail
    go_ret
    have hf:=firstP_eq p l k x hno.out HX.out HBX.out.symm
    exact ⟨by unfold firstI;rw [hf,if_pos hkl];rfl,hbw1,hkw1⟩
   | false =>
    exact mZ54
  ·have hkn:k=n:=tZ1
   have HF:Hid (firstI p l=-1):=by
    exact mZ24
   clear hr hkn
   go_wp2_with fail
   go_ret
   exact ⟨by rw [HF.out];rfl,hbw,hkw⟩
/-! ### DeleteFunc -/
/-- between two rounds: what stays lies at the beginning, what has not been looked at as it was -/
structure DelI {α:Type} (p:α→Bool) (l L:List α) (i j:Nat):Prop where
 len:L.length=l.length
 le:i≤j
 jl:j≤l.length
 pre:L.take i=(l.take j).filter fun x=>!p x
 suf:L.drop j=l.drop j
theorem DelI.keep {α:Type} {p:α→Bool} {l L:List α} {i j:Nat} {x:α} (h:DelI p l L i j) (hlt:i<j) (hx:l[j]?=some x) (hp:p x=false):DelI p l (L.set i x) (i+1) (j+1):=by
 have hj:=(List.getElem?_eq_some_iff.1 hx).1
 refine ⟨by rw [List.length_set];exact h.len,by omega,by omega,?_,?_⟩
 ·rw [List.take_succ_eq_append_getElem hj,List.filter_append,← h.pre,(List.getElem?_eq_some_iff.1 hx).2]
  rw [List.take_succ_eq_append_getElem (by rw [List.length_set,h.len];omega),List.take_set_of_le (Nat.le_refl _),List.getElem_set_self]
  simp [hp]
 ·rw [List.drop_set_of_lt tZ1]
  have:=congrArg (List.drop 1) h.suf
  simpa using this
theorem DelI.skip {α:Type} {p:α→Bool} {l L:List α} {i j:Nat} {x:α} (h:DelI p l L i j) (hx:l[j]?=some x) (hp:p x=true):DelI p l L i (j+1):=by
 have hj:=(List.getElem?_eq_some_iff.1 hx).1
 refine ⟨h.len,by have:=h.le;omega,by omega,?_,?_⟩
 ·rw [List.take_succ_eq_append_getElem hj,List.filter_append,← h.pre,(List.getElem?_eq_some_iff.1 hx).2]
  simp [hp]
 ·have:=congrArg (List.drop 1) h.suf
  simpa using this
theorem DelI.get {α:Type} {p:α→Bool} {l L:List α} {i j:Nat} {x:α} (h:DelI p l L i j) (hx:l[j]?=some x):L[j]?=some x:=by
 have:=congrArg (fun m=>m[0]?) h.suf
 simpa [hx] using this
theorem cells_set {α:Type} {enc:α→List Value} {k:Nat} (hk:∀ x,(enc x).length=k) (L:List α) (i:Nat) (x:α) (hi:i<L.length):cellsK enc (L.set i x)=(cellsK enc L).take (i*k)++enc x++(cellsK enc L).drop ((i+1)*k):=by
 rw [List.set_eq_take_append_cons_drop,if_pos hi,cellsK_append,show x :: L.drop (i+1)=[x]++L.drop (i+1) from rfl,cellsK_append,cellsK_one,cellsK_take hk,cellsK_drop hk,List.append_assoc]
theorem set_cells2 (xs:List Value) (v0 v1:Value) (i:Nat) (h:(i+1)*2≤xs.length):((xs.set (i*2+0) v0).set (i*2+1) v1)=xs.take (i*2)++[v0,v1]++xs.drop ((i+1)*2):=by
 have e:xs=xs.take (i*2)++(xs[i*2+0]'tZ1 :: xs[i*2+1]'tZ1 :: xs.drop ((i+1)*2)):=by
  conv=>lhs;rw [← List.take_append_drop (i*2) xs]
  congr 1
  rw [show (i+1)*2=i*2+2 by omega]
  rw [show xs.drop (i*2)=xs.drop (i*2+0) from rfl,List.drop_eq_getElem_cons (show i*2+0<xs.length by omega),List.drop_eq_getElem_cons (show i*2+1<xs.length by omega)]
 have hl:(xs.take (i*2)).length=i*2:=tZ79
 generalize xs.take (i*2)=P at e hl ⊢
 generalize xs.drop ((i+1)*2)=R at e ⊢
 generalize xs[i*2+0]'tZ1=x0 at e
 generalize xs[i*2+1]'tZ1=x1 at e
 rw [e]
 rw [List.set_append_right _ _ (by rw [hl];omega),hl,show i*2+0-i*2=0 by omega]
 rw [List.set_append_right _ _ (by rw [hl];omega),hl,show i*2+1-i*2=1 by omega]
 simp
set_option maxRecDepth 100000 in
set_option maxHeartbeats 2000000 in
theorem delBk_any (p:Int×List UInt8→Bool) (l:List (Int×List UInt8)) (n:Nat) (hnl:n=l.length) (A0:Option Addr) (cp base:Nat) (p0 p1:Addr) (Keep:World→Prop) (w:World) (hown:w.ownsRow base 75 2 (.slice A0 n cp) n (cellsK (fun x:Int×List UInt8=>[Value.int .i64 x.1,Value.string ⟨x.2.toArray⟩]) l)) (hn:n≤5000000000000)
  (hp:PredD Tryz.prog 157 #[.pointer (some p0),.pointer (some p1)] (fun x:Int×List UInt8=>#[Value.int .i64 x.1,Value.string ⟨x.2.toArray⟩]) p Keep) (hkg:∀ W W',Keep W→W.grownBy W' (Value.slice A0 n cp).ownBlock→Keep W') (hk0:Keep w) :
  Calls Tryz.prog 156 #[.slice A0 n cp,.func (.func 157) #[] #[.pointer (some p0),.pointer (some p1)]] w fun e w' =>
   ∃ v,e=.returned v∧w'.ownsRow base 75 2 v (l.filter fun x=>!p x).length (cellsK (fun x:Int×List UInt8=>[Value.int .i64 x.1,Value.string ⟨x.2.toArray⟩]) (l.filter fun x=>!p x))∧w.grownBy w' (Value.slice A0 n cp).ownBlock:=by
 have hidx:=delBk_index (fun x:Int×List UInt8=>Value.int .i64 x.1) (fun x:Int×List UInt8=>Value.string ⟨x.2.toArray⟩) p l n hnl A0 cp p0 p1 Keep w w.heap.size (Reads.of_own hown) (Nat.le_refl _) hn hp hk0
 have hlen:∀ x:Int×List UInt8,((fun x:Int×List UInt8=>[Value.int .i64 x.1,Value.string ⟨x.2.toArray⟩]) x).length=2:=fun _=>rfl
 by_cases hf:firstP p l<l.length
 ·obtain ⟨i0,hi0⟩:∃ i0,i0=firstP p l:=⟨_,rfl⟩
  have hfi:firstI p l=(i0:Int):=by unfold firstI;rw [if_pos hf,hi0]
  rw [hfi] at hidx
  have hin:i0<n:=tZ1
  have hx0:∃ x,l[i0]?=some x∧p x=true:=by
   obtain ⟨x,hx⟩:∃ x,l[i0]?=some x:=⟨_,List.getElem?_eq_getElem tZ1⟩
   refine ⟨x,hx,?_⟩
   have h1:(l.takeWhile fun x=>!p x)=l.take i0:=by
    rw [hi0]
    unfold firstP
    exact List.prefix_iff_eq_take.1 (List.takeWhile_prefix _)
   have h2:=List.takeWhile_append_dropWhile (p:=fun x=>!p x) (l:=l)
   rw [h1] at h2
   have h3:l.dropWhile (fun x=>!p x)=l.drop i0:=List.append_cancel_left (h2.trans (List.take_append_drop i0 l).symm)
   have h4:l.drop i0=x :: l.drop (i0+1):=by
    rw [List.drop_eq_getElem_cons tZ1]
    congr 1
    exact (List.getElem?_eq_some_iff.1 hx).2
   rw [h4] at h3
   have h5:=List.head_dropWhile_not (fun x=>!p x) (l:=l) (by rw [h3];simp)
   simp only [h3,List.head_cons] at h5
   simpa using h5
  have hD0:DelI p l l i0 (i0+1):=by
   obtain ⟨x,hx,hpx⟩:=hx0
   have hj:=(List.getElem?_eq_some_iff.1 hx).1
   refine ⟨rfl,by omega,by omega,?_,rfl⟩
   rw [List.take_succ_eq_append_getElem hj,List.filter_append,(List.getElem?_eq_some_iff.1 hx).2,List.filter_eq_self.2 (fun y hy=>by rw [hi0] at hy;simp [firstP_before p l y hy])]
   simp [hpx]
  rcases hown.2 with ⟨_,h0⟩ | ⟨g,cap,cur,hs,hbg,_,hnc,hcm,_,_⟩
  ·omega
  ·injection hs with e1 _ e2
   subst e1 e2
   have hkg:∀ W W',Keep W→W.grownBy W' (some g)→Keep W':=hkg
   have HD0:=Lib.hid hD0
   have HN:=Lib.hid hnl
   have HP:=Lib.hid hp
   have HOWN0:=Lib.hid hown
   have hgw:=hown.lt g rfl
   unfold maxLen at hcm
   have hib:((i0:Int) == -1)=false:=by simp <;> omega
   clear hi0 hfi hf hx0 hD0 hnl hp hown hk0
   go_enter Tryz.func156,Tryz.ntmps156
   go_wp2_with fail
   refine hidx.mono ?_
   clear hidx
   rintro e w1 ⟨rfl,hb1,hk1⟩
   have hown1:=own_below HOWN0.out hb1
   have hgr1:w.grownBy w1 (some g):=⟨hb1.os,hb1.tape,hb1.output,hb1.size,fun k hk _=>hb1.block k hk⟩
   clear hb1
   go_wp2_with fail
   go_loopw [5,6] (fun vi vj wr=>∃ (i j:Nat) (L:List (Int×List UInt8)),vi=.int .i64 (i:Int)∧vj=.int .i64 (j:Int)∧i<j∧j≤n∧Hid (DelI p l L i j)∧wr.ownsRow base 75 2 (.slice (some ⟨g,0,none⟩) n cp) n (cellsK (fun x:Int×List UInt8=>[Value.int .i64 x.1,Value.string ⟨x.2.toArray⟩]) L)∧w.grownBy wr (some g)∧Keep wr) (fun _ vj _=>n-(intOf vj).toNat)
   case atStart=>exact ⟨i0,i0+1,l,rfl,by go_num,by omega,by omega,HD0,hown1,hgr1,hk1⟩
   case round =>
    obtain ⟨i,j,L,rfl,rfl,hij,hjn,hD,hownr,hgrr,hkr⟩:=hrel
    clear hown1 hgr1 hk1
    have hwsz:=hgrr.size
    by_cases hlt:j<n
    ·have hji:(j:Int)<(n:Int):=tZ1
     have hii:(i:Int)<(n:Int):=tZ1
     have hjl:j<l.length:=tZ7
     obtain ⟨x,hx⟩:∃ x,x=l[j]'hjl:=⟨_,rfl⟩
     have hxl:l[j]?=some x:=by rw [hx];exact List.getElem?_eq_getElem _
     have hxL:=hD.out.get hxl
     have hLl:=hD.out.len
     have hjL:j<L.length:=tZ1
     have hiL:i<L.length:=tZ1
     have hel:=fun d (hd:d<2)=>(hownr.cellAt (j*2+d) tZ1).trans (cellsK_get hlen L j hjL d hd)
     rw [(List.getElem?_eq_some_iff.1 hxL).2] at hel
     have c0:=hel 0 tZ1
     have c1:=hel 1 tZ1
     have hci:=fun d (hd:d<2)=>(hownr.cellAt (i*2+d) tZ1).trans (cellsK_get hlen L i hiL d hd)
     have d0:=hci 0 tZ1
     have q0:=hownr.frozenAt (i*2+0)
     have d1:=hci 1 tZ1
     have q1:=hownr.frozenAt (i*2+1)
     generalize L[i]'hiL=y0 at d0 d1
     have hc:=fun W hk=>HP.out.call x W hk
     simp only [List.append_toArray,List.cons_append,List.nil_append] at hc
     obtain ⟨b,hb⟩:∃ b,b=p x:=⟨_,rfl⟩
     rw [← hb] at hc
     have HBX:=Lib.hid hb
     have HXL:=Lib.hid hxl
     have HLL:=Lib.hid hLl
     clear hx hb hel hci hxL hxl hLl
     obtain ⟨xi,xs⟩:=x
     simp only [zE,zD,Nat.add_zero] at c0 d0 c1 d1
     simp only at hc
     have hgal:wr.grownBy (wr.alloc (.cells #[Value.int .i64 xi,Value.string ⟨xs.toArray⟩] 75)) (some g):=⟨rfl,rfl,rfl,by simp,fun k hk _=>Below.heap_alloc wr _ k hk⟩
     have hka:=hkg wr _ hkr hgal
     have hcc:=hc _ hka
     have hgr3:=hgrr.trans hgal
     have hblk:=Blk.new wr 75 #[Value.int .i64 xi,Value.string ⟨xs.toArray⟩]
     have hown3:=hownr.alloc (.cells #[Value.int .i64 xi,Value.string ⟨xs.toArray⟩] 75)
     have HOWN3:=Lib.hid hown3
     have HGR3:=Lib.hid hgr3
     have HBLK:=Lib.hid hblk
     have hglt:g<wr.heap.size:=tZ1
     clear hc hownr hgrr hkr hgal hgr3 hblk hown3
     go_wp2_with fail
     refine hcc.mono ?_
     clear hcc
     rintro e w2 ⟨rfl,hb2⟩
     have hgb2:(wr.alloc (.cells #[Value.int .i64 xi,Value.string ⟨xs.toArray⟩] 75)).grownBy w2 (some g):=⟨hb2.os,hb2.tape,hb2.output,hb2.size,fun k hk _=>hb2.block k hk⟩
     have hk2:=hkg _ _ hka hgb2
     have HGR2:=Lib.hid (HGR3.out.trans hgb2)
     have HOWN2:=Lib.hid (own_below HOWN3.out hb2)
     have hbx:=HBLK.out.below hb2 tZ3
     have b0:=hbx.cell 0
     have b1:=hbx.cell 1
     have e0:w2.cell? ⟨g,i*2,none⟩=some _:=(World.cell?_of_block (hb2.block g tZ6)).trans ((World.cell?_alloc_lt wr _ ⟨g,i*2,none⟩ hglt).trans d0)
     have r0:=HOWN2.out.frozenAt (i*2)
     have e1:w2.cell? ⟨g,i*2+1,none⟩=some _:=(World.cell?_of_block (hb2.block g tZ6)).trans ((World.cell?_alloc_lt wr _ ⟨g,i*2+1,none⟩ hglt).trans d1)
     have r1:=HOWN2.out.frozenAt (i*2+1)
     clear hgb2 hka hb2 HOWN3 HGR3
     cases b with
     | true =>
      go_wp2_with fail
      go_roundw
      case rel=>exact ⟨i,j+1,L,rfl,by go_num,by omega,by omega,hD.out.skip HXL.out HBX.out.symm,HOWN2.out,HGR2.out,hk2⟩
      case measure=>simp [intOf];omega
     | false =>
      have hst:=Lib.hid ((HOWN2.out.stored (i*2+0) (Value.int .i64 xi)).1.stored (i*2+1) (Value.string ⟨xs.toArray⟩))
      have hst2:Hid (w2.grownBy _ (some g)):=Lib.hid (((HOWN2.out.stored (i*2+0) (Value.int .i64 xi)).2).trans ((HOWN2.out.stored (i*2+0) (Value.int .i64 xi)).1.stored (i*2+1) (Value.string ⟨xs.toArray⟩)).2)
      clear HOWN2
      go_wp2_with fail
      go_roundw
      case rel =>
       refine ⟨i+1,j+1,L.set i (xi,xs),by go_num,by go_num,by omega,by omega,hD.out.keep hij HXL.out HBX.out.symm,?_,?_,?_⟩
       ·have h1:=hst.out.1
        rw [set_cells2 _ (Value.int .i64 xi) (Value.string ⟨xs.toArray⟩) i (by rw [cellsK_length hlen];omega)] at h1
        rw [cells_set hlen L i (xi,xs) hiL]
        exact h1
       ·exact HGR2.out.trans hst2.out
       ·exact hkg _ _ hk2 hst2.out
      case measure=>simp [intOf];omega
    ·obtain rfl:j=n:=tZ1
     have hif:(l.filter fun x=>!p x)=L.take i:=by
      have h1:=hD.out.pre
      rw [List.take_of_length_le (l:=l) tZ83] at h1
      exact h1.symm
     have HIF:=Lib.hid hif
     have hLl:=hD.out.len
     have HLL:=Lib.hid hLl
     rcases hownr.2 with ⟨h0,_⟩ | ⟨g',cap',cur',hs',_,hh',_,_,hsz',hx'⟩
     ·cases h0
     ·injection hs' with q1 _ q2
      injection q1 with q1
      injection q1 with q1
      subst q1 q2
      have hcl:cur'.toList.length=cp*2:=by simpa using hsz'
      have HH:=Lib.hid (show wr.heap[g]?=some (.cells cur'.toList.toArray 75 (0,0)) by simpa using hh')
      have HX:=Lib.hid hx'
      have HCL:=Lib.hid hcl
      have HGR:=Lib.hid hgrr
      generalize cur'.toList=cur2 at HH HX HCL
      have hcpi:¬ cp=i:=tZ1
      have HFT:=Lib.hid (show i*2+(j-i)*(Value.cells (.agg #[.int .i64 0,.string ByteArray.empty])).size≤cur2.length from (show i*2+(j-i)*2≤cur2.length by rw [HCL.out];omega))
      have HZ1:=Lib.hid (show ∀ u∈(Value.cells (.agg #[.int .i64 0,.string ByteArray.empty])).toList,u.oneCell'=true by simp [Value.cells,Value.oneCell'])
      have HZV:=Lib.hid (show ∀ w,(zeroValue 75).run Tryz.prog w=.ok (.agg #[.int .i64 0,.string ByteArray.empty]) w from fun w=>Tryz.zeroValue75 w)
      clear hownr hLl hif hh' hsz' hx' hcl hgrr
      go_wp2_with (with_reducible refine wpList_clearK rfl (.tmp 38) 38 rfl 75 (.agg #[.int .i64 0,.string ByteArray.empty]) Tryz.underlying38 HZV.out HZ1.out g (i*2) (j-i) (cp-i) rfl cur2 75 HH.out HFT.out ?_;intro w5 zs hzl hg5 hgr5)
      go_ret
      have hLi:(L.take i).length=i:=by rw [List.length_take,HLL.out,← HN.out];omega
      rw [HIF.out,hLi]
      refine ⟨_,rfl,?_,HGR.out.trans hgr5⟩
      have hzl:zs.length=(j-i)*2:=hzl
      refine own_of_row hg5.out hbg tZ1 tZ9 ?_ ?_
      ·rw [length_splice _ _ _ (by rw [hzl,HCL.out];omega)];exact HCL.out
      ·unfold splice
       rw [List.take_append_of_le_length (by rw [List.length_take,HCL.out];omega),List.take_take,Nat.min_self,cellsK_take hlen,← HX.out,List.take_take,Nat.min_eq_left tZ1]
 ·have hfe:firstP p l=l.length:=by have:=firstP_le p l;omega
  have hfi:firstI p l=-1:=by unfold firstI;rw [if_neg hf]
  rw [hfi] at hidx
  have hfl:(l.filter fun x=>!p x)=l:=by
   rw [List.filter_eq_self]
   intro x hx
   have h1:=firstP_before p l
   rw [hfe,List.take_length] at h1
   simp [h1 x hx]
  have HFL:=Lib.hid hfl
  have HN:=Lib.hid hnl
  have HOWN:=Lib.hid hown
  clear hfe hfi hfl hf hnl hown hp hkg
  go_enter Tryz.func156,Tryz.ntmps156
  go_wp2_with fail
  refine hidx.mono ?_
  clear hidx
  rintro e w1 ⟨rfl,hb1,hk1⟩
  go_wp2_with fail
  go_ret
  refine ⟨_,rfl,?_,⟨hb1.os,hb1.tape,hb1.output,hb1.size,fun k hk _=>hb1.block k hk⟩⟩
  rw [HFL.out,← HN.out]
  exact own_below HOWN.out hb1
end Go.Proofs.YtcgclpcocdappaaGreatDoor
