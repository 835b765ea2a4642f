/-
  A region that draws its order: calls that make memory, and stores of what they return into one box: each operation is looked at once. Rows that are written over, in themselves: what can be read of them stays good.
-/
import Derived.WalkKit
import Derived.WalkSpells
import Derived.Below
import Derived.Laws.OwnMore
import Derived.Deep.AppendLies
import Derived.Deep.Draws
import Derived.Laws.Rows
import Derived.Maps.AppendAt
import Derived.RegionTactic
import Derived.OwnWalk
import Derived.Deep.QuietTactic
import Derived.BigQuiet
import Derived.Lib.Hide
import Derived.Laws.CopyOwn
import Derived.IntWalk
import Derived.Orders
import Derived.Deep.MidRow
import Derived.Deep.Quiet
import Derived.Test.YtcgclpcocdappaaGreatDoorG0
import Derived.Test.YtcgclpcocdappaaGreatDoorGg1
import Derived.Test.YtcgclpcocdappaaGreatDoorGg7
import Derived.Test.YtcgclpcocdappaaGreatDoorGg10
import Derived.Test.YtcgclpcocdappaaGreatDoorGg13
namespace Go.Proofs.YtcgclpcocdappaaGreatDoor
open Go.RowKit
/-- the box's cells: (the store, the field, whose value is stored) -/
def fld (old:List Value) (m:Nat→Option Value):List (Nat×Nat×Nat)→Nat→Option Value
 | [],f=>old[f]?
 | (s,g,c) :: r,f=>if f=g∧(m s).isSome=true then m c else fld old m r f
def Closed (ops:Array Oper) (m:Nat→Option Value):Prop:=∀ j o',ops[j]?=some o'→(m j).isSome=true→∀ e∈o'.after,Region.binds .any e=true→(m e.on).isSome=true
theorem fld_other (old:List Value) (m:Nat→Option Value) (i:Nat) (v:Value) (hi:m i=none) (sts:List (Nat×Nat×Nat)) (hs:∀ s∈sts,s.1≠i) (hc:∀ s∈sts,(m s.1).isSome=true→(m s.2.2).isSome=true) (f:Nat):fld old (upd m i v) sts f=fld old m sts f:=by
 induction sts with
 | nil=>rfl
 | cons x r ih =>
  obtain ⟨s,g,c⟩:=x
  have h1:s≠i:=hs _ List.mem_cons_self
  have h2:=hc _ List.mem_cons_self
  simp only [fld,upd_ne m v h1]
  by_cases hh:f=g∧(m s).isSome=true
  ·rw [if_pos hh,if_pos hh]
   have h3:=h2 hh.2
   refine upd_ne m v fun e=>?_
   simp only [e,hi] at h3
   cases h3
  ·rw [if_neg hh,if_neg hh]
   exact ih (fun s hs'=>hs s (List.mem_cons_of_mem _ hs')) (fun s hs'=>hc s (List.mem_cons_of_mem _ hs'))
theorem fld_store (old:List Value) (m:Nat→Option Value) {i f c:Nat} (hi:m i=none) (u:Value) (hu:m c=some u) (sts:List (Nat×Nat×Nat)) (hmem:(i,f,c)∈sts) (hn:(sts.map (·.1)).Nodup) (hf:(sts.map (·.2.1)).Nodup) (hc:∀ s∈sts,(m s.1).isSome=true→(m s.2.2).isSome=true) (g:Nat) :
  fld old (upd m i undef) sts g=if g=f then some u else fld old m sts g:=by
 have hci:c≠i:=fun e=>by rw [e,hi] at hu;cases hu
 induction sts with
 | nil=>cases hmem
 | cons x r ih =>
  obtain ⟨s,g',c'⟩:=x
  simp only [List.map_cons,List.nodup_cons] at hn hf
  have h2:=hc _ List.mem_cons_self
  have hcr:∀ s∈r,(m s.1).isSome=true→(m s.2.2).isSome=true:=fun s hs'=>hc s (List.mem_cons_of_mem _ hs')
  rcases List.mem_cons.1 hmem with e | hmem
  ·cases e
   simp only [fld,upd_self,Option.isSome_some,and_true]
   by_cases hg:g=f
   ·rw [if_pos hg,if_pos hg,upd_ne m undef hci,hu]
   ·rw [if_neg hg,if_neg hg,if_neg (fun h=>hg h.1)]
    exact fld_other old m i undef hi r (fun s hs e=>hn.1 (by rw [← e];exact List.mem_map_of_mem (f:=(·.1)) hs)) hcr g
  ·have hsi:s≠i:=fun e=>hn.1 (by rw [e];exact List.mem_map_of_mem (f:=(·.1)) hmem)
   have hgf:g'≠f:=fun e=>hf.1 (by rw [e];exact List.mem_map_of_mem (f:=(·.2.1)) hmem)
   simp only [fld,upd_ne m undef hsi]
   by_cases hh:g=g'∧(m s).isSome=true
   ·rw [if_pos hh,if_pos hh,if_neg (fun e=>hgf (hh.1.symm.trans e))]
    have h3:=h2 hh.2
    refine upd_ne m undef fun e=>?_
    simp only [e,hi] at h3
    cases h3
   ·rw [if_neg hh,if_neg hh]
    exact ih hmem hn.2 hf.2 hcr
section
variable {P:Program} {ops:Array Oper}
def StaysB (b:Nat) (p:Value→World→Prop):Prop:=∀ v W W',p v W→W.grownBy W' (some b)→p v W'
theorem StaysB.pure {b:Nat} {q:Value→Prop}:StaysB b (fun v _=>q v):=fun _ _ _ h _=>h
theorem staysB_nil {b:Nat}:∀ p∈([]:List (Value→World→Prop)),StaysB b p:=fun _ h=>by cases h
theorem staysB_cons {b:Nat} {p:Value→World→Prop} {l:List (Value→World→Prop)} (hp:StaysB b p) (hl:∀ q∈l,StaysB b q):∀ q∈p :: l,StaysB b q:=by
 intro q hq
 rcases List.mem_cons.1 hq with rfl | h
 ·exact hp
 ·exact hl q h
theorem grown_of_below {W W':World} {r:Option Nat} (h:Below W.heap.size W W'):W.grownBy W' r:=⟨h.os,h.tape,h.output,h.size,fun k hk _=>h.block k hk⟩
theorem grown_tr {a b c:World} {r:Option Nat} (h:a.grownBy b r) (k:b.grownBy c r):a.grownBy c r :=
 ⟨k.os.trans h.os,k.tape.trans h.tape,k.output.trans h.output,Nat.le_trans h.size k.size,fun x hx hr=>(k.block x (Nat.lt_of_lt_of_le hx h.size) hr).trans (h.block x hx hr)⟩
theorem grown_box (w:World) (g i:Nat) (u:Value):w.grownBy (w.setCell ⟨g,i,none⟩ u) (some g):=⟨rfl,rfl,rfl,by simp [World.setCell],fun k _ hne=>Below.heap_setCell w ⟨g,i,none⟩ u k (fun e=>hne (by rw [e]))⟩
def stsOk (ops:Array Oper) (sts:List (Nat×Nat×Nat)) (n:Nat):Bool :=
 decide (sts.map (·.1)).Nodup && decide (sts.map (·.2.1)).Nodup && sts.all fun s=>decide (s.2.1<n) && match ops[s.1]? with
  | some o=>o.after.any fun e=>Region.binds .any e && decide (e.on=s.2.2)
  | none=>false
theorem wp_region_box {id:Nat} {a0:Act} {w:World} {Q:Exit→Act→World→Prop} (hm:P.follows .mixedOrders=true) (hok:regionOk ops a0.tmps.size=true) (b:Nat) (T:TypeId) (old:List Value) (sts:List (Nat×Nat×Nat)) (hsts:stsOk ops sts old.length=true)
  (Gs:List (Value→World→Prop)) (hst:∀ p∈Gs,StaysB b p) (hblk:Blk w b T old.toArray)
  (hstep:∀ i o,ops[i]?=some o→∀ (m:Nat→Option Value) (W:World),w.grownBy W (some b)→m i=none→Closed ops m→(∀ e∈o.after,Region.binds .any e=true→∃ v,m e.on=some v∧Says Gs e.on v W)→(∀ f,W.cell? ⟨b,f,none⟩=fld old m sts f)→(∀ f,W.frozen? ⟨b,f,none⟩=false)→b<W.heap.size →
   ∀ (A:Act) (K:Act→World→Prop),A=frameM a0 ops m→(∀ v W',Below W.heap.size W W'→Says Gs i v W'→(∀ s∈sts,s.1≠i)→K (A.put o.dst v) W')→(∀ f c u,(i,f,c)∈sts→m c=some u→Says Gs i undef (W.setCell ⟨b,f,none⟩ u)→K (A.put o.dst undef) (W.setCell ⟨b,f,none⟩ u)) →
    if Region.wanted o (yielded ops A.tmps)=true then o.wp P A W K Q else K (A.put o.dst undef) W)
  (hend:∀ (m:Nat→Option Value) (W:World),w.grownBy W (some b)→(∀ i,i<ops.size→∃ v,m i=some v∧Says Gs i v W)→(∃ cs:List Value,cs.length=old.length∧Blk W b T cs.toArray∧∀ f,cs[f]?=fld old m sts f)→Q .normal (frameM a0 ops m) W) :
  (Code.region id ops true).wp P Q a0 w:=by
 simp only [stsOk,Bool.and_eq_true,decide_eq_true_eq] at hsts
 obtain ⟨⟨hn,hf⟩,hall⟩:=hsts
 have hsay:∀ i v W W',Says Gs i v W→W.grownBy W' (some b)→Says Gs i v W':=by
  intro i v W W' h hb
  unfold Says at h ⊢
  cases hG:Gs[i]? with
  | none=>trivial
  | some p=>rw [hG] at h;exact hst p (List.mem_of_getElem? hG) v W W' h hb
 have hcs:∀ m,Closed ops m→∀ s∈sts,(m s.1).isSome=true→(m s.2.2).isSome=true:=by
  intro m hcl s hs hd
  have h1:=List.all_eq_true.1 hall s hs
  simp only [Bool.and_eq_true] at h1
  cases ho:ops[s.1]? with
  | none=>rw [ho] at h1;exact absurd h1.2 (by simp)
  | some o =>
   rw [ho] at h1
   obtain ⟨e,he,h2⟩:=Array.any_eq_true'.1 h1.2
   simp only [Bool.and_eq_true,decide_eq_true_eq] at h2
   rw [← h2.2]
   exact hcl _ _ ho hd e he h2.1
 refine wp_region_inv hm hok (fun m W=>w.grownBy W (some b)∧(∀ i v,m i=some v→Says Gs i v W)∧Closed ops m∧∃ cs:List Value,cs.length=old.length∧Blk W b T cs.toArray∧∀ f,cs[f]?=fld old m sts f) ⟨⟨rfl,rfl,rfl,Nat.le_refl _,fun _ _ _=>rfl⟩,fun _ _ h=>(by cases h),fun _ _ _ h=>(by cases h),old,rfl,hblk.drew,fun f=>?_⟩ ?_ ?_
 ·clear hn hf hall hcs hst hstep hend
  induction sts with
  | nil=>rfl
  | cons x r ih=>obtain ⟨s,g,c⟩:=x;simp only [fld,Option.isSome_none,Bool.false_eq_true,and_false,if_false];exact ih
 ·intro i o ho m W hJ hmi hdeps A K hA hK
  obtain ⟨hgr,hsy,hcl,cs,hcl2,hbk,hcf⟩:=hJ
  have hcl':∀ v,Closed ops (upd m i v):=by
   intro v j o' ho' hj e he hbi
   by_cases hei:e.on=i
   ·rw [hei,upd_self];rfl
   ·rw [upd_ne m v hei]
    by_cases hji:j=i
    ·subst hji
     rw [ho] at ho'
     cases ho'
     exact hdeps e he hbi
    ·rw [upd_ne m v hji] at hj
     exact hcl j o' ho' hj e he hbi
  have hsu:∀ v W',W.grownBy W' (some b)→Says Gs i v W'→∀ j u,upd m i v j=some u→Says Gs j u W':=by
   intro v W' hb hS j u hu
   by_cases hj:j=i
   ·subst hj
    rw [upd_self] at hu
    cases hu
    exact hS
   ·rw [upd_ne m v hj] at hu
    exact hsay j u W W' (hsy j u hu) hb
  refine hstep i o ho m W hgr hmi hcl (fun e he hb=>?_) (fun f=>by rw [hbk.cell f,zF];exact hcf f) (fun f=>hbk.frozen f) hbk.lt A K hA (fun v W' hb hS hns=>hK v W' ⟨grown_tr hgr (grown_of_below hb),hsu v W' (grown_of_below hb) hS,hcl' v,cs,hcl2,hbk.below hb hbk.lt,fun f=>?_⟩) (fun f c u hmem hu hS=>hK undef _ ⟨grown_tr hgr (grown_box W b f u),hsu undef _ (grown_box W b f u) hS,hcl' undef,cs.set f u,by rw [List.length_set];exact hcl2,?_,fun g=>?_⟩)
  ·have:=hdeps e he hb
   cases hme:m e.on with
   | none=>rw [hme] at this;cases this
   | some v=>exact ⟨v,rfl,hsy _ _ hme⟩
  ·rw [hcf f]
   exact (fld_other old m i v hmi sts hns (hcs m hcl) f).symm
  ·have:=hbk.set_ f u
   have e:cs.toArray.setIfInBounds f u=(cs.set f u).toArray:=by simp
   rw [e] at this
   exact this
  ·rw [fld_store old m hmi u hu sts hmem hn hf (hcs m hcl) g]
   have h1:=List.all_eq_true.1 hall _ hmem
   simp only [Bool.and_eq_true,decide_eq_true_eq] at h1
   by_cases hg:g=f
   ·subst hg
    rw [if_pos rfl,List.getElem?_set,if_pos rfl,if_pos (by rw [hcl2];exact h1.1)]
   ·rw [if_neg hg,List.getElem?_set,if_neg (fun e=>hg e.symm)]
    exact hcf g
 ·intro m W hJ hall
  refine hend m W hJ.1 (fun i hi=>?_) hJ.2.2.2
  have:=hall i hi
  cases hmi:m i with
  | none=>rw [hmi] at this;cases this
  | some v=>exact ⟨v,rfl,hJ.2.1 _ _ hmi⟩
end
end Go.Proofs.YtcgclpcocdappaaGreatDoor
namespace Go.Proofs.YtcgclpcocdappaaGreatDoor
open Go.RowKit
def setL (xs:List Value):Nat→List Value→List Value
 | _,[]=>xs
 | o,u :: r=>setL (xs.set o u) (o+1) r
theorem grown_trans {a b c:World} {r:Option Nat} (h:a.grownBy b r) (k:b.grownBy c r):a.grownBy c r :=
 ⟨k.os.trans h.os,k.tape.trans h.tape,k.output.trans h.output,Nat.le_trans h.size k.size,fun x hx hr=>(k.block x (Nat.lt_of_lt_of_le hx h.size) hr).trans (h.block x hx hr)⟩
theorem stored_all {base size n cap g:Nat} {e:TypeId} (cs:List Value):∀ (w:World) (xs:List Value) (o:Nat),w.ownsRow base e size (.slice (some ⟨g,0,none⟩) n cap) n xs →
  (w.setCells g o cs).ownsRow base e size (.slice (some ⟨g,0,none⟩) n cap) n (setL xs o cs)∧w.grownBy (w.setCells g o cs) (some g):=by
 induction cs with
 | nil=>intro w xs o h;exact ⟨h,rfl,rfl,rfl,Nat.le_refl _,fun _ _ _=>rfl⟩
 | cons u r ih =>
  intro w xs o h
  obtain ⟨h1,h2⟩:=h.stored o u
  obtain ⟨h3,h4⟩:=ih _ _ (o+1) h1
  exact ⟨h3,grown_trans h2 h4⟩
/-- a row of lo ..< hi -/
def RowW (w:World) (lo hi:Nat) (T:TypeId) (k:Nat) (v:Value) (n:Nat) (xs:List Value):Prop:=w.ownsRow lo T k v n xs∧∀ g,v.ownBlock=some g→g<hi
def RowX (w:World) (lo hi:Nat) (T:TypeId) (k:Nat) (v:Value):Prop:=∃ n xs,RowW w lo hi T k v n xs
theorem RowX.nil (w:World) (lo hi:Nat) (T:TypeId) (k:Nat):RowX w lo hi T k (.slice none 0 0):=⟨0,[],World.ownsRow_nil _ _ _ _,fun g h=>by simp [Value.ownBlock] at h⟩
section
variable {w w':World} {lo hi base size n cap g:Nat} {e:TypeId} {xs:List Value}
theorem RowW.kept {T:TypeId} {k m:Nat} {v:Value} {ys:List Value} (h:RowW w lo hi T k v m ys) (hg:w.grownBy w' (some g)) (hne:v.ownBlock≠some g):RowW w' lo hi T k v m ys:=⟨h.1.kept hg (.inr hne),h.2⟩
theorem own_blk {T:TypeId} {k m c:Nat} {ys:List Value} (h:w.ownsRow lo T k (.slice (some ⟨g,0,none⟩) m c) m ys):∃ cur,Blk w g T cur:=by
 rcases h.2 with ⟨h0,_⟩ | ⟨g',cap',cur,hv,_,hg,_⟩
 ·cases h0
 ·cases hv
  exact ⟨cur,hg⟩
/-- a row is as it was, or it is the row that is written -/
theorem RowW.or (hrow:w.ownsRow base e size (.slice (some ⟨g,0,none⟩) n cap) n xs) {T:TypeId} {k m:Nat} {v:Value} {ys:List Value} (h:RowW w lo hi T k v m ys) (o:Nat) (cs:List Value) :
  RowW (w.setCells g o cs) lo hi T k v m ys∨T=e∧v.ownBlock=some g∧RowW (w.setCells g o cs) lo hi T k v m (setL ys o cs):=by
 by_cases hb:v.ownBlock=some g
 ·refine .inr ?_
  rcases h.1.2 with ⟨rfl,_⟩ | ⟨g',cap',cur,hv,hlo,hg,h1,h2,h3,h4⟩
  ·simp [Value.ownBlock] at hb
  ·subst hv
   have:g'=g:=by simpa [Value.ownBlock] using hb
   subst this
   obtain ⟨cur2,hk⟩:=own_blk hrow
   have hk':Blk w g' T cur:=hg
   have hT:T=e:=by
    unfold Blk at hk hk'
    rw [hk'] at hk
    injection hk with hk
    injection hk
   exact ⟨hT,rfl,(stored_all cs w ys o h.1).1,h.2⟩
 ·exact .inl (h.kept (stored_all cs w xs o hrow).2 hb)
theorem RowX.set (hrow:w.ownsRow base e size (.slice (some ⟨g,0,none⟩) n cap) n xs) {T:TypeId} {k:Nat} {v:Value} (h:RowX w lo hi T k v) (o:Nat) (cs:List Value):RowX (w.setCells g o cs) lo hi T k v:=by
 obtain ⟨m,ys,h⟩:=h
 rcases h.or hrow o cs with h | ⟨_,_,h⟩
 ·exact ⟨m,ys,h⟩
 ·exact ⟨m,_,h⟩
theorem RowX.below {T:TypeId} {k:Nat} {v:Value} (h:RowX w lo hi T k v) (hb:Below w.heap.size w w'):RowX w' lo hi T k v:=by
 obtain ⟨n,xs,h⟩:=h
 exact ⟨n,xs,own_below h.1 hb,h.2⟩
end
/-- what changed lies in lo ..< hi -/
structure OnlyIn (lo hi:Nat) (w w':World):Prop where
 low:Below lo w w'
 high:∀ k,hi≤k→k<w.heap.size→w'.heap[k]?=w.heap[k]?
theorem OnlyIn.refl (lo hi:Nat) (w:World):OnlyIn lo hi w w:=⟨Below.refl _ _,fun _ _ _=>rfl⟩
theorem OnlyIn.trans {lo hi:Nat} {a b c:World} (h:OnlyIn lo hi a b) (k:OnlyIn lo hi b c):OnlyIn lo hi a c :=
 ⟨h.low.trans k.low,fun x hx hs=>(k.high x hx (Nat.lt_of_lt_of_le hs h.low.size)).trans (h.high x hx hs)⟩
theorem OnlyIn.grown {lo hi g:Nat} {w w':World} (h:w.grownBy w' (some g)) (h1:lo≤g) (h2:g<hi) (hlo:lo≤w.heap.size):OnlyIn lo hi w w' :=
 ⟨⟨h.os,h.tape,h.output,h.size,fun k hk=>h.block k (by omega) (by simp;omega)⟩,fun k hk hs=>h.block k hs (by simp;omega)⟩
theorem own_only {lo hi base size n:Nat} {e:TypeId} {v:Value} {xs:List Value} {w w':World} (h:w.ownsRow base e size v n xs) (hb:hi≤base) (ho:OnlyIn lo hi w w'):w'.ownsRow base e size v n xs:=by
 refine ⟨h.1,?_⟩
 rcases h.2 with h0 | ⟨g,cap,cur,h1,h2,h3,h4⟩
 ·exact .inl h0
 ·refine .inr ⟨g,cap,cur,h1,h2,?_,h4⟩
  rw [ho.high g (by omega) (Blk.lt (cs:=cur) (t:=e) h3)]
  exact h3
theorem FS.own.only {α:Type} {w w':World} {lo hi base k:Nat} {t:TypeId} {enc:α→List Value} {s:FS α} (h:s.own w base t k enc) (hb:hi≤base) (ho:OnlyIn lo hi w w'):s.own w' base t k enc:=⟨h.1,own_only h.2 hb ho⟩
section
variable {w w':World} {base lo hi:Nat}
theorem RowW.of_own {T:TypeId} {k n:Nat} {v:Value} {xs:List Value} (h:w.ownsRow lo T k v n xs):RowW w lo w.heap.size T k v n xs:=⟨h,fun g hg=>(h.lt g hg).2⟩
theorem FS.own.rowx {α:Type} {k:Nat} {t:TypeId} {enc:α→List Value} {s:FS α} (h:s.own w lo t k enc):RowX w lo w.heap.size t k s.val:=⟨_,_,RowW.of_own h.2⟩
end
/-! ### an element of a row -/
end Go.Proofs.YtcgclpcocdappaaGreatDoor
