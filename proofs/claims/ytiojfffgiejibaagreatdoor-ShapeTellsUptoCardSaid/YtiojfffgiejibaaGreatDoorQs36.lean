/-
  What may be, by content: sets one by one; a set more, a set less, a set turned. A drawn region whose operations read and make memory, and whose last one, behind all others, may do whatever it does. A drawn region whose operations read and make memory, with one store at an operation S, behind which only operations stand that look at no memory. A drawn region whose operations read and make memory, with one operation S that changes what was made ahead of it, and a last one, L, that does too. The page's Set and Charge: what a tenant is charged for. The page's With, by content: what its loop makes is the row with a set more, in its place. Snapshots by content: what is asked, found, made, and gone. Short words for drawn regions with a store: what stands ahead of it, by reckoning; the values that an operation waits for.
-/
import Derived.Test.YtiojfffgiejibaaGreatDoorQsM1
import Derived.WalkKit
import Derived.WalkSpells
import Derived.Below
import Derived.Laws.OwnMore
import Derived.Deep.AppendLies
import Derived.Deep.Draws
import Derived.Laws.Rows
import Derived.Maps.AppendAt
import Derived.RegionTactic
import Derived.OwnWalk
import Derived.Deep.QuietTactic
import Derived.BigQuiet
import Derived.Lib.Hide
import Derived.Laws.CopyOwn
import Derived.IntWalk
import Derived.Test.YtiojfffgiejibaaGreatDoorRows
import Derived.Handy
import Derived.Deep.Quiet
import Derived.ProofKit
import Derived.OpenShut
import Derived.ShutString
import Derived.ChangeOld
import Derived.Carry
import Derived.SizedLaws
import Derived.JoinedCond
import Derived.Deep.CondSized
import Derived.Deep.Slices
import Derived.Deep.Fields
import Derived.Lib.SmallJoins
import Derived.Orders
import Derived.Lib.SplitLaws
import Derived.Lib.LastIndexByte
import Derived.Lib.Strings
import Derived.Sort.Walk0
import Derived.Sort.KeysCollected
import Derived.Deep.MidRow
import Derived.Deep.RegionLaw
import Derived.Lib.AppendZeros
import Derived.Shelf.Strings.Search1
import Derived.Shelf.Strings.Search2
import Derived.Shelf.Strings.Search3
import Derived.Shelf.Strings.Cut
import Derived.Shelf.Strings.Count
import Derived.Shelf.LaysM
import Derived.Shelf.Strings.Shaped
import Derived.Shelf.Strings.LastIndex
import Derived.Shelf.Strings.Split
import Derived.Shelf.Strings.SplitShaped
import Derived.Shelf.Unicode.Decode
import Derived.Shelf.Strings.RuneCount
import Derived.Shelf.Strings.Explode
import Derived.Shelf.Unicode.DecodeSlow
import Derived.Shelf.Slices.Turned
import Derived.Test.YtiojfffgiejibaaGreatDoorProg
import Derived.Lib.Overlaps
import Derived.Lib.AppendZerosOnto
import Derived.Laws.BytesString
import Derived.Laws.IdiomStrings
import Derived.Lib.ConvBytes
import Derived.Deep.DeepCutAuto
import Derived.Great.BuildSlice
import Derived.Test.YtiojfffgiejibaaGreatDoorQ0
import Derived.Test.YtiojfffgiejibaaGreatDoorQs1
import Derived.Test.YtiojfffgiejibaaGreatDoorQs2
import Derived.Test.YtiojfffgiejibaaGreatDoorQs5
import Derived.Test.YtiojfffgiejibaaGreatDoorQs6
import Derived.Test.YtiojfffgiejibaaGreatDoorQs7
import Derived.Test.YtiojfffgiejibaaGreatDoorQs10
import Derived.Test.YtiojfffgiejibaaGreatDoorQs12
import Derived.Test.YtiojfffgiejibaaGreatDoorQs16
import Derived.Test.YtiojfffgiejibaaGreatDoorQs19
import Derived.Test.YtiojfffgiejibaaGreatDoorQs20
import Derived.Test.YtiojfffgiejibaaGreatDoorQs21
import Derived.Test.YtiojfffgiejibaaGreatDoorQs23
import Derived.Test.YtiojfffgiejibaaGreatDoorQs27
import Derived.Test.YtiojfffgiejibaaGreatDoorQs29
import Derived.Test.YtiojfffgiejibaaGreatDoorQs31
import Derived.Test.YtiojfffgiejibaaGreatDoorQs32
namespace Go.Proofs.YtiojfffgiejibaaGreatDoor
open Go.RowKit
structure SetOk (l:List SetC) (s:SetC):Prop where
 path:pathB s.path=true
 par:∀ u,parB s.path=some u→∃ x∈l,x.path=u
 own:propsB s.own=true
 body:okL s.body=true
 snaps:snapsB (s.snaps.map SnapC.r)=true
 org:s.org=[]∨∃ a b,splitL s.org=some (a,b)∧a≠s.path∧∃ x,l.find? (fun x=>x.path == a)=some x∧∃ y∈x.snaps,y.nm=b
theorem setB_iff (l:List SetC) (s:SetC):setB (l.map SetC.r) s.r=true↔SetOk l s:=by
 have hpar:(match parB s.path with | none=>true | some u=>(l.map SetC.r).any fun x=>x.path == u)=true↔∀ u,parB s.path=some u→∃ x∈l,x.path=u:=by
  cases hp:parB s.path with
  | none=>exact ⟨fun _ u h=>by (cases h),fun _=>rfl⟩
  | some u =>
   simp only [List.any_map]
   constructor
   ·intro h v hv
    cases hv
    obtain ⟨x,hx,e⟩:=List.any_eq_true.1 h
    exact ⟨x,hx,by simpa [SetC.r] using e⟩
   ·intro h
    obtain ⟨x,hx,e⟩:=h u rfl
    exact List.any_eq_true.2 ⟨x,hx,by simpa [SetC.r] using e⟩
 have horg:originB (l.map SetC.r) s.r=true↔(s.org=[]∨∃ a b,splitL s.org=some (a,b)∧a≠s.path∧∃ x,l.find? (fun x=>x.path == a)=some x∧∃ y∈x.snaps,y.nm=b):=by
  unfold originB
  show (s.org == [] || match splitL s.org with
   | none=>false
   | some (p,n)=>!(p == s.path) && match (l.map SetC.r).find? (fun x=>x.path == p) with
    | none=>false
    | some x=>x.snaps.l.any fun y=>y.nm == n)=true↔_
  rw [Bool.or_eq_true]
  refine or_congr tZ3 ?_
  cases hsp:splitL s.org with
  | none=>simp
  | some v =>
   obtain ⟨a,b⟩:=v
   simp only [Bool.and_eq_true,find_map]
   have e:(l.find? fun x:SetC=>(SetC.r x).path == a)=l.find? fun x=>x.path == a:=rfl
   rw [e]
   constructor
   ·rintro ⟨h1,h2⟩
    refine ⟨a,b,rfl,by simpa using h1,?_⟩
    cases hf:l.find? (fun x=>x.path == a) with
    | none=>rw [hf] at h2;cases h2
    | some x =>
     rw [hf] at h2
     simp only [Option.map_some] at h2
     have h2:((x.snaps.map SnapC.r).any fun y=>y.nm == b)=true:=h2
     rw [List.any_map] at h2
     obtain ⟨y,hy,ey⟩:=List.any_eq_true.1 h2
     exact ⟨x,rfl,y,hy,by simpa [SnapC.r] using ey⟩
   ·rintro ⟨a',b',h0,h1,x,hf,y,hy,ey⟩
    cases h0
    refine ⟨by simpa using h1,?_⟩
    rw [hf]
    show ((x.snaps.map SnapC.r).any fun y=>y.nm == b)=true
    rw [List.any_map]
    exact List.any_eq_true.2 ⟨y,hy,by simpa [SnapC.r] using ey⟩
 unfold setB
 rw [Bool.and_eq_true,Bool.and_eq_true,Bool.and_eq_true,Bool.and_eq_true,Bool.and_eq_true,horg]
 constructor
 ·rintro ⟨⟨⟨⟨⟨h1,h2⟩,h3⟩,h4⟩,h5⟩,h6⟩
  exact ⟨h1,hpar.1 h2,h3,h4,h5,h6⟩
 ·rintro ⟨h1,h2,h3,h4,h5,h6⟩
  exact ⟨⟨⟨⟨⟨h1,hpar.2 h2⟩,h3⟩,h4⟩,h5⟩,h6⟩
structure SetsOk (l:List SetC):Prop where
 len:l.length≤32
 root:∃ x∈l,x.path=[]
 each:∀ s∈l,SetOk l s
 asc:l.Pairwise fun a b=>Op.bytesLess a.path b.path=true
theorem setsB_iff (l:List SetC):setsB (l.map SetC.r)=true↔SetsOk l:=by
 unfold setsB
 rw [Bool.and_eq_true,Bool.and_eq_true,setsFrom_iff]
 simp only [decide_eq_true_eq,List.length_map,List.any_map]
 constructor
 ·rintro ⟨⟨h1,h2⟩,h3,h4,-⟩
  obtain ⟨x,hx,e⟩:=List.any_eq_true.1 h2
  exact ⟨h1,⟨x,hx,by simpa [SetC.r] using e⟩,fun s hs=>(setB_iff l s).1 (h3 _ (List.mem_map_of_mem hs)),List.pairwise_map.1 h4⟩
 ·rintro ⟨h1,⟨x,hx,e⟩,h3,h4⟩
  refine ⟨⟨h1,List.any_eq_true.2 ⟨x,hx,by simpa [SetC.r] using e⟩⟩,fun s hs=>?_,List.pairwise_map.2 h4,fun q hq=>by cases hq⟩
  obtain ⟨y,hy,rfl⟩:=List.mem_map.1 hs
  exact (setB_iff l y).2 (h3 y hy)
structure TenC.Ok (c:TenC):Prop where
 nm:nameB c.nm=true
 quota:amt c.quota 0=true
 next:amt c.next 1=true
 sets:SetsOk c.sets
 grants:grantsB c.grants=true
 stages:stagesB (c.stages.map StageC.r)=true
 log:logB c.log=true
theorem TenC.E_ok (c:TenC):c.E=0↔c.Ok:=by
 unfold TenC.E tenE
 constructor
 ·intro h
  have hb:tenB c.r=true:=by
   by_cases hb:tenB c.r=true
   ·exact hb
   ·rw [if_neg hb] at h;exact absurd h tZ4
  unfold tenB at hb
  rw [Bool.and_eq_true,Bool.and_eq_true,Bool.and_eq_true,Bool.and_eq_true,Bool.and_eq_true,Bool.and_eq_true] at hb
  obtain ⟨⟨⟨⟨⟨⟨h1,h2⟩,h3⟩,h4⟩,h5⟩,h6⟩,h7⟩:=hb
  exact ⟨h1,h2,h3,(setsB_iff _).1 h4,h5,h6,h7⟩
 ·rintro ⟨h1,h2,h3,h4,h5,h6,h7⟩
  rw [if_pos]
  unfold tenB
  rw [Bool.and_eq_true,Bool.and_eq_true,Bool.and_eq_true,Bool.and_eq_true,Bool.and_eq_true,Bool.and_eq_true]
  exact ⟨⟨⟨⟨⟨⟨h1,h2⟩,h3⟩,(setsB_iff _).2 h4⟩,h5⟩,h6⟩,h7⟩
/-- sets in order: each is found by its path -/
theorem find_of_mem {l:List SetC} (h:l.Pairwise fun a b=>Op.bytesLess a.path b.path=true) {x:SetC} (hx:x∈l):l.find? (fun y=>y.path == x.path)=some x:=by
 induction l with
 | nil=>cases hx
 | cons y r ih =>
  obtain ⟨h1,h2⟩:=List.pairwise_cons.1 h
  rcases List.mem_cons.1 hx with rfl | hx
  ·rw [List.find?_cons_of_pos tZ3]
  ·rw [List.find?_cons_of_neg (by simpa using bl_ne (h1 x hx))]
   exact ih h2 hx
/-! ### a set less -/
theorem mem_at' {α:Type} {a b:List α} {x y:α} (h:y∈a++x :: b):y=x∨y∈a++b:=by
 rcases List.mem_append.1 h with h | h
 ·exact .inr (List.mem_append_left _ h)
 ·rcases List.mem_cons.1 h with h | h
  ·exact .inl h
  ·exact .inr (List.mem_append_right _ h)
theorem mem_drop_of {l:List SetC} {i:Nat} (hi:i<l.length) {x:SetC} (hx:x∈l) (hne:x.path≠(l[i]'hi).path):x∈l.take i++l.drop (i+1):=by
 have hl:l=l.take i++l[i]'hi :: l.drop (i+1):=by
  conv=>lhs;rw [← List.take_append_drop i l,List.drop_eq_getElem_cons hi]
 rw [hl] at hx
 rcases mem_at' hx with rfl | h
 ·exact absurd rfl hne
 ·exact h
theorem drop_sub (l:List SetC) (i:Nat):(l.take i++l.drop (i+1)).Sublist l:=by
 by_cases hi:i<l.length
 ·conv=>rhs;rw [← List.take_append_drop i l,List.drop_eq_getElem_cons hi]
  exact List.Sublist.append_left (List.sublist_cons_self _ _) _
 ·rw [List.drop_eq_nil_of_le tZ1,List.append_nil]
  exact List.take_sublist _ _
theorem dropS_ok (c:TenC) (i:Nat) (hi:i<c.sets.length) (h:c.Ok) (hp:(c.sets[i]'hi).path≠[]) (hk:c.kids (c.sets[i]'hi).path=0) (hc:c.clones (c.sets[i]'hi).path []=0):(c.dropS i).Ok:=by
 obtain ⟨h1,h2,h3,h4,h5,h6,h7⟩:=h
 refine ⟨h1,h2,h3,?_,h5,h6,h7⟩
 show SetsOk (c.sets.take i++c.sets.drop (i+1))
 have hsub:=drop_sub c.sets i
 have hasc:=h4.asc.sublist hsub
 refine ⟨Nat.le_trans hsub.length_le h4.len,?_,fun s hs=>?_,hasc⟩
 ·obtain ⟨x,hx,e⟩:=h4.root
  exact ⟨x,mem_drop_of hi hx (by rw [e];exact fun h=>hp h.symm),e⟩
 ·have hsl:=hsub.subset hs
  have ho:=h4.each s hsl
  refine ⟨ho.path,fun u hu=>?_,ho.own,ho.body,ho.snaps,?_⟩
  ·obtain ⟨x,hx,e⟩:=ho.par u hu
   refine ⟨x,mem_drop_of hi hx ?_,e⟩
   intro e2
   unfold TenC.kids at hk
   rw [List.length_eq_zero_iff,List.filter_eq_nil_iff] at hk
   exact hk s hsl (by rw [hu,← e,e2];simp)
  ·rcases ho.org with h | ⟨a,b,h1,h2,x,hf,y,hy,e⟩
   ·exact .inl h
   ·refine .inr ⟨a,b,h1,h2,x,?_,y,hy,e⟩
    have hxm:=List.mem_of_find?_eq_some hf
    have hxa:x.path=a:=by simpa using List.find?_some hf
    have hne:x.path≠(c.sets[i]'hi).path:=by
     intro e2
     unfold TenC.clones at hc
     rw [List.length_eq_zero_iff,List.filter_eq_nil_iff] at hc
     refine hc s hsl ?_
     unfold clP
     rw [h1]
     simp [← hxa,e2]
    rw [← hxa]
    exact find_of_mem hasc (mem_drop_of hi hxm hne)
theorem sum_sub {α:Type} (f:α→Nat) {l l':List α} (h:l.Sublist l'):(l.map f).sum≤(l'.map f).sum:=by
 induction h with
 | slnil=>exact Nat.le_refl _
 | cons x _ ih=>rw [List.map_cons,List.sum_cons];omega
 | cons_cons x _ ih=>rw [List.map_cons,List.map_cons,List.sum_cons,List.sum_cons];omega
theorem dropS_charge (c:TenC) (i:Nat):(c.dropS i).charge≤c.charge:=by
 unfold TenC.charge
 have:=sum_sub SetC.charge (drop_sub c.sets i)
 show ((c.sets.take i++c.sets.drop (i+1)).map SetC.charge).sum+_≤_
 exact Nat.add_le_add_right this _
/-- what a set that could be destroyed tells -/
theorem destroy_ok (c:TenC) (p:BS) (c2:TenC) (h:(0,c2)=c.destroy p):c.E=0∧c2.E=0∧c2.charge≤c.charge∧∃ i,c2=c.dropS i:=by
 unfold TenC.destroy at h
 by_cases h1:c.ask p≠0
 ·rw [if_pos h1] at h
  injection h with h _
  exact absurd h.symm h1
 rw [if_neg h1] at h
 by_cases h2:c.find p<0
 ·rw [if_pos h2] at h
  exact mZ201
 rw [if_neg h2] at h
 by_cases h3:p=[]∨0<c.kids p+c.clones p []∨(c.stages.any fun s=>s.into == p)=true
 ·rw [if_pos h3] at h
  exact mZ201
 rw [if_neg h3] at h
 split at h
 ·exact mZ201
 ·injection h with _ h
  have hE:c.E=0:=by
   unfold TenC.ask at h1
   exact mZ200
  have hne:p≠[]:=fun e=>h3 (.inl e)
  have hkc:c.kids p=0∧c.clones p []=0:=by
   have:¬ 0<c.kids p+c.clones p []:=fun e=>h3 (.inr (.inl e))
   omega
  have hfi:∃ k:Nat,∃ hk:k<c.sets.length,c.find p=(k:Int)∧(c.sets[k]'hk).path=p:=by
   rcases firstI_cases (fun s:SetC=>s.path == p) c.sets with ⟨e1,e2⟩ | ⟨k,hk,e1,e2⟩
   ·have e1:c.find p=-1:=e1
    omega
   ·exact ⟨k,hk,e1,by simpa using List.find?_some e2⟩
  obtain ⟨k,hk,e1,e2⟩:=hfi
  refine ⟨hE,?_,?_,k,?_⟩
  ·rw [h,e1,Int.toNat_natCast]
   exact (TenC.E_ok _).2 (dropS_ok c k hk ((TenC.E_ok c).1 hE) (by rw [e2];exact hne) (by rw [e2];exact hkc.1) (by rw [e2];exact hkc.2))
  ·rw [h]
   exact dropS_charge c _
  ·rw [h,e1,Int.toNat_natCast]
/-! ### a set turned -/
theorem SetOk.congr {l l':List SetC} {s:SetC} (h:SetOk l s) (hp:∀ x∈l,∃ y∈l',y.path=x.path) (hf:∀ a x,l.find? (fun x=>x.path == a)=some x→∃ y,l'.find? (fun x=>x.path == a)=some y∧y.snaps=x.snaps):SetOk l' s:=by
 refine ⟨h.path,fun u hu=>?_,h.own,h.body,h.snaps,?_⟩
 ·obtain ⟨x,hx,e⟩:=h.par u hu
  obtain ⟨y,hy,e2⟩:=hp x hx
  exact ⟨y,hy,e2.trans e⟩
 ·rcases h.org with h | ⟨a,b,h1,h2,x,hx,y,hy,e⟩
  ·exact .inl h
  ·obtain ⟨z,hz,e2⟩:=hf a x hx
   exact .inr ⟨a,b,h1,h2,z,hz,y,by rw [e2];exact hy,e⟩
end Go.Proofs.YtiojfffgiejibaaGreatDoor
namespace Go.Proofs.YtiojfffgiejibaaGreatDoor
open Go.RowKit
section
variable {P:Program} {ops:Array Oper}
def depsOf (ops:Array Oper) (i:Nat):List Nat:=match ops[i]? with
 | some o=>(o.after.toList.filter fun e=>Region.binds .any e).map (·.on)
 | none=>[]
def reachL (ops:Array Oper):Nat→List Nat→List Nat
 | 0,l=>l
 | f+1,l=>reachL ops f (l++(l.flatMap (depsOf ops)).filter fun i=>!l.contains i).eraseDups
/-- all others stand ahead of the last one -/
def lastOk (ops:Array Oper) (L:Nat):Bool:=(List.range ops.size).all fun i=>i == L || (reachL ops ops.size (depsOf ops L)).contains i
theorem reach_some {m:Nat→Option Value} (hcl:∀ j o',ops[j]?=some o'→(m j).isSome=true→∀ e∈o'.after,Region.binds .any e=true→(m e.on).isSome=true) (f:Nat):∀ l:List Nat,(∀ i∈l,(m i).isSome=true)→∀ i∈reachL ops f l,(m i).isSome=true:=by
 induction f with
 | zero=>intro l h;exact h
 | succ f ih =>
  intro l h
  refine ih _ (fun i hi=>?_)
  rw [List.mem_eraseDups,List.mem_append] at hi
  rcases hi with hi | hi
  ·exact h i hi
  ·obtain ⟨hi,_⟩:=List.mem_filter.1 hi
   obtain ⟨j,hj,hij⟩:=List.mem_flatMap.1 hi
   unfold depsOf at hij
   cases ho:ops[j]? with
   | none=>rw [ho] at hij;cases hij
   | some o =>
    rw [ho] at hij
    obtain ⟨e,he,rfl⟩:=List.mem_map.1 hij
    obtain ⟨he,hb⟩:=List.mem_filter.1 he
    exact hcl j o ho (h j hj) e (Array.mem_toList_iff.1 he) hb
end
end Go.Proofs.YtiojfffgiejibaaGreatDoor
namespace Go.Proofs.YtiojfffgiejibaaGreatDoor
open Go.RowKit
section
variable {P:Program} {ops:Array Oper}
def ClosedM (ops:Array Oper) (m:Nat→Option Value):Prop:=∀ j o',ops[j]?=some o'→(m j).isSome=true→∀ e∈o'.after,Region.binds .any e=true→(m e.on).isSome=true
theorem ClosedM.upd {m:Nat→Option Value} {i:Nat} {o:Oper} (h:ClosedM ops m) (ho:ops[i]?=some o) (hd:∀ e∈o.after,Region.binds .any e=true→(m e.on).isSome=true) (v:Value):ClosedM ops (upd m i v):=by
 intro j o' ho' hj e he hbi
 by_cases hei:e.on=i
 ·rw [hei,upd_self];rfl
 ·rw [upd_ne m v hei]
  by_cases hji:j=i
  ·subst hji
   rw [ho] at ho'
   injection ho' with ho'
   subst ho'
   exact hd e he hbi
  ·rw [upd_ne m v hji] at hj
   exact h j o' ho' hj e he hbi
end
end Go.Proofs.YtiojfffgiejibaaGreatDoor
namespace Go.Proofs.YtiojfffgiejibaaGreatDoor
open Go.RowKit
section
variable {P:Program} {ops:Array Oper}
theorem wp_region_two {id:Nat} {a0:Act} {w:World} {Q:Exit→Act→World→Prop} (S L:Nat) (late:List Nat) (hm:P.follows .mixedOrders=true) (hok:regionOk ops a0.tmps.size=true) (hlo:lastOk ops L=true) (hLs:L<ops.size) (hSs:S<ops.size) (hSL:S≠L) (Gs:List (Value→World→Prop)) (hst:∀ p∈Gs,Stays p)
  (hlt:∀ i,i<ops.size→i≠S→i≠L→i ∉ late→∀ m,ClosedM ops m→(m S).isSome=true→(m i).isSome=true)
  (hstep:∀ i o,ops[i]?=some o→i≠S→i≠L→i ∉ late→∀ (m:Nat→Option Value) (W:World),Below w.heap.size w W→m i=none→ClosedM ops m→(∀ e∈o.after,Region.binds .any e=true→∃ v,m e.on=some v∧Says Gs e.on v W) →
   ∀ (A:Act) (K:Act→World→Prop),A=frameM a0 ops m→(∀ v W',Below W.heap.size W W'→Says Gs i v W'→K (A.put o.dst v) W')→if Region.wanted o (yielded ops A.tmps)=true then o.wp P A W K Q else K (A.put o.dst undef) W)
  (R:World→Value→World→Prop)
  (hlate:∀ i o,ops[i]?=some o→i≠S→i≠L→i∈late→∀ (m:Nat→Option Value) (W9 W:World),Below w.heap.size w W9→m i=none→ClosedM ops m→(∀ e∈o.after,Region.binds .any e=true→e.on≠S→∃ v,m e.on=some v∧Says Gs e.on v W9)→(W=W9∨∃ u,m S=some u∧R W9 u W) →
   ∀ (A:Act) (K:Act→World→Prop),A=frameM a0 ops m→(∀ v,(∀ W',Says Gs i v W')→K (A.put o.dst v) W)→if Region.wanted o (yielded ops A.tmps)=true then o.wp P A W K Q else K (A.put o.dst undef) W)
  (hS:∀ o,ops[S]?=some o→∀ (m:Nat→Option Value) (W:World),Below w.heap.size w W→m S=none→ClosedM ops m→(∀ e∈o.after,Region.binds .any e=true→∃ v,m e.on=some v∧Says Gs e.on v W) →
   ∀ (A:Act) (K:Act→World→Prop),A=frameM a0 ops m→(∀ u W',R W u W'→K (A.put o.dst u) W')→if Region.wanted o (yielded ops A.tmps)=true then o.wp P A W K Q else K (A.put o.dst undef) W)
  (hL:∀ o,ops[L]?=some o→∀ (m:Nat→Option Value) (W9 W:World) (u:Value),Below w.heap.size w W9→m L=none→(∀ i,i<ops.size→i≠S→i≠L→∃ v,m i=some v∧Says Gs i v W9)→m S=some u→R W9 u W →
   ∀ (A:Act) (K:Act→World→Prop),A=frameM a0 ops m→(∀ v W',Q .normal (frameM a0 ops (upd m L v)) W'→K (A.put o.dst v) W')→if Region.wanted o (yielded ops A.tmps)=true then o.wp P A W K Q else K (A.put o.dst undef) W) :
  (Code.region id ops true).wp P Q a0 w:=by
 have hsay:∀ i v W W',Says Gs i v W→Below W.heap.size W W'→Says Gs i v W':=by
  exact mZ45
 refine wp_region_inv hm hok (fun m W=>(m L=none∧∃ W9,Below w.heap.size w W9∧(∀ i v,m i=some v→i≠S→Says Gs i v W9)∧ClosedM ops m∧((m S=none∧W=W9)∨∃ u,m S=some u∧R W9 u W))∨((∀ i,i<ops.size→(m i).isSome=true)∧Q .normal (frameM a0 ops m) W))
  (.inl ⟨rfl,_,(Below.refl _ _).drew,fun _ _ h=>(by cases h),fun _ _ _ h=>(by cases h),.inl ⟨rfl,rfl⟩⟩) ?_ ?_
 ·intro i o ho m W hJ hmi hdeps A K hA hK
  have his:i<ops.size:=(Array.getElem?_eq_some_iff.1 ho).1
  rcases hJ with ⟨hLn,W9,hb,hs,hcl,hW⟩ | ⟨hall,_⟩
  ·have hdv:∀ e∈o.after,Region.binds .any e=true→e.on≠S→∃ v,m e.on=some v∧Says Gs e.on v W9:=fun e he hbi hne=>by
    have:=hdeps e he hbi
    cases hme:m e.on with
    | none=>rw [hme] at this;cases this
    | some v=>exact ⟨v,rfl,hs _ _ hme hne⟩
   have hsu:∀ v W',Below W9.heap.size W9 W'→(i≠S→Says Gs i v W')→∀ j u,upd m i v j=some u→j≠S→Says Gs j u W':=fun v W' hbw hSy j u hu hjS=>by
    by_cases hji:j=i
    ·subst hji;rw [upd_self] at hu;injection hu with hu;subst hu;exact hSy hjS
    ·rw [upd_ne m v hji] at hu;exact hsay j u W9 W' (hs j u hu hjS) hbw
   by_cases hiL:i=L
   ·subst hiL
    have hr:=reach_some hcl ops.size (depsOf ops i) (fun k hk=>by
     unfold depsOf at hk
     rw [ho] at hk
     obtain ⟨e,he,rfl⟩:=List.mem_map.1 hk
     obtain ⟨he,hbi⟩:=List.mem_filter.1 he
     exact hdeps e (Array.mem_toList_iff.1 he) hbi)
    have hoth:∀ j,j<ops.size→j≠i→(m j).isSome=true:=fun j hj hne=>by
     have h1:=List.all_eq_true.1 hlo j (List.mem_range.2 hj)
     simp only [Bool.or_eq_true,beq_iff_eq,List.contains_iff_mem] at h1
     rcases h1 with h1 | h1
     ·exact absurd h1 hne
     ·exact hr j h1
    rcases hW with ⟨hn,_⟩ | ⟨u,hu,hR⟩
    ·have:=hoth S hSs hSL
     rw [hn] at this
     cases this
    ·refine hL o ho m W9 W u hb hmi (fun j hj h1 h2=>?_) hu hR A K hA (fun v W' hQ=>hK v W' (.inr ⟨fun j hj=>?_,hQ⟩))
     ·have h3:=hoth j hj h2
      cases hmj:m j with
      | none=>rw [hmj] at h3;cases h3
      | some v=>exact ⟨v,rfl,hs j v hmj h1⟩
     ·by_cases hji:j=i
      ·subst hji;rw [upd_self];rfl
      ·rw [upd_ne m v hji];exact hoth j hj hji
   ·by_cases hiS:i=S
    ·subst hiS
     rcases hW with ⟨_,rfl⟩ | ⟨u,hu,_⟩
     ·refine hS o ho m W hb hmi hcl (fun e he hbi=>hdv e he hbi (fun hne=>by have:=hdeps e he hbi;rw [hne,hmi] at this;cases this)) A K hA fun u W' hR=>hK u W' (.inl ⟨by rw [upd_ne m u (Ne.symm hiL)];exact hLn,W,hb,hsu u W (Below.refl _ _) (fun h=>absurd rfl h),hcl.upd ho hdeps u,.inr ⟨u,upd_self _ _ _,hR⟩⟩)
     ·rw [hmi] at hu;cases hu
    ·by_cases hil:i∈late
     ·refine hlate i o ho hiS hiL hil m W9 W hb hmi hcl hdv (by rcases hW with ⟨_,h⟩ | h;exact .inl h;exact .inr h) A K hA fun v hv=>hK v W (.inl ⟨by rw [upd_ne m v (Ne.symm hiL)];exact hLn,W9,hb,hsu v W9 (Below.refl _ _) (fun _=>hv _),hcl.upd ho hdeps v,?_⟩)
      rw [upd_ne m v (fun e=>hiS e.symm)]
      exact hW
     ·rcases hW with ⟨hn,rfl⟩ | ⟨u,hu,_⟩
      ·refine hstep i o ho hiS hiL hil m W hb hmi hcl (fun e he hbi=>hdv e he hbi (fun hne=>by have:=hdeps e he hbi;rw [hne,hn] at this;cases this)) A K hA fun v W' hbw hSy=>hK v W' (.inl ⟨by rw [upd_ne m v (Ne.symm hiL)];exact hLn,W',below_step hb hbw,hsu v W' hbw (fun _=>hSy),hcl.upd ho hdeps v,.inl ⟨?_,rfl⟩⟩)
       rw [upd_ne m v (fun e=>hiS e.symm)]
       exact hn
      ·have:=hlt i his hiS hiL hil m hcl (by rw [hu];rfl)
       rw [hmi] at this
       cases this
  ·have:=hall i his
   rw [hmi] at this
   cases this
 ·intro m W hJ hall
  rcases hJ with ⟨hLn,_⟩ | ⟨_,hQ⟩
  ·have:=hall L hLs
   rw [hLn] at this
   cases this
  ·exact hQ
end
end Go.Proofs.YtiojfffgiejibaaGreatDoor
namespace Go.Proofs.YtiojfffgiejibaaGreatDoor
open Go.RowKit
set_option maxRecDepth 100000 in
set_option maxHeartbeats 2000000 in
theorem rset14c_any (x:SetR) (w:World) (B:Nat) (hB:B≤w.heap.size) (hr:x.rd w B) (hz:x.sz) (hs:setSum x≤4000000000000000000) :
  Calls Tryz.prog 140 #[.agg (encSet x).toArray] w fun e w'=>e=.returned (.int .i64 (setSum x))∧Below w.heap.size w w':=by
 obtain ⟨pa,og,⟨bA,bn,bc,bl⟩,⟨zA,zn,zc,zl⟩,⟨oA,on,oc,ol⟩⟩:=x
 show Calls Tryz.prog 140 #[.agg #[.string ⟨pa.toArray⟩,.string ⟨og.toArray⟩,.slice bA bn bc,.slice zA zn zc,.slice oA on oc]] w _
 have hb:=((Below.refl w.heap.size w).alloc (Nat.le_refl _) (.cells #[.string ⟨pa.toArray⟩,.string ⟨og.toArray⟩,.slice bA bn bc,.slice zA zn zc,.slice oA on oc] 56))
 have ks:=Blk.new w 56 #[.string ⟨pa.toArray⟩,.string ⟨og.toArray⟩,.slice bA bn bc,.slice zA zn zc,.slice oA on oc]
 have hsz:(w.alloc (.cells #[.string ⟨pa.toArray⟩,.string ⟨og.toArray⟩,.slice bA bn bc,.slice zA zn zc,.slice oA on oc] 56)).heap.size=w.heap.size+1:=tZ3
 obtain ⟨W1,hW1⟩:∃ W,W=(w.alloc (.cells #[.string ⟨pa.toArray⟩,.string ⟨og.toArray⟩,.slice bA bn bc,.slice zA zn zc,.slice oA on oc] 56)):=⟨_,rfl⟩
 rw [← hW1] at hb hsz ks
 have hKs:Hid (∀ W,Below W1.heap.size W1 W→Blk W w.heap.size 56 #[.string ⟨pa.toArray⟩,.string ⟨og.toArray⟩,.slice bA bn bc,.slice zA zn zc,.slice oA on oc]):=fun W h=>ks.below h tZ1
 have hBW:Hid (∀ W,Below W1.heap.size W1 W→Below w.heap.size w W):=fun W h=>hb.trans (h.mono tZ1)
 have hSZ:Hid (∀ W,Below W1.heap.size W1 W→w.heap.size+1≤W.heap.size):=fun W h=>by have:=h.size;omega
 have hW0:Hid (Below W1.heap.size W1 W1):=Below.refl _ _
 have hrd:Hid (∀ W,Below W1.heap.size W1 W→Reads W B 5 zA zn (cellsK encSnap zl)):=fun W h=>hr.snaps.2.2.below ((hBW.out W h).mono hB)
 have HZN:=Lib.hid (show zn=zl.length from hr.snaps.1)
 have HZ:=Lib.hid hz
 have HM:=Lib.hid (sumB_mono zl)
 have HS:Hid (setSum ⟨pa,og,⟨bA,bn,bc,bl⟩,⟨zA,zn,zc,zl⟩,⟨oA,on,oc,ol⟩⟩=((bn:Int)+1)+sumB zl zl.length):=rfl
 have HLE:=Lib.hid hs
 have hbn:bn≤1000000000000:=hz.body
 have hzn:zn≤1000000000000:=hz.snaps
 obtain ⟨S0,hS0⟩:∃ S:Int,S=1+(bn:Int):=⟨_,rfl⟩
 have hw1:IntKind.i64.wrap (1+(bn:Int))=S0:=tZ21
 have HS0:=Lib.hid hS0
 obtain ⟨U,hU⟩:∃ U,U=setSum ⟨pa,og,⟨bA,bn,bc,bl⟩,⟨zA,zn,zc,zl⟩,⟨oA,on,oc,ol⟩⟩:=⟨_,rfl⟩
 rw [← hU] at HS HLE ⊢
 clear hb hsz ks hr hz hs hS0 hU hbn
 go_enter Tryz.func140,Tryz.ntmps140
 have kk:=hKs.out W1 hW0.out
 have e2:=kk.cell 2
 simp only [zF,zD,zE] at e2
 clear kk
 go_upto_region 2 with (rw [← hW1];clear hW1)
 go_wp2_with fail
 clear e2
 go_loopw [3,4] (fun a j wr=>∃ k:Nat,k≤zn∧a=.int .i64 (S0+sumB zl k)∧j=.int .i64 (k:Int)∧Hid (Below W1.heap.size W1 wr)) (fun _ j _=>zn-(intOf j).toNat)
 case atStart=>exact ⟨0,Nat.zero_le _,by rw [sumB_zero,Int.add_zero],rfl,hW0.out⟩
 case round =>
  obtain ⟨k,hk,rfl,rfl,hbw⟩:=hrel
  have kk:=hKs.out wr hbw.out
  have e3:=kk.cell 3
  simp only [zF,zD,zE] at e3
  clear kk
  by_cases hlt:k<zn
  ·have hki:(k:Int)<(zn:Int):=tZ1
   have hk0:(0:Int)≤(k:Int):=tZ1
   have hkl:k<zl.length:=tZ99
   obtain ⟨ad,hsa,-,-,-,r2,-,-⟩:=snap_at (hrd.out wr hbw.out) HZN.out hlt
   subst hsa
   have hsz:=(HZ.out.each _ (List.getElem_mem hkl)).body
   have hss:=sumB_succ zl k hkl
   obtain ⟨y,hy⟩:∃ y,y=zl[k]'hkl:=⟨_,rfl⟩
   rw [← hy] at r2 hsz hss
   clear hy
   have hbd:=HM.out k
   have hbd2:=HM.out (k+1)
   have h1:=HS.out
   have h2:=HLE.out
   have h3:=HS0.out
   obtain ⟨S1,hS1⟩:∃ S:Int,S=S0+sumB zl k:=⟨_,rfl⟩
   obtain ⟨S2,hS2⟩:∃ S:Int,S=S1+1:=⟨_,rfl⟩
   obtain ⟨S3,hS3⟩:∃ S:Int,S=S2+(y.body.n:Int):=⟨_,rfl⟩
   have hwa:IntKind.i64.wrap (S1+1)=S2:=tZ21
   have hwb:IntKind.i64.wrap (S2+(y.body.n:Int))=S3:=tZ21
   rw [← hS1]
   have HN:Hid (S3=S0+sumB zl (k+1)):=by show _=_;omega
   obtain ⟨ynm,ygd,⟨yb1,ybn,yb3,ybl⟩,⟨yt1,ytn,yt3,ytl⟩,⟨yo1,yon,yo3,yol⟩⟩:=y
   simp only at r2 hwb
   clear hsz hss hbd hbd2 h1 h2 h3 hS1 hS2 hS3
   exact mZ203
  ·have hkn:k=zn:=tZ1
   have HU:Hid (S0+sumB zl k=U):=by show _=_;rw [hkn,HZN.out,HS.out,HS0.out];omega
   exact mZ202
set_option maxRecDepth 100000 in
set_option maxHeartbeats 4000000 in
theorem rcharge_any (t:TenR) (w:World) (B:Nat) (hB:B≤w.heap.size) (hr:t.rd w B) (hz:t.sz) (hs:tenSum t≤4000000000000000000) :
  Calls Tryz.prog 93 #[t.val] w fun e w'=>e=.returned (.int .i64 (tenSum t))∧Below w.heap.size w w':=by
 obtain ⟨nm,qu,nx,⟨s1,sn,s3,sl⟩,⟨u1,un,u3,ul⟩,⟨t1,tn,t3,tl⟩,⟨l1,ln,l3,ll⟩⟩:=t
 show Calls Tryz.prog 93 #[.agg #[.string ⟨nm.toArray⟩,.int .i64 qu,.int .i64 nx,.slice s1 sn s3,.slice u1 un u3,.slice t1 tn t3,.slice l1 ln l3]] w _
 have hb:=((Below.refl w.heap.size w).alloc (Nat.le_refl _) (.cells #[.string ⟨nm.toArray⟩,.int .i64 qu,.int .i64 nx,.slice s1 sn s3,.slice u1 un u3,.slice t1 tn t3,.slice l1 ln l3] 27))
 have kt:=Blk.new w 27 #[.string ⟨nm.toArray⟩,.int .i64 qu,.int .i64 nx,.slice s1 sn s3,.slice u1 un u3,.slice t1 tn t3,.slice l1 ln l3]
 have hsz:(w.alloc (.cells #[.string ⟨nm.toArray⟩,.int .i64 qu,.int .i64 nx,.slice s1 sn s3,.slice u1 un u3,.slice t1 tn t3,.slice l1 ln l3] 27)).heap.size=w.heap.size+1:=tZ3
 obtain ⟨W1,hW1⟩:∃ W,W=(w.alloc (.cells #[.string ⟨nm.toArray⟩,.int .i64 qu,.int .i64 nx,.slice s1 sn s3,.slice u1 un u3,.slice t1 tn t3,.slice l1 ln l3] 27)):=⟨_,rfl⟩
 rw [← hW1] at hb hsz kt
 have hKt:Hid (∀ W,Below W1.heap.size W1 W→Blk W w.heap.size 27 #[.string ⟨nm.toArray⟩,.int .i64 qu,.int .i64 nx,.slice s1 sn s3,.slice u1 un u3,.slice t1 tn t3,.slice l1 ln l3]):=fun W h=>kt.below h tZ1
 have hBW:Hid (∀ W,Below W1.heap.size W1 W→Below w.heap.size w W):=fun W h=>hb.trans (h.mono tZ1)
 have hSZ:Hid (∀ W,Below W1.heap.size W1 W→w.heap.size+1≤W.heap.size):=fun W h=>by have:=h.size;omega
 have hW0:Hid (Below W1.heap.size W1 W1):=Below.refl _ _
 have hrw:Hid (∀ W,Below W1.heap.size W1 W→TenR.rd W B ⟨nm,qu,nx,⟨s1,sn,s3,sl⟩,⟨u1,un,u3,ul⟩,⟨t1,tn,t3,tl⟩,⟨l1,ln,l3,ll⟩⟩∧B≤W.heap.size):=fun W h =>
  ⟨TenR.rd.below hr ((hBW.out W h).mono hB),by have:=hSZ.out W h;omega⟩
 have HSN:=Lib.hid (show sn=sl.length from hr.sets.1)
 have HTN:=Lib.hid (show tn=tl.length from hr.stages.1)
 have HZ:=Lib.hid hz
 have HM:=Lib.hid (sumS_mono sl)
 have HG:=Lib.hid (sumG_mono tl)
 have HS:Hid (tenSum ⟨nm,qu,nx,⟨s1,sn,s3,sl⟩,⟨u1,un,u3,ul⟩,⟨t1,tn,t3,tl⟩,⟨l1,ln,l3,ll⟩⟩=sumS sl sl.length+sumG tl tl.length):=rfl
 have HLE:=Lib.hid hs
 have hsn:sn≤1000000000000:=hz.sets
 have htn:tn≤1000000000000:=hz.stages
 obtain ⟨U,hU⟩:∃ U,U=tenSum ⟨nm,qu,nx,⟨s1,sn,s3,sl⟩,⟨u1,un,u3,ul⟩,⟨t1,tn,t3,tl⟩,⟨l1,ln,l3,ll⟩⟩:=⟨_,rfl⟩
 rw [← hU] at HS HLE ⊢
 clear hb hsz kt hr hz hs hU
 go_enter Tryz.func93,Tryz.ntmps93
 go_upto_region 2 with (rw [← hW1];clear hW1)
 go_wp2_with fail
 go_loopw [3,4] (fun a j wr=>∃ k:Nat,k≤sn∧a=.int .i64 (sumS sl k)∧j=.int .i64 (k:Int)∧Hid (Below W1.heap.size W1 wr)) (fun _ j _=>sn-(intOf j).toNat)
 case atStart=>exact ⟨0,Nat.zero_le _,by simp [sumS],rfl,by first | exact hW0.out | (rw [← hW1];exact hW0.out)⟩
 case round =>
  obtain ⟨k,hk,rfl,rfl,hbw⟩:=hrel
  have kk:=hKt.out wr hbw.out
  have e3:=kk.cell 3
  have e5:=kk.cell 5
  simp only [zF,zD,zE] at e3 e5
  clear kk
  by_cases hlt:k<sn
  ·have hki:(k:Int)<(sn:Int):=tZ1
   have hk0:(0:Int)≤(k:Int):=tZ1
   have hkl:k<sl.length:=tZ79
   obtain ⟨ad,hsa,-,q0,q1,q2,q3,q4⟩:=set_at (hrw.out wr hbw.out).1.sets.2.2 HSN.out hlt
   simp only at hsa
   have hss:=sumS_succ sl k hkl
   have hbd:=HM.out k
   have hbd2:=HM.out (k+1)
   have hbg:=HG.out tl.length
   have h1:=HS.out
   have h2:=HLE.out
   have hx:=(hrw.out wr hbw.out).1.eachS _ (List.getElem_mem hkl)
   have hzx:=HZ.out.eachS _ (List.getElem_mem hkl)
   have hnn:0≤sumS sl (k+1)-sumS sl k:=by
    have:=sumB_mono (sl[k]'hkl).snaps.l (sl[k]'hkl).snaps.l.length
    rw [hss]
    unfold setSum
    omega
   obtain ⟨x,hxx⟩:∃ x,x=sl[k]'hkl:=⟨_,rfl⟩
   simp only [← hxx] at q0 q1 q2 q3 q4 hx hzx hss
   have hc:=rset14c_any x wr B (hrw.out wr hbw.out).2 hx hzx tZ1
   obtain ⟨S1,hS1⟩:∃ S:Int,S=sumS sl k:=⟨_,rfl⟩
   obtain ⟨X1,hX1⟩:∃ S:Int,S=setSum x:=⟨_,rfl⟩
   obtain ⟨S3,hS3⟩:∃ S:Int,S=S1+X1:=⟨_,rfl⟩
   have hwa:IntKind.i64.wrap (S1+X1)=S3:=tZ21
   have HN:Hid (S3=sumS sl (k+1)):=by show _=_;omega
   rw [← hS1]
   rw [← hX1] at hc
   obtain ⟨pa,og,⟨bA,bn,bc,bl⟩,⟨zA,zn,zc,zl⟩,⟨oA,on,oc,ol⟩⟩:=x
   simp only at q0 q1 q2 q3 q4
   have hc:Calls Tryz.prog 140 #[.agg #[.string ⟨pa.toArray⟩,.string ⟨og.toArray⟩,.slice bA bn bc,.slice zA zn zc,.slice oA on oc]] wr _:=hc
   subst hsa
   clear hss hbd hbd2 hbg h1 h2 hS1 hS3 hX1 hx hzx hxx hnn e5
   go_wp2_with fail
   refine hc.mono ?_
   clear hc q0 q1 q2 q3 q4 e3
   rintro e w3 ⟨rfl,hb⟩
   have HW3:=Lib.hid (hbw.out.trans (hb.mono hbw.out.size))
   clear hb
   go_wp2_with fail
   go_roundw
   case rel=>exact ⟨k+1,by omega,by rw [HN.out],by go_num,HW3⟩
   case measure=>simp [intOf];omega
  ·have hkn:k=sn:=tZ1
   have HU:Hid (sumS sl k=sumS sl sl.length):=by show _=_;rw [hkn,HSN.out]
   rw [HU.out]
   clear hkn
   obtain ⟨S0,hS0⟩:∃ S:Int,S=sumS sl sl.length:=⟨_,rfl⟩
   rw [← hS0]
   have HS0:=Lib.hid hS0
   have h00:=HM.out sl.length
   have HS00:Hid (0≤S0):=by show 0≤S0;omega
   have HW0:=hbw
   obtain ⟨wo,hwo⟩:∃ W,W=wr:=⟨_,rfl⟩
   subst hwo
   clear hS0 h00 hk HU hbw
   go_wp2_with fail
   go_loopw [3,5] (fun a j wr=>∃ k:Nat,k≤tn∧a=.int .i64 (S0+sumG tl k)∧j=.int .i64 (k:Int)∧Hid (Below W1.heap.size W1 wr)) (fun _ j _=>tn-(intOf j).toNat)
   case atStart=>exact ⟨0,Nat.zero_le _,by simp [sumG],rfl,HW0⟩
   case round =>
    clear e3 e5
    obtain ⟨k,hk,rfl,rfl,hbw⟩:=hrel
    have kk:=hKt.out wr hbw.out
    have e5:=kk.cell 5
    simp only [zF,zD,zE] at e5
    clear kk
    by_cases hlt:k<tn
    ·have hki:(k:Int)<(tn:Int):=tZ1
     have hk0:(0:Int)≤(k:Int):=tZ1
     have hkl:k<tl.length:=tZ78
     obtain ⟨ad,hsa,_,hel⟩:=Reads.elK (k:=21) (enc:=encStage) (fun _=>rfl) (hrw.out wr hbw.out).1.stages.2.2 HTN.out hlt
     simp only at hsa
     subst hsa
     have hsz:=(HZ.out.eachT _ (List.getElem_mem hkl)).body
     have q13:wr.cell? ⟨(ad.add (k*21)).block,(ad.add (k*21)).off+13,none⟩=some (.slice (tl[k]'hkl).body.A (tl[k]'hkl).body.n (tl[k]'hkl).body.c):=by
      have h:=hel 13 tZ4
      rw [addr_add_succ] at h
      exact h
     have hss:=sumG_succ tl k hkl
     have hbd:=HG.out k
     have hbd2:=HG.out (k+1)
     have h1:=HS.out
     have h2:=HLE.out
     have h3:=HS0.out
     have h4:=HS00.out
     obtain ⟨y,hy⟩:∃ y,y=tl[k]'hkl:=⟨_,rfl⟩
     simp only [← hy] at q13 hsz hss
     obtain ⟨b1,hb1⟩:∃ b,b=y.body.A:=⟨_,rfl⟩
     obtain ⟨bn,hbn⟩:∃ b,b=y.body.n:=⟨_,rfl⟩
     obtain ⟨b3,hb3⟩:∃ b,b=y.body.c:=⟨_,rfl⟩
     rw [← hb1,← hbn,← hb3] at q13
     rw [← hbn] at hsz hss
     obtain ⟨S1,hS1⟩:∃ S:Int,S=S0+sumG tl k:=⟨_,rfl⟩
     obtain ⟨S2,hS2⟩:∃ S:Int,S=S1+1:=⟨_,rfl⟩
     obtain ⟨S3,hS3⟩:∃ S:Int,S=S2+(bn:Int):=⟨_,rfl⟩
     have hwa:IntKind.i64.wrap (S1+1)=S2:=tZ21
     have hwb:IntKind.i64.wrap (S2+(bn:Int))=S3:=tZ21
     rw [← hS1]
     have HN:Hid (S3=S0+sumG tl (k+1)):=by show _=_;omega
     clear hsz hss hbd hbd2 h1 h2 h3 h4 hS1 hS2 hS3 hy hb1 hbn hb3 hel
     exact mZ203
    ·have hkn:k=tn:=tZ1
     have HU:Hid (S0+sumG tl k=U):=by show _=_;rw [hkn,HTN.out,HS.out,HS0.out]
     exact mZ202
end Go.Proofs.YtiojfffgiejibaaGreatDoor
namespace Go.Proofs.YtiojfffgiejibaaGreatDoor
open Go.RowKit
def wStep (s:SetR) (st:List SetR×Bool) (x:SetR):List SetR×Bool :=
 (if st.2=false∧Op.bytesLess x.path s.path=false then st.1++[s]++[x] else st.1++[x],if st.2=false∧Op.bytesLess x.path s.path=false then true else st.2)
def wRun (s:SetR) (l:List SetR):List SetR×Bool:=l.foldl (wStep s) ([],false)
def wEnd (s:SetR) (st:List SetR×Bool):List SetR:=if st.2=false then st.1++[s] else st.1
theorem wRun_succ (s:SetR) (l:List SetR) (k:Nat) (h:k<l.length):wRun s (l.take (k+1))=wStep s (wRun s (l.take k)) (l[k]'h):=by
 unfold wRun
 rw [List.take_succ_eq_append_getElem h,List.foldl_append]
 rfl
theorem wRun_below (s:SetR) (A:List SetR) (h:∀ x∈A,Op.bytesLess x.path s.path=true):∀ m:List SetR,A.foldl (wStep s) (m,false)=(m++A,false):=by
 induction A with
 | nil=>intro m;simp
 | cons x r ih =>
  intro m
  have h1:=h x List.mem_cons_self
  rw [List.foldl_cons]
  have e:wStep s (m,false) x=(m++[x],false):=by
   unfold wStep
   simp [h1]
  rw [e,ih (fun y hy=>h y (List.mem_cons_of_mem _ hy))]
  simp
theorem wRun_above (s:SetR) (B:List SetR):∀ m:List SetR,B.foldl (wStep s) (m,true)=(m++B,true):=by
 induction B with
 | nil=>intro m;simp
 | cons x r ih =>
  intro m
  rw [List.foldl_cons]
  have e:wStep s (m,true) x=(m++[x],true):=by
   unfold wStep
   simp
  rw [e,ih]
  simp
theorem wRun_end (s:SetR) (l:List SetR):wEnd s (wRun s l)=l.take (posF (fun x:SetR=>cmpS x.path s.path) l)++[s]++l.drop (posF (fun x:SetR=>cmpS x.path s.path) l):=by
 obtain ⟨A,hA⟩:∃ A,A=l.takeWhile fun x=>decide (cmpS x.path s.path<0):=⟨_,rfl⟩
 obtain ⟨B,hB⟩:∃ B,B=l.dropWhile fun x=>decide (cmpS x.path s.path<0):=⟨_,rfl⟩
 have e:l=A++B:=by rw [hA,hB];exact List.takeWhile_append_dropWhile.symm
 have hp:posF (fun x:SetR=>cmpS x.path s.path) l=A.length:=by rw [hA];rfl
 have h2:∀ x∈A,Op.bytesLess x.path s.path=true:=fun x hx=>by
  rw [hA] at hx
  exact mZ205
 rw [hp]
 unfold wRun
 rw [e,List.take_left' rfl,List.drop_left' rfl,List.foldl_append,wRun_below s A h2,List.nil_append]
 cases hb:B with
 | nil=>simp [wEnd]
 | cons b B' =>
  have h3:Op.bytesLess b.path s.path=false:=by
   have h1:¬ (decide (cmpS b.path s.path<0))=true:=by
    have h4:l.dropWhile (fun x=>decide (cmpS x.path s.path<0))=b :: B':=by rw [← hB];exact hb
    have h2:=List.head_dropWhile_not (fun x:SetR=>decide (cmpS x.path s.path<0)) (l:=l) (by rw [h4];exact List.cons_ne_nil _ _)
    simp only [h4,List.head_cons] at h2
    rw [h2]
    decide
   exact mZ204
  rw [List.foldl_cons]
  have e2:wStep s (A,false) b=(A++[s]++[b],true):=by
   unfold wStep
   simp [h3]
  rw [e2,wRun_above]
  simp [wEnd]
theorem wRun_mem (s:SetR) (l:List SetR):∀ z∈(wRun s l).1,z=s∨z∈l:=by
 have key:∀ (l:List SetR) (st:List SetR×Bool),∀ z∈(l.foldl (wStep s) st).1,z∈st.1∨z=s∨z∈l:=by
  intro l
  induction l with
  | nil=>intro st z hz;exact .inl hz
  | cons x r ih =>
   intro st z hz
   rw [List.foldl_cons] at hz
   rcases ih _ z hz with h | h | h
   ·unfold wStep at h
    by_cases hc:st.2=false∧Op.bytesLess x.path s.path=false
    ·simp only [if_pos hc] at h
     simp only [List.mem_append,List.mem_singleton] at h
     rcases h with (h | h) | h
     ·exact .inl h
     ·exact .inr (.inl h)
     ·exact .inr (.inr tZ130)
    ·simp only [if_neg hc] at h
     simp only [List.mem_append,List.mem_singleton] at h
     rcases h with h | h
     ·exact .inl h
     ·exact .inr (.inr tZ130)
   ·exact .inr (.inl h)
   ·exact .inr (.inr (List.mem_cons_of_mem _ h))
 intro z hz
 rcases key l _ z hz with h | h
 ·cases h
 ·exact h
theorem wEnd_mem (s:SetR) (l:List SetR):∀ z∈wEnd s (wRun s l),z=s∨z∈l:=by
 intro z hz
 unfold wEnd at hz
 split at hz
 ·rcases List.mem_append.1 hz with h | h
  ·exact wRun_mem s l z h
  ·exact .inl (List.mem_singleton.1 h)
 ·exact wRun_mem s l z hz
/-- a block more, and one that is written: the rest stays -/
theorem grown_new {wB wr w5:World} {g5:Nat} {u:Value} (h:wB.grownBy wr (some g5)) (hg:wr.grownBy w5 u.ownBlock) (hlt:∀ g,u.ownBlock=some g→wB.heap.size≤g):wB.grownBy w5 (some g5):=by
 refine ⟨hg.os.trans h.os,hg.tape.trans h.tape,hg.output.trans h.output,Nat.le_trans h.size hg.size,fun k hk hne=>?_⟩
 have h1:=h.block k hk hne
 rw [← h1]
 refine hg.block k (Nat.lt_of_lt_of_le hk h.size) (fun e=>?_)
 have:=hlt k e.symm
 omega
theorem grown_below {wB wr W:World} {o:Option Nat} (h:wB.grownBy wr o) (hb:Below wr.heap.size wr W):wB.grownBy W o :=
 ⟨hb.os.trans h.os,hb.tape.trans h.tape,hb.output.trans h.output,Nat.le_trans h.size hb.size,fun k hk hne=>(hb.block k (Nat.lt_of_lt_of_le hk h.size)).trans (h.block k hk hne)⟩
end Go.Proofs.YtiojfffgiejibaaGreatDoor
namespace Go.Proofs.YtiojfffgiejibaaGreatDoor
open Go.RowKit
/-- a set that is found -/
structure AtS (c:TenC) (p n:BS) (bad:Bool) (k:Nat):Prop where
 E:c.E=0
 path:pathB p=true
 name:nameB n=true
 good:bad=false
 lt:k<c.sets.length
 at_:(c.sets[k]'lt).path=p
 find:c.find p=(k:Int)
/-! ### what is made -/
/-! ### what may be -/
structure SnapsOk (l:List SnapC):Prop where
 len:l.length≤16
 each:∀ x∈l,snapOk x.r=true∧nameB x.nm=true
 asc:l.Pairwise fun a b=>a.gd<b.gd
 nodup:(l.map SnapC.nm).Nodup
theorem snapsFrom_iff (p:Option Int) (l:List SnapR):snapsFrom p l=true↔(∀ x∈l,snapOk x=true)∧(l.Pairwise fun a b=>a.gd<b.gd)∧∀ q,p=some q→∀ x∈l,q<x.gd:=by
 induction l generalizing p with
 | nil=>cases p <;> simp [snapsFrom]
 | cons y l ih =>
  rw [snapsFrom_cons,Bool.and_eq_true,Bool.and_eq_true,ih]
  constructor
  ·rintro ⟨⟨h1,h2⟩,h3,h4,h5⟩
   refine ⟨fun x hx=>?_,List.pairwise_cons.2 ⟨fun z hz=>h5 _ rfl z hz,h4⟩,fun q hq x hx=>?_⟩
   ·exact mZ29
   ·subst hq
    have h2:q<y.gd:=by simpa using h2
    rcases List.mem_cons.1 hx with rfl | hx
    ·exact h2
    ·have:=h5 _ rfl x hx
     omega
  ·rintro ⟨h1,h2,h3⟩
   obtain ⟨h4,h5⟩:=List.pairwise_cons.1 h2
   refine ⟨⟨h1 y List.mem_cons_self,?_⟩,fun x hx=>h1 x (List.mem_cons_of_mem _ hx),h5,fun q hq x hx=>by cases hq;exact h4 x hx⟩
   cases p with
   | none=>rfl
   | some q=>simpa using h3 q rfl y List.mem_cons_self
theorem unlikeF_iff (acc l:List BS):unlikeF acc l=true↔(∀ x∈l,nameB x=true)∧l.Nodup∧∀ x∈l,x ∉ acc:=by
 induction l generalizing acc with
 | nil=>simp [unlikeF]
 | cons y l ih =>
  rw [unlikeF_cons,Bool.and_eq_true,Bool.and_eq_true,ih,Bool.not_eq_true',← Bool.not_eq_true,List.contains_iff_mem]
  constructor
  ·rintro ⟨⟨h1,h2⟩,h3,h4,h5⟩
   refine ⟨fun x hx=>?_,List.nodup_cons.2 ⟨fun hy=>h5 y hy tZ3,h4⟩,fun x hx=>?_⟩
   ·exact mZ29
   ·rcases List.mem_cons.1 hx with rfl | hx
    ·exact h2
    ·exact fun h=>h5 x hx (by simp [h])
  ·rintro ⟨h1,h2,h3⟩
   obtain ⟨h4,h5⟩:=List.nodup_cons.1 h2
   refine ⟨⟨h1 y List.mem_cons_self,h3 y List.mem_cons_self⟩,fun x hx=>h1 x (List.mem_cons_of_mem _ hx),h5,fun x hx h=>?_⟩
   rcases List.mem_append.1 h with h | h
   ·exact h3 x (List.mem_cons_of_mem _ hx) h
   ·rw [List.mem_singleton] at h
    subst h
    exact h4 hx
theorem snapsB_iff (l:List SnapC):snapsB (l.map SnapC.r)=true↔SnapsOk l:=by
 unfold snapsB unlikeB
 rw [Bool.and_eq_true,Bool.and_eq_true,snapsFrom_iff,unlikeF_iff]
 simp only [decide_eq_true_eq,List.length_map,List.map_map]
 have e:((fun x:SnapR=>x.nm) ∘ SnapC.r)=SnapC.nm:=rfl
 rw [e]
 constructor
 ·rintro ⟨⟨h1,h2,h3,-⟩,h4,h5,-⟩
  exact ⟨h1,fun x hx=>⟨h2 _ (List.mem_map_of_mem hx),h4 _ (List.mem_map_of_mem hx)⟩,(List.pairwise_map (f:=SnapC.r)).1 h3,h5⟩
 ·rintro ⟨h1,h2,h3,h4⟩
  refine ⟨⟨h1,fun x hx=>?_,(List.pairwise_map (f:=SnapC.r)).2 h3,fun q hq=>by cases hq⟩,fun x hx=>?_,h4,fun x hx=>by simp⟩
  ·obtain ⟨y,hy,rfl⟩:=List.mem_map.1 hx
   exact (h2 y hy).1
  ·obtain ⟨y,hy,rfl⟩:=List.mem_map.1 hx
   exact (h2 y hy).2
theorem SetOk.all {l:List SetC} {z:SetC} (h:SetOk l z):propsB z.own=true∧okL z.body=true∧SnapsOk z.snaps∧(z.org=[]∨∃ a b,splitL z.org=some (a,b)∧a≠z.path∧∃ x∈l,x.path=a∧∃ y∈x.snaps,y.nm=b):=by
 refine ⟨h.own,h.body,(snapsB_iff _).1 h.snaps,?_⟩
 rcases h.org with h | ⟨a,b,h1,h2,x,hf,y,hy,e⟩
 ·exact .inl h
 ·exact .inr ⟨a,b,h1,h2,x,List.mem_of_find?_eq_some hf,by simpa using List.find?_some hf,y,hy,e⟩
/-! ### another name -/
end Go.Proofs.YtiojfffgiejibaaGreatDoor
namespace Go.Proofs.YtiojfffgiejibaaGreatDoor
open Go.RowKit
section
variable {ops:Array Oper}
theorem reach_closed {m:Nat→Option Value} (hcl:ClosedM ops m) {S:Nat} (hS:(m S).isSome=true):∀ i∈reachL ops ops.size (depsOf ops S),(m i).isSome=true:=by
 refine reach_some hcl ops.size _ (fun k hk=>?_)
 unfold depsOf at hk
 cases ho:ops[S]? with
 | none=>rw [ho] at hk;cases hk
 | some o =>
  rw [ho] at hk
  obtain ⟨e,he,rfl⟩:=List.mem_map.1 hk
  obtain ⟨he,hbi⟩:=List.mem_filter.1 he
  exact hcl S o ho hS e (Array.mem_toList_iff.1 he) hbi
theorem early2 {S L:Nat} {late:List Nat} (h:((List.range ops.size).all fun j=>j == S || (j == L || (late.contains j || (reachL ops ops.size (depsOf ops S)).contains j)))=true) :
  ∀ i,i<ops.size→i≠S→i≠L→i ∉ late→∀ m,ClosedM ops m→(m S).isSome=true→(m i).isSome=true:=by
 intro i hi h1 h2 h3 m hcl hS
 have h4:=List.all_eq_true.1 h i (List.mem_range.2 hi)
 simp only [Bool.or_eq_true,beq_iff_eq,List.contains_iff_mem] at h4
 rcases h4 with h4 | h4 | h4 | h4
 ·exact absurd h4 h1
 ·exact absurd h4 h2
 ·exact absurd h4 h3
 ·exact reach_closed hcl hS i h4
end
/-- the end of a late step of one value -/
theorem zL {p:Prop} (h:p:=by
 try clear hdeps
 try clear hcl
 try clear hmi
 have hK0:=hK _ (fun _=>Eq.refl _)
 clear hA hK
 go_simp
 exact hK0):p:=h
end Go.Proofs.YtiojfffgiejibaaGreatDoor
