/-
  names.Parent and names.Split, by their contracts. The plain law of contents' changes: going along two contents, and asking index by index, make the same records. Short words for drawn regions with a store: what stands ahead of it, by reckoning; the values that an operation waits for. The plain law of applying a change: what is changed from one content to another one makes it that. The reference's letter, Name, value, Props: by their contracts. The page's Free of contents; blocks.Same; by their contracts. Tenants: as they lie in memory, and as they read. props.Over, by its contract. A slice of strings in memory.
-/
import Derived.Test.YtcgclpcocdappaaGreatDoorXM1
import Derived.Test.YtcgclpcocdappaaGreatDoorX0
import Derived.Test.YtcgclpcocdappaaGreatDoorX6
import Derived.ShutString
import Derived.Test.YtcgclpcocdappaaGreatDoorX7
import Derived.Test.YtcgclpcocdappaaGreatDoorX3
import Derived.Test.YtcgclpcocdappaaGreatDoorX1
import Derived.Shelf.SlIter.Nil
import Derived.Shelf.SortM.Plain
import Derived.Shelf.SortM.SortNone
import Derived.Maps.OwnSet
import Derived.Maps.StringElems
import Derived.Handy
import Derived.Test.YtcgclpcocdappaaGreatDoorRows
namespace Go.Proofs.YtcgclpcocdappaaGreatDoor
open Go.RowKit
set_option maxRecDepth 100000 in
theorem parent_any (s:ByteArray) (w:World) (hs:s.size≤4000000000) (hm:HasMax w) :
  Calls Tryz.prog 81 #[.string s] w fun e w'=>Below w.heap.size w w' ∧
   ((s.data.toList=[]∨pathB s.data.toList=false)∧e=.returned (.tuple #[.string ⟨#[]⟩,.bool false]) ∨
    s.data.toList≠[]∧pathB s.data.toList=true∧e=.returned (.tuple #[.string ⟨(upL s.data.toList).toArray⟩,.bool true])):=by
 have hts:=Lib.hid (toList_data s)
 go_enter Tryz.func81,Tryz.ntmps81
 go_wp2_with fail
 ·have h0:s.toList=[]:=by assumption
  rw [hts.out] at h0
  refine bodyPost_ret (v:=.tuple #[.string ⟨#[]⟩,.bool false]) tZ154 rfl ⟨Below.refl _ _,.inl ⟨.inl h0,rfl⟩⟩
 ·have h0:¬ s.toList=[]:=by assumption
  have hie:s.toList.isEmpty=false:=by simpa using h0
  rw [hts.out] at h0
  refine (path_any s w hs hm).mono ?_
  rintro e w1 ⟨rfl,hb1⟩
  obtain ⟨bs,hbs0⟩:∃ b,b=pathB s.data.toList:=⟨_,rfl⟩
  rw [← hbs0]
  simp only [hie]
  clear hie
  have hbs:=Lib.hid hbs0
  have hne:=Lib.hid h0
  have hlast:=Lib.hid (last_eq s)
  have hlb:=Lib.hid (last_bound s.data.toList)
  clear hbs0 h0
  cases bs
  ·go_wp2_with fail
   refine bodyPost_ret (v:=.tuple #[.string ⟨#[]⟩,.bool false]) tZ154 rfl ⟨hb1,.inl ⟨.inr hbs.out.symm,rfl⟩⟩
  ·go_wp2_with fail
   refine (Tryz.strings_LastIndexByte s 47 tZ1 _).mono ?_
   rintro e w2 ⟨rfl,rfl⟩
   have hm1:=Lib.hid (show max (Lib.lastIndexByte s 47) 0=(((lastS s.data.toList).getD 0:Nat):Int) from hlast.out)
   obtain ⟨k,hk⟩:∃ k,k=(lastS s.data.toList).getD 0:=⟨_,rfl⟩
   rw [← hk] at hlb hm1
   have HK:=Lib.hid hk
   have hks:k≤s.size:=by rw [Lib.size_eq];exact hlb.out
   clear hlast hlb hk
   go_wp2_with fail
   ·have hv:(s.extract 0 (max (Lib.lastIndexByte s 47) 0).toNat)=⟨(upL s.data.toList).toArray⟩:=by
     apply eq_mk
     rw [hm1.out,Lib.extract_from_zero]
     unfold upL
     rw [← HK.out]
     rfl
    refine bodyPost_ret (v:=.tuple #[.string ⟨(upL s.data.toList).toArray⟩,.bool true]) (by simp [results,Tryz.results81,go_sem,hv]) rfl ⟨hb1,.inr ⟨hne.out,hbs.out.symm,rfl⟩⟩
   ·rename_i h0
    exact absurd ⟨by omega,by rw [hm1.out];omega⟩ h0
/-- what Split answers -/
def splitV (l:List UInt8):Value:=match atL l with
 | some (p,n)=>if (pathB p && nameB n)=true then .tuple #[.string ⟨p.toArray⟩,.string ⟨n.toArray⟩,.int .i64 0] else .tuple #[.string ⟨#[]⟩,.string ⟨#[]⟩,.int .i64 31]
 | none=>.tuple #[.string ⟨#[]⟩,.string ⟨#[]⟩,.int .i64 31]
theorem atL_len (l p n:List UInt8) (h:atL l=some (p,n)):p.length+n.length<l.length:=by
 induction l generalizing p with
 | nil=>cases h
 | cons a r ih =>
  unfold atL at h
  split at h
  ·simp only [Option.some.injEq,Prod.mk.injEq] at h
   obtain ⟨rfl,rfl⟩:=h
   simp
  ·split at h
   ·rename_i p' n' e
    simp only [Option.some.injEq,Prod.mk.injEq] at h
    obtain ⟨rfl,rfl⟩:=h
    have:=ih _ e
    simp
    omega
   ·cases h
set_option maxRecDepth 100000 in
theorem split_any (s:ByteArray) (w:World) (hs:s.size≤4000000000) (hm:HasMax w) :
  Calls Tryz.prog 137 #[.string s] w fun e w'=>e=.returned (splitV s.data.toList)∧Below w.heap.size w w':=by
 obtain ⟨m,hmm⟩:=id hm
 have hcut:∃ p n:ByteArray,∃ b:Bool,p.size≤4000000000∧splitV s.data.toList=(if (b && pathB p.data.toList && nameB n.data.toList)=true then .tuple #[.string p,.string n,.int .i64 0] else .tuple #[.string ⟨#[]⟩,.string ⟨#[]⟩,.int .i64 31]) ∧
   Calls Tryz.prog 184 #[.string s,.string ⟨#[64]⟩] w fun e w'=>e=.returned (.tuple #[.string p,.string n,.bool b])∧∃ q,w'=w.drewN q:=by
  have hc:=Tryz.strings_Cut s ⟨#[64]⟩ m w tZ1 hmm
  have he:=cut_at s.data.toList
  have hsz:=Lib.size_eq s
  cases ha:atL s.data.toList with
  | none =>
   rw [ha] at he
   refine ⟨s,⟨#[]⟩,false,hs,by unfold splitV;rw [ha];rfl,hc.mono ?_⟩
   rintro e w' ⟨h1,h2⟩
   refine ⟨?_,h2⟩
   rw [h1]
   simp only at he
   rw [he]
  | some pn =>
   obtain ⟨p,n⟩:=pn
   rw [ha] at he
   have hl:=atL_len _ _ _ ha
   refine ⟨⟨p.toArray⟩,⟨n.toArray⟩,true,by rw [Lib.size_eq];simp;omega,by unfold splitV;rw [ha];rfl,hc.mono ?_⟩
   rintro e w' ⟨h1,h2⟩
   refine ⟨?_,h2⟩
   rw [h1]
   simp only at he
   rw [he]
 clear hmm
 obtain ⟨p,n,b,hps,hv,hcut⟩:=hcut
 have HV:=Lib.hid hv
 clear hv
 go_enter Tryz.func137,Tryz.ntmps137
 go_wp2_with fail
 refine hcut.mono ?_
 clear hcut
 rintro e w1 ⟨rfl,q,rfl⟩
 have hb1:Below w.heap.size w (w.drewN q):=below_drewN (Below.refl _ _) q
 have hm1:=hm.below hb1
 cases b
 ·go_wp2_with fail
  exact bodyPost_ret (v:=.tuple #[.string ⟨#[]⟩,.string ⟨#[]⟩,.int .i64 31]) tZ73 rfl ⟨by rw [HV.out];rfl,hb1⟩
 ·go_wp2_with fail
  refine (path_any p _ hps hm1).mono ?_
  rintro e w2 ⟨rfl,hb2⟩
  have hb:=hb1.trans (hb2.mono hb1.size)
  obtain ⟨b,hbb⟩:∃ b,b=pathB p.data.toList:=⟨_,rfl⟩
  rw [← hbb] at HV ⊢
  clear hbb
  cases b
  ·go_wp2_with fail
   exact bodyPost_ret (v:=.tuple #[.string ⟨#[]⟩,.string ⟨#[]⟩,.int .i64 31]) tZ73 rfl ⟨by rw [HV.out];rfl,hb⟩
  ·go_wp2_with fail
   refine (name_any n _).mono ?_
   rintro e w3 ⟨rfl,hb3⟩
   have hb':=hb.trans (hb3.mono hb.size)
   obtain ⟨b,hbb⟩:∃ b,b=nameB n.data.toList:=⟨_,rfl⟩
   rw [← hbb] at HV ⊢
   clear hbb
   cases b
   ·go_wp2_with fail
    exact bodyPost_ret (v:=.tuple #[.string ⟨#[]⟩,.string ⟨#[]⟩,.int .i64 31]) tZ73 rfl ⟨by rw [HV.out];rfl,hb'⟩
   ·go_wp2_with fail
    exact bodyPost_ret (v:=.tuple #[.string p,.string n,.int .i64 0]) tZ73 rfl ⟨by rw [HV.out];rfl,hb'⟩
end Go.Proofs.YtcgclpcocdappaaGreatDoor
namespace Go.Proofs.YtcgclpcocdappaaGreatDoor
open Go.RowKit
/-- a record of a change: kind, index, count, data -/
abbrev RL:=List (Int×Int×Int×List UInt8)
def bumpR (o:RL):RL:=match o.getLast? with
 | some r=>o.dropLast++[(r.1,r.2.1,r.2.2.1+1,r.2.2.2)]
 | none=>o
def lastIs3 (o:RL):Bool:=match o.getLast? with
 | some r=>r.1 == 3
 | none=>false
def putS (s:RL×Int) (x:Int×List UInt8):RL×Int:=(s.1++[(2,x.1,0,x.2)],s.2)
def refStep (a b:BL) (i:Int) (s:RL×Bool):RL×Bool :=
 (if (hasL a i && !hasL b i) && s.2 then bumpR s.1 else if hasL a i && !hasL b i then s.1++[(3,i,1,[])]
  else if hasL b i && (!hasL a i || getL a i != getL b i) then s.1++[(2,i,0,getL b i)] else s.1,hasL a i && !hasL b i)
def runFrom (a b:BL):Nat→Int→RL×Bool→RL×Bool
 | 0,_,s=>s
 | m+1,k,s=>runFrom a b m (k+1) (refStep a b k s)
theorem hasL_cons (x:Int×List UInt8) (l:BL) (j:Int):hasL (x :: l) j=(x.1 == j || hasL l j):=rfl
theorem getL_cons_eq (x:Int×List UInt8) (l:BL):getL (x :: l) x.1=x.2:=by simp [getL]
theorem getL_cons_ne (x:Int×List UInt8) (l:BL) (j:Int) (h:x.1≠j):getL (x :: l) j=getL l j:=by
 unfold getL
 rw [List.find?_cons_of_neg tZ72]
theorem hasL_above (l:BL) (j:Int) (h:∀ x∈l,j<x.1):hasL l j=false:=by
 unfold hasL
 rw [List.any_eq_false]
 intro x hx
 have:=h x hx
 simp
 omega
theorem Asc.tail {x:Int×List UInt8} {l:BL} (h:Asc (x :: l)):Asc l∧∀ y∈l,x.1<y.1:=by
 refine ⟨fun i j a b hij ha hb=>h (i+1) (j+1) a b tZ1 (by simpa using ha) (by simpa using hb),fun y hy=>?_⟩
 obtain ⟨i,hi⟩:=List.mem_iff_getElem?.1 hy
 exact h 0 (i+1) x y tZ1 rfl tZ138
/-- what stands of a content from an index on -/
structure Rest (a la:BL) (k:Int):Prop where
 asc:Asc la
 from_:∀ x∈la,k≤x.1∧x.1<1024
 has:∀ j,k≤j→hasL a j=hasL la j∧getL a j=getL la j
theorem Rest.next {a la:BL} {k:Int} (h:Rest a la k) (hn:∀ x∈la,x.1≠k):Rest a la (k+1)∧hasL a k=false :=
 ⟨⟨h.asc,fun x hx=>⟨by have:=(h.from_ x hx).1;have:=hn x hx;omega,(h.from_ x hx).2⟩,fun j hj=>h.has j tZ1⟩,
  by rw [(h.has k (Int.le_refl _)).1];exact hasL_above la k (fun x hx=>by have:=(h.from_ x hx).1;have:=hn x hx;omega)⟩
theorem Rest.take {a la:BL} {x:Int×List UInt8} {k:Int} (h:Rest a (x :: la) k) (hx:x.1=k):Rest a la (k+1)∧hasL a k=true∧getL a k=x.2:=by
 have ht:=h.asc.tail
 refine ⟨⟨ht.1,fun y hy=>⟨by have:=ht.2 y hy;omega,(h.from_ y (List.mem_cons_of_mem _ hy)).2⟩,fun j hj=>?_⟩,?_,?_⟩
 ·have:=h.has j tZ1
  rw [this.1,this.2,hasL_cons,getL_cons_ne _ _ _ tZ1]
  simp
  intro e
  omega
 ·rw [(h.has k (Int.le_refl _)).1,hasL_cons];simp [hx]
 ·rw [(h.has k (Int.le_refl _)).2]
  subst hx
  exact getL_cons_eq x la
def RunInv (o:RL) (last:Int) (run:Bool) (k:Int):Prop:=if run=true then last=k-1∧lastIs3 o=true else last<k-1
theorem RunInv.le {o:RL} {last:Int} {run:Bool} {k:Int} (h:RunInv o last run k):last≤k-1:=by
 unfold RunInv at h
 split at h <;> omega
theorem okFrom_bounds (p:Option Int) (l:BL) (h:okFrom p l=true):∀ x∈l,0≤x.1∧x.1<1024∧x.2.length=16:=by
 induction l generalizing p with
 | nil=>intro x hx;cases hx
 | cons z r ih =>
  simp only [okFrom,Bool.and_eq_true,decide_eq_true_eq] at h
  intro x hx
  rcases List.mem_cons.1 hx with rfl | hx
  ·exact ⟨h.1.1.1.1,h.1.1.1.2,h.1.1.2⟩
  ·exact ih _ h.2 x hx
end Go.Proofs.YtcgclpcocdappaaGreatDoor
namespace Go.Proofs.YtcgclpcocdappaaGreatDoor
open Go.RowKit
section
variable {ops:Array Oper}
theorem reach_closed {m:Nat→Option Value} (hcl:ClosedM ops m) {S:Nat} (hS:(m S).isSome=true):∀ i∈reachL ops ops.size (depsOf ops S),(m i).isSome=true:=by
 refine reach_some hcl ops.size _ (fun k hk=>?_)
 unfold depsOf at hk
 cases ho:ops[S]? with
 | none=>rw [ho] at hk;cases hk
 | some o =>
  rw [ho] at hk
  obtain ⟨e,he,rfl⟩:=List.mem_map.1 hk
  obtain ⟨he,hbi⟩:=List.mem_filter.1 he
  exact hcl S o ho hS e (Array.mem_toList_iff.1 he) hbi
theorem early1 {S:Nat} {late:List Nat} (h:((List.range ops.size).all fun j=>j == S || (late.contains j || (reachL ops ops.size (depsOf ops S)).contains j))=true) :
  ∀ i,i<ops.size→i≠S→i ∉ late→∀ m,ClosedM ops m→(m S).isSome=true→(m i).isSome=true:=by
 intro i hi h1 h3 m hcl hS
 have h4:=List.all_eq_true.1 h i (List.mem_range.2 hi)
 simp only [Bool.or_eq_true,beq_iff_eq,List.contains_iff_mem] at h4
 rcases h4 with h4 | h4 | h4
 ·exact absurd h4 h1
 ·exact absurd h4 h3
 ·exact reach_closed hcl hS i h4
end
/-- what lies in the slot of an operation that a late one waits for -/
theorem eL {o:Oper} {Gs:List (Value→World→Prop)} {W:World} {ops:Array Oper} {a0 A:Act} {m:Nat→Option Value} {val:Value} {S:Nat}
  (hd:∀ e∈o.after,Region.binds .any e=true→e.on≠S→∃ v,m e.on=some v∧Says Gs e.on v W) (hA:A=frameM a0 ops m) (j k:Nat)
  (hm:(o.after.any fun e=>Region.binds .any e && e.on == j)=true:=by kernel_rfl)
  (hp:∀ v,Says Gs j v W→v=val:=by exact fun _ h=>h) (hne:j≠S:=by decide) (hw:ownerOf ops k=some j:=by kernel_rfl) (hk:k<a0.tmps.size:=by exact of_decide_eq_true tZ2):A.tmps[k]?.getD undef=val:=by
 obtain ⟨i,hi,hm⟩:=Array.any_eq_true.1 hm
 obtain ⟨e,he⟩:∃ e,e=o.after[i]:=⟨_,rfl⟩
 rw [← he] at hm
 have he:e∈o.after:=tZ158
 have hb:Region.binds .any e=true:=by cases h:Region.binds .any e <;> simp [h] at hm ⊢
 obtain rfl:e.on=j:=by simpa [hb] using hm
 obtain ⟨v,h1,h2⟩:=hd e he hb hne
 rw [hA]
 exact tmps_own hw (h1.trans (congrArg some (hp v h2))) hk
end Go.Proofs.YtcgclpcocdappaaGreatDoor
namespace Go.Proofs.YtcgclpcocdappaaGreatDoor
open Go.RowKit
def lk (l:BL) (j:Int):Option (List UInt8):=(l.find? fun x=>x.1 == j).map (·.2)
theorem hasL_lk (l:BL) (j:Int):hasL l j=(lk l j).isSome:=by
 unfold hasL lk
 induction l with
 | nil=>rfl
 | cons x r ih =>
  rw [List.any_cons,List.find?_cons]
  cases h:(x.1 == j) with
  | true=>rfl
  | false=>rw [Bool.false_or,ih]
theorem getL_lk (l:BL) (j:Int):getL l j=(lk l j).getD []:=by
 unfold getL lk
 cases l.find? (fun x=>x.1 == j) <;> rfl
theorem lk_append (a b:BL) (j:Int):lk (a++b) j=(lk a j).or (lk b j):=by
 unfold lk
 rw [List.find?_append]
 cases a.find? (fun x=>x.1 == j) <;> simp
theorem lk_cons (x:Int×List UInt8) (l:BL) (j:Int):lk (x :: l) j=if x.1=j then some x.2 else lk l j:=by
 unfold lk
 by_cases h:x.1=j
 ·rw [List.find?_cons_of_pos tZ72,if_pos h];rfl
 ·rw [List.find?_cons_of_neg tZ72,if_neg h]
theorem lk_none (l:BL) (j:Int) (h:∀ x∈l,x.1≠j):lk l j=none:=by
 unfold lk
 rw [List.find?_eq_none.2 (fun x hx=>by simpa using h x hx)]
 rfl
structure OkP (l:BL):Prop where
 pw:l.Pairwise fun x y=>x.1<y.1
 bd:∀ x∈l,0≤x.1∧x.1<1024∧x.2.length=16
theorem okL_of (l:BL) (h:OkP l):okL l=true:=by
 unfold okL
 have key:∀ (l:BL) (p:Option Int),OkP l→(∀ q,p=some q→∀ x∈l,q<x.1)→okFrom p l=true:=by
  intro l
  induction l with
  | nil=>intro p _ _;rfl
  | cons x r ih =>
   intro p h hp
   have hb:=h.bd x tZ3
   have hpw:=List.pairwise_cons.1 h.pw
   simp only [okFrom,Bool.and_eq_true,decide_eq_true_eq]
   refine ⟨⟨⟨⟨hb.1,hb.2.1⟩,hb.2.2⟩,?_⟩,ih _ ⟨hpw.2,fun y hy=>h.bd y (List.mem_cons_of_mem _ hy)⟩ (fun q hq y hy=>by cases hq;exact hpw.1 y hy)⟩
   cases p with
   | none=>rfl
   | some q=>simpa using hp q rfl x tZ3
 exact key l none h (fun q hq=>by cases hq)
theorem OkP.of (l:BL) (h:okL l=true):OkP l:=by
 refine ⟨?_,okFrom_bounds none l h⟩
 have ha:=okL_asc l h
 rw [List.pairwise_iff_getElem]
 intro i j hi hj hij
 exact ha i j _ _ hij (List.getElem?_eq_getElem hi) (List.getElem?_eq_getElem hj)
theorem OkP.ext {l m:BL} (hl:OkP l) (hm:OkP m) (h:∀ j,lk l j=lk m j):l=m:=by
 induction l generalizing m with
 | nil =>
  cases m with
  | nil=>rfl
  | cons y m=>have:=h y.1;rw [lk_cons,if_pos rfl] at this;cases this
 | cons x l ih =>
  cases m with
  | nil=>have:=h x.1;rw [lk_cons,if_pos rfl] at this;cases this
  | cons y m =>
   have hx:=List.pairwise_cons.1 hl.pw
   have hy:=List.pairwise_cons.1 hm.pw
   have hxy:x.1=y.1:=by
    rcases Int.lt_trichotomy x.1 y.1 with h1 | h1 | h1
    ·have:=h x.1
     rw [lk_cons,if_pos rfl,lk_none (y :: m) x.1 (fun z hz=>by
      rcases List.mem_cons.1 hz with rfl | hz
      ·omega
      ·have:=hy.1 z hz;omega)] at this
     cases this
    ·exact h1
    ·have:=h y.1
     rw [lk_cons y,if_pos rfl,lk_none (x :: l) y.1 (fun z hz=>by
      rcases List.mem_cons.1 hz with rfl | hz
      ·omega
      ·have:=hx.1 z hz;omega)] at this
     cases this
   have h2:x.2=y.2:=by
    have:=h x.1
    rw [lk_cons,if_pos rfl,lk_cons,if_pos hxy.symm] at this
    exact Option.some.inj this
   have:l=m:=by
    refine ih ⟨hx.2,fun z hz=>hl.bd z (List.mem_cons_of_mem _ hz)⟩ ⟨hy.2,fun z hz=>hm.bd z (List.mem_cons_of_mem _ hz)⟩ (fun j=>?_)
    by_cases hj:x.1=j
    ·rw [lk_none l j (fun z hz=>by have:=hx.1 z hz;omega),lk_none m j (fun z hz=>by have:=hy.1 z hz;omega)]
    ·have:=h j
     rw [lk_cons,if_neg hj,lk_cons,if_neg tZ1] at this
     exact this
   rw [this,Prod.ext hxy h2]
/-! ### put, free -/
theorem atF_at' (l:BL) (i:Int) (x:Int×List UInt8) (hx:l[posF (cfB i) l]?=some x):atF (cfB i) l=(x.1 == i):=by
 unfold atF
 rw [hx]
 show (cmpI x.1 i == 0)=_
 rw [Bool.eq_iff_iff]
 simp [cmpI_zero]
theorem posF_parts (l:BL) (h:OkP l) (i:Int):(∀ x∈l.take (posF (cfB i) l),x.1<i)∧(∀ x∈l.drop (posF (cfB i) l+if atF (cfB i) l=true then 1 else 0),i<x.1)∧(∀ j,j≠i→lk l j=(lk (l.take (posF (cfB i) l)) j).or (lk (l.drop (posF (cfB i) l+if atF (cfB i) l=true then 1 else 0)) j)):=by
 have h1:l.take (posF (cfB i) l)=l.takeWhile fun x=>decide (cfB i x<0):=(List.prefix_iff_eq_take.1 (List.takeWhile_prefix _)).symm
 have hlt:∀ x∈l.take (posF (cfB i) l),x.1<i:=by
  intro x hx
  rw [h1] at hx
  have:∀ (l:BL),x∈l.takeWhile (fun x=>decide (cfB i x<0))→x.1<i:=by
   intro l
   induction l with
   | nil=>intro h;cases h
   | cons y r ih =>
    intro h
    by_cases hy:cfB i y<0
    ·rw [List.takeWhile_cons_of_pos tZ122] at h
     rcases List.mem_cons.1 h with rfl | h
     ·exact (cmpI_neg _ _).1 hy
     ·exact ih h
    ·rw [List.takeWhile_cons_of_neg tZ122] at h;cases h
  exact this l hx
 have hpl:=posF_le (cfB i) l
 have hsplit:=List.take_append_drop (posF (cfB i) l) l
 refine ⟨hlt,?_,?_⟩
 all_goals
  by_cases hp:posF (cfB i) l<l.length
  ·obtain ⟨x,hx⟩:∃ x,l[posF (cfB i) l]?=some x:=⟨_,List.getElem?_eq_getElem hp⟩
   have hdrop:l.drop (posF (cfB i) l)=x :: l.drop (posF (cfB i) l+1):=by
    rw [List.drop_eq_getElem_cons hp,(List.getElem?_eq_some_iff.1 hx).2]
   have hge:i≤x.1:=by
    rcases Int.lt_or_le x.1 i with hl | hl
    ·exfalso
     have h2:l.takeWhile (fun x=>decide (cfB i x<0))++l.dropWhile (fun x=>decide (cfB i x<0))=l:=List.takeWhile_append_dropWhile
     rw [← h1] at h2
     have h3:l.dropWhile (fun x=>decide (cfB i x<0))=l.drop (posF (cfB i) l):=List.append_cancel_left (h2.trans hsplit.symm)
     rw [hdrop] at h3
     have h5:=List.head_dropWhile_not (fun x=>decide (cfB i x<0)) (l:=l) (by rw [h3];simp)
     simp only [h3,List.head_cons,decide_eq_false_iff_not] at h5
     exact h5 ((cmpI_neg _ _).2 hl)
    ·exact hl
   have hat:atF (cfB i) l=(x.1 == i):=atF_at' l i x hx
   have hpw:(x :: l.drop (posF (cfB i) l+1)).Pairwise fun x y=>x.1<y.1:=by
    rw [← hdrop]
    exact h.pw.sublist (List.drop_sublist _ _)
   have hpw:=List.pairwise_cons.1 hpw
   by_cases hxi:x.1=i
   ·rw [hat,if_pos (by simpa using hxi)]
    first
     | (intro y hy;have:=hpw.1 y hy;omega)
     | (
       intro j hj
       conv=>lhs;rw [← hsplit]
       rw [lk_append,hdrop,lk_cons,if_neg tZ1])
   ·rw [hat,if_neg (by simpa using hxi)]
    first
     | (
       intro y hy
       rw [Nat.add_zero,hdrop] at hy
       rcases List.mem_cons.1 hy with rfl | hy
       ·omega
       ·have:=hpw.1 y hy;omega)
     | (
       intro j hj
       conv=>lhs;rw [← hsplit]
       rw [lk_append,Nat.add_zero])
  ·have hd:∀ q,posF (cfB i) l≤q→l.drop q=[]:=fun q hq=>List.drop_eq_nil_of_le tZ1
   first
    | (intro y hy;rw [hd _ tZ1] at hy;cases hy)
    | (
      intro j hj
      conv=>lhs;rw [← hsplit]
      rw [lk_append,hd _ (Nat.le_refl _),hd _ tZ1])
theorem lk_put (l:BL) (h:OkP l) (i j:Int) (d:List UInt8):lk (putL11 l i d) j=if j=i then some d else lk l j:=by
 obtain ⟨h1,h2,h3⟩:=posF_parts l h i
 unfold putL11
 rw [lk_append,lk_append,lk_cons]
 by_cases hj:j=i
 ·subst hj
  rw [if_pos rfl,if_pos rfl,lk_none _ j (fun x hx=>by have:=h1 x hx;omega)]
  rfl
 ·rw [if_neg hj,if_neg (fun e=>hj e.symm),h3 j hj]
  show ((lk _ j).or none).or _=_
  rw [Option.or_none]
theorem ok_put (l:BL) (h:OkP l) (i:Int) (d:List UInt8) (hi:0≤i∧i<1024) (hd:d.length=16):OkP (putL11 l i d):=by
 obtain ⟨h1,h2,_⟩:=posF_parts l h i
 unfold putL11
 refine ⟨?_,?_⟩
 ·rw [List.pairwise_append,List.pairwise_append]
  refine ⟨⟨h.pw.sublist (List.take_sublist _ _),List.pairwise_singleton _ _,fun x hx y hy=>by simp at hy;subst hy;exact h1 x hx⟩,h.pw.sublist (List.drop_sublist _ _),fun x hx y hy=>?_⟩
  have:=h2 y hy
  rcases List.mem_append.1 hx with hx | hx
  ·have:=h1 x hx;omega
  ·simp at hx;subst hx;exact this
 ·intro x hx
  rcases List.mem_append.1 hx with hx | hx
  ·rcases List.mem_append.1 hx with hx | hx
   ·exact h.bd x (List.mem_of_mem_take hx)
   ·simp at hx;subst hx;exact ⟨hi.1,hi.2,hd⟩
  ·exact h.bd x (List.mem_of_mem_drop hx)
theorem ok_free (l:BL) (h:OkP l) (i c:Int):OkP (freeL l i c):=⟨h.pw.sublist List.filter_sublist,fun x hx=>h.bd x (List.mem_filter.1 hx).1⟩
theorem lk_free (l:BL) (i c j:Int):lk (freeL l i c) j=if i≤j∧j<i+c then none else lk l j:=by
 unfold freeL
 induction l with
 | nil=>simp [lk]
 | cons x r ih =>
  by_cases hx:inB i c x=true
  ·rw [List.filter_cons_of_neg tZ129,ih,lk_cons]
   unfold inB at hx
   simp only [Bool.and_eq_true,decide_eq_true_eq] at hx
   by_cases hj:x.1=j
   ·rw [if_pos tZ1,if_pos tZ1]
   ·rw [if_neg hj]
  ·rw [List.filter_cons_of_pos tZ101,lk_cons,ih,lk_cons]
   unfold inB at hx
   simp only [Bool.and_eq_true,decide_eq_true_eq] at hx
   by_cases hj:x.1=j
   ·rw [if_pos hj,if_pos hj,if_neg tZ1]
   ·rw [if_neg hj,if_neg hj]
/-! ### applying -/
abbrev RE:=Int×Int×Int×List UInt8
def apStep (l:BL) (r:RE):BL:=if r.1=2 then putL11 l r.2.1 r.2.2.2 else freeL l r.2.1 r.2.2.1
def lastOf (r:RE):Int:=if r.1=2 then r.2.1 else r.2.1+r.2.2.1-1
def ValidR (r:RE):Prop:=(r.1=2∧0≤r.2.1∧r.2.1<1024∧r.2.2.2.length=16)∨(r.1=3∧0≤r.2.1∧r.2.1<1024∧1≤r.2.2.1∧r.2.2.1≤1024-r.2.1)
theorem ok_step (l:BL) (h:OkP l) (r:RE) (hr:ValidR r):OkP (apStep l r):=by
 unfold apStep
 rcases hr with ⟨h1,h2,h3,h4⟩ | ⟨h1,_⟩
 ·rw [if_pos h1];exact ok_put l h _ _ ⟨h2,h3⟩ h4
 ·rw [if_neg tZ1];exact ok_free l h _ _
theorem ok_steps (o:RL) (l:BL) (h:OkP l) (ho:∀ r∈o,ValidR r):OkP (o.foldl apStep l):=by
 induction o generalizing l with
 | nil=>exact h
 | cons r o ih=>exact ih (apStep l r) (ok_step l h r (ho r tZ3)) (fun q hq=>ho q (List.mem_cons_of_mem _ hq))
/-- what stands when the indexes below k have been looked at -/
structure ApI (a b:BL) (k:Int) (o:RL) (run:Bool):Prop where
 val:∀ r∈o,ValidR r
 asc:o.Pairwise fun r q=>lastOf r<q.2.1
 lst:∀ r∈o,lastOf r<k
 run_:run=true→∃ o' r,o=o'++[r]∧r.1=3∧r.2.1+r.2.2.1=k
 look:∀ j,lk (o.foldl apStep a) j=if j<k then lk b j else lk a j
 none_:o=[]→∀ j,j<k→lk a j=lk b j
theorem lk_len (l:BL) (h:OkP l) (j:Int) (d:List UInt8) (hd:lk l j=some d):d.length=16:=by
 unfold lk at hd
 rw [Option.map_eq_some_iff] at hd
 obtain ⟨x,hx,rfl⟩:=hd
 exact (h.bd x (List.mem_of_find?_eq_some hx)).2.2
theorem ApI.push {a b:BL} {k:Int} {o:RL} {run:Bool} (h:ApI a b k o run) (ha:OkP a) (r:RE) (hr:ValidR r) (hk:r.2.1=k) (hl:lastOf r=k) (hlk:∀ l,OkP l→∀ j,lk (apStep l r) j=if j=k then lk b k else lk l j) (g:Bool) (hg:g=true→r.1=3∧r.2.1+r.2.2.1=k+1):ApI a b (k+1) (o++[r]) g:=by
 refine ⟨?_,?_,?_,?_,?_,fun e=>by simp at e⟩
 ·intro q hq
  rcases List.mem_append.1 hq with hq | hq
  ·exact h.val q hq
  ·simp at hq;subst hq;exact hr
 ·rw [List.pairwise_append]
  exact ⟨h.asc,List.pairwise_singleton _ _,fun x hx y hy=>by simp at hy;subst hy;have:=h.lst x hx;omega⟩
 ·intro q hq
  rcases List.mem_append.1 hq with hq | hq
  ·have:=h.lst q hq;omega
  ·simp at hq;subst hq;omega
 ·intro e
  exact ⟨o,r,rfl,hg e⟩
 ·intro j
  rw [List.foldl_append]
  show lk (apStep (o.foldl apStep a) r) j=_
  rw [hlk _ (ok_steps o a ha h.val) j,h.look j]
  by_cases hj:j=k
  ·subst hj;rw [if_pos rfl,if_pos tZ1]
  ·rw [if_neg hj]
   exact mZ76
theorem ApI.step {a b:BL} {k:Int} {o:RL} {run:Bool} (h:ApI a b k o run) (ha:OkP a) (hb:OkP b) (hk:0≤k∧k<1024):ApI a b (k+1) (refStep a b k (o,run)).1 (refStep a b k (o,run)).2:=by
 unfold refStep
 simp only [hasL_lk,getL_lk]
 cases hA:lk a k with
 | none =>
  cases hB:lk b k with
  | none =>
   simp only [Option.isSome_none,Bool.not_false,Bool.and_true,Bool.false_and,Bool.false_eq_true,if_false]
   exact mZ77
  | some y =>
   simp only [Option.isSome_none,Option.isSome_some,Bool.not_true,Bool.not_false,Bool.and_false,Bool.false_and,Bool.true_or,Bool.and_true,Bool.false_eq_true,if_false,if_true,Option.getD_some]
   exact mZ78
 | some x =>
  cases hB:lk b k with
  | none =>
   simp only [Option.isSome_none,Option.isSome_some,Bool.not_true,Bool.not_false,Bool.and_true,Bool.true_and,if_true]
   cases run with
   | false =>
    simp only [Bool.false_eq_true,if_false]
    refine h.push ha (3,k,1,[]) (.inr ⟨rfl,hk.1,hk.2,by show (1:Int)≤1;omega,by show (1:Int)≤1024-k;omega⟩) rfl (by show k+1-1=k;omega) (fun l hl j=>?_) true (fun _=>⟨rfl,rfl⟩)
    show lk (freeL l k 1) j=_
    rw [lk_free,hB]
    by_cases hj:j=k
    ·rw [if_pos tZ1,if_pos hj]
    ·rw [if_neg tZ1,if_neg hj]
   | true =>
    obtain ⟨o',r,rfl,hr3,hre⟩:=h.run_ rfl
    have hbump:bumpR (o'++[r])=o'++[(r.1,r.2.1,r.2.2.1+1,r.2.2.2)]:=by unfold bumpR;simp
    simp only [if_true,hbump]
    have hv:=h.val r tZ3
    have hvr:0≤r.2.1∧r.2.1<1024∧1≤r.2.2.1:=by
     rcases hv with ⟨e,_⟩ | ⟨_,e1,e2,e3,_⟩
     ·omega
     ·exact ⟨e1,e2,e3⟩
    have hasc:=List.pairwise_append.1 h.asc
    refine ⟨?_,?_,?_,?_,?_,fun e=>by simp at e⟩
    ·intro q hq
     rcases List.mem_append.1 hq with hq | hq
     ·exact h.val q (List.mem_append_left _ hq)
     ·simp at hq;subst hq
      exact .inr ⟨hr3,hvr.1,hvr.2.1,by show 1≤r.2.2.1+1;omega,by show r.2.2.1+1≤1024-r.2.1;omega⟩
    ·rw [List.pairwise_append]
     exact ⟨hasc.1,List.pairwise_singleton _ _,fun x hx y hy=>by simp at hy;subst hy;exact hasc.2.2 x hx r tZ3⟩
    ·intro q hq
     rcases List.mem_append.1 hq with hq | hq
     ·have:=h.lst q (List.mem_append_left _ hq);omega
     ·simp at hq;subst hq
      unfold lastOf
      rw [if_neg (by show ¬ r.1=2;omega)]
      show r.2.1+(r.2.2.1+1)-1<k+1
      omega
    ·intro _
     exact ⟨o',_,rfl,hr3,by show r.2.1+(r.2.2.1+1)=k+1;omega⟩
    ·intro j
     have hlook:=h.look j
     rw [List.foldl_append] at hlook ⊢
     have hlook:lk (apStep (o'.foldl apStep a) r) j=_:=hlook
     show lk (apStep (o'.foldl apStep a) _) j=_
     unfold apStep at hlook ⊢
     rw [if_neg tZ1] at hlook
     rw [if_neg (by show ¬ r.1=2;omega)]
     rw [lk_free] at hlook ⊢
     show (if r.2.1≤j∧j<r.2.1+(r.2.2.1+1) then none else _)=_
     by_cases hj:j=k
     ·subst hj
      rw [if_pos tZ1,if_pos tZ1,hB]
     ·by_cases h1:j<k
      ·rw [if_pos h1] at hlook
       rw [if_pos (show j<k+1 by omega),← hlook]
       by_cases h2:r.2.1≤j
       ·rw [if_pos tZ1,if_pos tZ1]
       ·rw [if_neg tZ1,if_neg tZ1]
      ·rw [if_neg h1] at hlook
       rw [if_neg (show ¬ j<k+1 by omega),← hlook,if_neg tZ1,if_neg tZ1]
  | some y =>
   simp only [Option.isSome_some,Bool.not_true,Bool.and_false,Bool.false_and,Bool.false_or,Bool.true_and,Bool.false_eq_true,if_false,Option.getD_some]
   by_cases hxy:x=y
   ·subst hxy
    rw [if_neg tZ3]
    exact mZ77
   ·rw [if_pos tZ114]
    exact mZ78
theorem ApI.run {a b:BL} (ha:OkP a) (hb:OkP b) (m:Nat):∀ (k:Int) (o:RL) (run:Bool),0≤k→k+m=1024→ApI a b k o run→ApI a b 1024 (runFrom a b m k (o,run)).1 (runFrom a b m k (o,run)).2:=by
 induction m with
 | zero =>
  intro k o run _ hk h
  have:k=1024:=tZ1
  subst this
  exact h
 | succ m ih =>
  intro k o run h0 hk h
  have:=h.step ha hb ⟨h0,by omega⟩
  exact ih (k+1) (refStep a b k (o,run)).1 (refStep a b k (o,run)).2 tZ1 tZ1 this
end Go.Proofs.YtcgclpcocdappaaGreatDoor
namespace Go.Proofs.YtcgclpcocdappaaGreatDoor
open Go.RowKit
set_option maxRecDepth 100000 in
theorem letter_any (c:UInt8) (w:World):Calls Tryz.prog 132 #[.int .u8 (c.toNat:Int)] w fun e w'=>e=.returned (.bool (okB c))∧w'=w:=by
 have hc:c.toNat<256:=c.toNat_lt
 have hk:=Lib.hid (okB_iff c)
 go_enter Tryz.func132,Tryz.ntmps132
 go_wp2
 all_goals go_ret
 all_goals refine ⟨congrArg Ending.returned (congrArg Value.bool ?_),rfl⟩
 all_goals rw [Bool.eq_iff_iff,hk.out]
 all_goals simp
 all_goals omega
theorem bget (s:ByteArray) (k:Nat) (h:k<s.size):s.data.toList[k]'h=s[k]'h:=rfl
set_option maxRecDepth 100000 in
set_option maxHeartbeats 1000000 in
theorem refName_s (s:ByteArray) (w:World) (hs:s.size≤140737488351232):Calls Tryz.prog 63 #[.string s] w fun e w'=>e=.returned (.bool (nameB s.data.toList))∧w'=w:=by
 have hsz:s.data.toList.length=s.size:=(Lib.size_eq s).symm
 go_enter Tryz.func63,Tryz.ntmps63
 go_wp2_with fail
 go_loopw [3] (fun i wr=>∃ k:Nat,k≤s.size∧i=.int .i64 (k:Int)∧Hid ((s.data.toList.take k).all okB=true)∧wr=w) (fun i _=>s.size-(intOf i).toNat)
 case atStart=>exact ⟨0,Nat.zero_le _,rfl,rfl,rfl⟩
 case round =>
  obtain ⟨k,hk,rfl,hok,hww⟩:=hrel
  have hww:=hww.symm
  subst hww
  by_cases hlt:k<s.size
  ·have hki:(k:Int)<(s.size:Int):=tZ1
   have hkl:k<s.data.toList.length:=tZ1
   have htk:=List.take_succ_eq_append_getElem hkl
   have hg:=bget s k hlt
   obtain ⟨y,hy⟩:∃ y,y=s[k]'hlt:=⟨_,rfl⟩
   rw [hg,← hy] at htk
   have HT:=Lib.hid htk
   have HM:=Lib.hid (show y∈s.data.toList by rw [hy,← hg];exact List.getElem_mem _)
   have hc:=letter_any y w
   obtain ⟨b,hb⟩:∃ b,b=okB y:=⟨_,rfl⟩
   rw [← hb] at hc
   have HBB:=Lib.hid hb
   have hyv:((s[k]'hlt).toNat:Int)=(y.toNat:Int):=by rw [hy]
   have HSZ:=Lib.hid hsz
   clear htk hg hy hb hsz
   go_wp2_with fail
   refine hc.mono ?_
   clear hc
   rintro e w1 ⟨rfl,rfl⟩
   cases b with
   | true =>
    exact mZ81
   | false =>
    have HN:Hid (nameB s.data.toList=false):=by
     show _=_
     unfold nameB
     have:s.data.toList.all okB=false:=by
      rw [← Bool.not_eq_true,List.all_eq_true]
      intro h
      have:=h y HM.out
      rw [← HBB.out] at this
      cases this
     rw [this,Bool.and_false]
    go_wp2_with fail
    go_ret
    exact ⟨by rw [HN.out];rfl,rfl⟩
  ·have HA:Hid (s.data.toList.all okB=true):=by
    show _=_
    have:=hok.out
    rwa [List.take_of_length_le tZ1] at this
   have HN:Hid (nameB s.data.toList=(!(s.data.toList.isEmpty) && decide (s.data.toList.length≤16))):=by
    show _=_
    unfold nameB
    rw [HA.out,Bool.and_true]
   have HE:Hid (nameB s.data.toList=true↔1≤s.size∧s.size≤16):=by
    show _↔_
    rw [HN.out,Bool.and_eq_true,decide_eq_true_eq,hsz,Bool.not_eq_true']
    constructor
    ·rintro ⟨h1,h2⟩
     refine ⟨?_,h2⟩
     rcases Nat.eq_zero_or_pos s.size with h | h
     ·rw [← hsz] at h
      rw [List.eq_nil_of_length_eq_zero h] at h1
      cases h1
     ·exact h
    ·rintro ⟨h1,h2⟩
     refine ⟨?_,h2⟩
     rw [← Bool.not_eq_true,List.isEmpty_iff]
     intro e
     rw [e] at hsz
     simp at hsz
     omega
   clear hsz HA HN hok
   by_cases h1:1≤s.size
   ·have h1i:(1:Int)≤(s.size:Int):=tZ1
    by_cases h2:s.size≤16
    ·have h2i:(s.size:Int)≤16:=tZ1
     have HV:Hid (nameB s.data.toList=true):=HE.out.2 ⟨h1,h2⟩
     exact mZ79
    ·have h2i:¬ (s.size:Int)≤16:=tZ1
     exact mZ80
   ·have h1i:¬ (1:Int)≤(s.size:Int):=tZ1
    exact mZ80
theorem refName_any (n:BS) (w:World) (hs:n.length≤140737488351232):Calls Tryz.prog 63 #[.string ⟨n.toArray⟩] w fun e w'=>e=.returned (.bool (nameB n))∧w'=w:=by
 have:=refName_s ⟨n.toArray⟩ w (by show n.length≤_;exact hs)
 simpa using this
set_option maxRecDepth 100000 in
set_option maxHeartbeats 1000000 in
theorem refValue_s (s:ByteArray) (w:World) (hs:s.size≤140737488351232):Calls Tryz.prog 120 #[.string s] w fun e w'=>e=.returned (.bool (valB s.data.toList))∧w'=w:=by
 have hsz:s.data.toList.length=s.size:=(Lib.size_eq s).symm
 go_enter Tryz.func120,Tryz.ntmps120
 go_wp2_with fail
 go_loopw [3] (fun i wr=>∃ k:Nat,k≤s.size∧i=.int .i64 (k:Int)∧Hid (∀ c∈s.data.toList.take k,32≤c.toNat∧c.toNat≤126)∧wr=w) (fun i _=>s.size-(intOf i).toNat)
 case atStart=>exact ⟨0,Nat.zero_le _,rfl,(show ∀ c∈_,_ by simp),rfl⟩
 case round =>
  obtain ⟨k,hk,rfl,hok,hww⟩:=hrel
  have hww:=hww.symm
  subst hww
  by_cases hlt:k<s.size
  ·have hki:(k:Int)<(s.size:Int):=tZ1
   have hkl:k<s.data.toList.length:=tZ1
   have htk:=List.take_succ_eq_append_getElem hkl
   have hg:=bget s k hlt
   obtain ⟨y,hy⟩:∃ y,y=s[k]'hlt:=⟨_,rfl⟩
   rw [hg,← hy] at htk
   have HT:=Lib.hid htk
   have HM:=Lib.hid (show y∈s.data.toList by rw [hy,← hg];exact List.getElem_mem _)
   have hyv:((s[k]'hlt).toNat:Int)=(y.toNat:Int):=by rw [hy]
   have hy256:=y.toNat_lt
   have HSZ:=Lib.hid hsz
   have hbad:Hid ((y.toNat<32∨126<y.toNat)→valB s.data.toList=false):=by
    show _→_
    intro h
    unfold valB
    have:s.data.toList.all (fun c=>decide (32≤c) && decide (c≤126))=false:=by
     rw [← Bool.not_eq_true,List.all_eq_true]
     intro h2
     have h3:=h2 y HM.out
     simp only [Bool.and_eq_true,decide_eq_true_eq,UInt8.le_iff_toNat_le] at h3
     have e1:(32:UInt8).toNat=32:=rfl
     have e2:(126:UInt8).toNat=126:=rfl
     omega
    rw [this,Bool.and_false]
   clear htk hg hy hsz
   by_cases h1:y.toNat<32
   ·have h1i:(y.toNat:Int)<32:=tZ1
    have HV:=Lib.hid (hbad.out (.inl h1))
    exact mZ79
   ·have h1i:¬ (y.toNat:Int)<32:=tZ1
    by_cases h2:126<y.toNat
    ·have h2i:(126:Int)<(y.toNat:Int):=tZ1
     have HV:=Lib.hid (hbad.out (.inr h2))
     exact mZ79
    ·have h2i:¬ (126:Int)<(y.toNat:Int):=tZ1
     go_wp2_with fail
     go_roundw
     case rel =>
      refine ⟨k+1,by omega,by go_num,?_,trivial⟩
      show ∀ c∈_,_
      intro c hc
      rw [HT.out,List.mem_append,List.mem_singleton] at hc
      rcases hc with hc | rfl
      ·exact hok.out c hc
      ·exact ⟨by omega,by omega⟩
     case measure=>simp [intOf];omega
  ·have HV:Hid (valB s.data.toList=decide ((s.size:Int)≤32)):=by
    show _=_
    unfold valB
    have h:=hok.out
    rw [List.take_of_length_le tZ1] at h
    have:s.data.toList.all (fun c=>decide (32≤c) && decide (c≤126))=true:=by
     rw [List.all_eq_true]
     intro c hc
     have:=h c hc
     simp only [Bool.and_eq_true,decide_eq_true_eq,UInt8.le_iff_toNat_le]
     exact this
    rw [this,Bool.and_true,hsz]
    exact decide_eq_decide.2 tZ1
   clear hsz hok
   exact mZ79
theorem refValue_any (n:BS) (w:World) (hs:n.length≤140737488351232):Calls Tryz.prog 120 #[.string ⟨n.toArray⟩] w fun e w'=>e=.returned (.bool (valB n))∧w'=w:=by
 have:=refValue_s ⟨n.toArray⟩ w (by show n.length≤_;exact hs)
 simpa using this
end Go.Proofs.YtcgclpcocdappaaGreatDoor
namespace Go.Proofs.YtcgclpcocdappaaGreatDoor
open Go.RowKit
set_option maxRecDepth 100000 in
set_option maxHeartbeats 2000000 in
theorem rfree_any (l:BL) (n:Nat) (hnl:n=l.length) (A:Option Addr) (cp:Nat) (i c:Int) (w:World) (B:Nat) (hr:Reads w B 2 A n (bcells l)) (hB:B≤w.heap.size) (hn:n≤5000000000000) :
  Calls Tryz.prog 51 #[.slice A n cp,.int .i64 i,.int .i64 c] w (FreePost w l i c):=by
 have hck:=rcheck_any l n hnl A cp w B hr hB tZ1
 by_cases hok:okL l=true
 ·have h1:okE l=0:=tZ104
  rw [h1] at hck
  by_cases hi:0≤i∧i<1024∧1≤c∧c≤1024-i
  ·have hfe:freeE l i c=0:=tZ147
   have hfr:freeR l i c=freeL l i c:=tZ179
   obtain ⟨i1,i2,i3,i4⟩:=hi
   obtain ⟨i0,hi0,hz0,hz1,hz2⟩:=info_parts Tryz.infoB
   have hs:=okL_small l hok
   have HFE:=Lib.hid hfe
   have HFR:=Lib.hid hfr
   have HN:=Lib.hid hnl
   have hn1:n≤1024:=tZ1
   have hw1:IntKind.i64.wrap (i+c)=i+c:=IntWalk.i64_in _ tZ1
   clear hfe hfr h1 hok hnl hs
   go_enter Tryz.func51,Tryz.ntmps51
   go_wp2_with fail
   refine hck.mono ?_
   clear hck
   rintro e w1 ⟨rfl,hb1⟩
   go_wp2_with fail
   go_loopw [8,9] (fun v j wr=>∃ k q:Nat,k≤n∧j=.int .i64 (k:Int)∧Hid (q=((l.take k).filter fun x=>!inB i c x).length)∧wr.ownsRow w1.heap.size 75 2 v q (bcells ((l.take k).filter fun x=>!inB i c x))∧Below w.heap.size w wr∧Below w1.heap.size w1 wr) (fun _ j _=>n-(intOf j).toNat)
   case atStart=>exact ⟨0,0,Nat.zero_le _,rfl,(show _=_ by simp),World.ownsRow_nil _ _ _ _,hb1,Below.refl _ _⟩
   case round =>
    obtain ⟨k,q,hk,rfl,hq,hown,hbw,hbw1⟩:=hrel
    have HQ:=Lib.hid hq.out
    have hqn:q≤n:=by
     have h1:=HQ.out
     have h2:=List.length_filter_le (fun x=>!inB i c x) (l.take k)
     have h3:=List.length_take_le k l
     omega
    have hsz:=hbw.size
    have hsz1:=hbw1.size
    obtain ⟨A1,c1,rfl,_,_,_⟩:=own_form hown
    have HOWN:=Lib.hid hown
    clear hown hq
    by_cases hkn:k<n
    ·have hrw:=hr.below (hbw.mono hB)
     obtain ⟨ad,rfl,hadB,e0,e1⟩:=hrw.blk2 HN.out hkn
     have hkl:k<l.length:=tZ7
     obtain ⟨x,hx⟩:∃ x,x=l[k]'hkl:=⟨_,rfl⟩
     rw [← hx] at e0 e1
     have htk:=List.take_succ_eq_append_getElem hkl
     rw [← hx] at htk
     have HTK:=Lib.hid htk
     obtain ⟨xi,xs⟩:=x
     simp only at e0 e1
     have hki:(k:Int)<(n:Int):=tZ1
     clear hx htk hrw hr
     by_cases h1:xi<i
     ·exact mZ83
     ·by_cases h2:xi<i+c
      ·have HIN:Hid (inB i c (xi,xs)=true):=tZ172
       go_wp2_with fail
       go_roundw
       case rel=>exact ⟨k+1,q,by omega,by go_num,by rw [HTK.out,List.filter_append,List.filter_cons_of_neg (by rw [HIN.out];simp),List.filter_nil,List.append_nil];exact HQ.out,by rw [HTK.out,List.filter_append,List.filter_cons_of_neg (by rw [HIN.out];simp),List.filter_nil,List.append_nil];exact HOWN.out,hbw,hbw1⟩
       case measure=>simp [intOf];omega
      ·exact mZ83
    ·have hfin:(l.take k).filter (fun x=>!inB i c x)=freeL l i c:=by
      rw [List.take_of_length_le tZ7];rfl
     have HFIN:=Lib.hid hfin
     clear hfin hr
     go_wp2_with fail
     go_ret2
     refine ⟨_,by rw [HFE.out];rfl,?_,hbw⟩
     have h1:=HOWN.out
     rw [HFIN.out] at h1
     rw [HFR.out,show (freeL l i c).length=q by rw [← HFIN.out];exact HQ.out.symm]
     exact own_mono h1 hb1.size
  ·have hfe:freeE l i c=4:=tZ148
   have hfr:freeR l i c=[]:=by unfold freeR;rw [if_neg tZ1]
   have HFE:=Lib.hid hfe
   have HFR:=Lib.hid hfr
   clear hfe hfr h1 hok hnl hr
   have hw:0≤i→i<1024→IntKind.i64.wrap (1024-i)=1024-i:=fun _ _=>IntWalk.i64_in _ tZ1
   by_cases ha:i<0
   ·clear hi hw
    exact mZ82
   by_cases hb:1024≤i
   ·have ha':0≤i:=tZ1
    clear hi hw ha
    exact mZ82
   have ha':0≤i:=tZ1
   have hb':i<1024:=tZ1
   by_cases hc:c<1
   ·clear hi hw ha hb
    exact mZ82
   ·have hc':1≤c:=tZ1
    have hd:1024-i<c:=tZ1
    have hw:=hw ha' hb'
    clear hi ha hb hc
    exact mZ82
 ·have h1:okE l=9:=tZ105
  rw [h1] at hck
  have hfe:freeE l i c=9:=tZ180
  have hfr:freeR l i c=[]:=by unfold freeR;rw [if_neg tZ1]
  have HFE:=Lib.hid hfe
  have HFR:=Lib.hid hfr
  clear hfe hfr h1 hok hnl hr
  exact mZ82
end Go.Proofs.YtcgclpcocdappaaGreatDoor
namespace Go.Proofs.YtcgclpcocdappaaGreatDoor
open Go.RowKit
abbrev BlkT:=Int×BS
def encB (x:BlkT):List Value:=[.int .i64 x.1,strV x.2]
def encP (x:BS×BS):List Value:=[strV x.1,strV x.2]
def encS (x:BS):List Value:=[strV x]
def encG (x:GT):List Value:=[strV x.1,strV x.2.1,.int .i64 x.2.2]
structure SnapR where
 nm:BS
 gd:Int
 body:FS BlkT
 tags:FS BS
 own:FS (BS×BS)
def encSnap (x:SnapR):List Value:=[strV x.nm,.int .i64 x.gd,x.body.val,x.tags.val,x.own.val]
structure SetR where
 path:BS
 org:BS
 body:FS BlkT
 snaps:FS SnapR
 own:FS (BS×BS)
def encSet (x:SetR):List Value:=[strV x.path,strV x.org,x.body.val,x.snaps.val,x.own.val]
structure StageR where
 into:BS
 kind:Int
 nm:BS
 frm:Int
 gd:Int
 own:FS (BS×BS)
 ix:Int
 ct:Int
 dt:BS
 sm:Sm
 body:FS BlkT
 at_:Int
 nx:Int
 sum:Sm
 done:Bool
def smV (s:Sm):List Value:=[.int .u64 s.a,.int .u64 s.b,.int .u64 s.c,.int .u64 s.d]
def encStage (x:StageR):List Value :=
 [strV x.into,.int .i64 x.kind,strV x.nm,.int .i64 x.frm,.int .i64 x.gd,x.own.val,.int .i64 x.ix,.int .i64 x.ct,strV x.dt]++smV x.sm++[x.body.val,.int .i64 x.at_,.int .i64 x.nx]++smV x.sum++[.bool x.done]
structure EntryR where
 user:BS
 kind:Int
 path:BS
 err:Int
def encEntry (x:EntryR):List Value:=[strV x.user,.int .i64 x.kind,strV x.path,.int .i64 x.err]
structure TenR where
 nm:BS
 quota:Int
 next:Int
 sets:FS SetR
 grants:FS GT
 stages:FS StageR
 log:FS EntryR
def TenR.cells (t:TenR):List Value:=[strV t.nm,.int .i64 t.quota,.int .i64 t.next,t.sets.val,t.grants.val,t.stages.val,t.log.val]
def TenR.val (t:TenR):Value:=.agg t.cells.toArray
structure SnapR.rd (w:World) (B:Nat) (x:SnapR):Prop where
 body:x.body.rd w B 2 encB
 tags:x.tags.rd w B 1 encS
 own:x.own.rd w B 2 encP
structure SetR.rd (w:World) (B:Nat) (x:SetR):Prop where
 body:x.body.rd w B 2 encB
 snaps:x.snaps.rd w B 5 encSnap
 each:∀ y∈x.snaps.l,y.rd w B
 own:x.own.rd w B 2 encP
structure StageR.rd (w:World) (B:Nat) (x:StageR):Prop where
 own:x.own.rd w B 2 encP
 body:x.body.rd w B 2 encB
structure TenR.rd (w:World) (B:Nat) (t:TenR):Prop where
 sets:t.sets.rd w B 5 encSet
 eachS:∀ y∈t.sets.l,y.rd w B
 grants:t.grants.rd w B 3 encG
 stages:t.stages.rd w B 21 encStage
 eachG:∀ y∈t.stages.l,y.rd w B
 log:t.log.rd w B 4 encEntry
/-! ### sizes -/
structure SnapR.sz (x:SnapR):Prop where
 nm:x.nm.length≤4000000000
 body:x.body.n≤1000000000000
 tags:x.tags.n≤1000000000000
 each:∀ t∈x.tags.l,t.length≤4000000000
 own:x.own.n≤1000000000000
 props:∀ p∈x.own.l,p.1.length≤4000000000∧p.2.length≤4000000000
structure SetR.sz (x:SetR):Prop where
 path:x.path.length≤4000000000
 org:x.org.length≤4000000000
 body:x.body.n≤1000000000000
 snaps:x.snaps.n≤1000000000000
 each:∀ y∈x.snaps.l,y.sz
 own:x.own.n≤1000000000000
 props:∀ p∈x.own.l,p.1.length≤4000000000∧p.2.length≤4000000000
structure StageR.sz (x:StageR):Prop where
 into:x.into.length≤4000000000
 nm:x.nm.length≤4000000000
 dt:x.dt.length≤4000000000
 own:x.own.n≤1000000000000
 props:∀ p∈x.own.l,p.1.length≤4000000000∧p.2.length≤4000000000
 body:x.body.n≤1000000000000
structure EntryR.sz (x:EntryR):Prop where
 user:x.user.length≤4000000000
 path:x.path.length≤4000000000
structure TenR.sz (t:TenR):Prop where
 nm:t.nm.length≤4000000000
 sets:t.sets.n≤1000000000000
 eachS:∀ y∈t.sets.l,y.sz
 grants:t.grants.n≤1000000000000
 eachG:∀ g∈t.grants.l,g.1.length≤4000000000∧g.2.1.length≤4000000000
 stages:t.stages.n≤1000000000000
 eachT:∀ y∈t.stages.l,y.sz
 log:t.log.n≤1000000000000
 eachL:∀ y∈t.log.l,y.sz
end Go.Proofs.YtcgclpcocdappaaGreatDoor
namespace Go.Proofs.YtcgclpcocdappaaGreatDoor
open Go.RowKit Go.Maps Go.Sort Go.Shelf
/-! ### a map that reads as a list of properties -/
structure MapIs (D:DataW Unit) (F:PL):Prop where
 has:∀ n:BS,Maps.has D (.string n)=(getP F n).isSome
 at_:∀ (n v:BS),getP F n=some v→∀ z,D.atKey (.string n) z=.lit (.string v)
theorem isKey_str (x:BS):WideAt.IsKeyLit (.string x):=tZ20
theorem MapIs.nil:MapIs (.map []) []:=⟨fun _=>rfl,fun _ _ h=>by cases h⟩
theorem MapIs.put {D:DataW Unit} {F:PL} (h:MapIs D F) (hD:IsMap D) (hF:SortP F) (p:BS×BS):MapIs (D.put (.string p.1) (.lit (.string p.2))) (putP p F):=by
 refine ⟨fun n=>?_,fun n v hv z=>?_⟩
 ·rw [getP_putP p F hF]
  by_cases hn:p.1=n
  ·subst hn
   rw [if_pos rfl,has_put_same hD (isKey_str _)]
   rfl
  ·rw [if_neg hn,has_put_other (by intro e;exact hn (by simpa using e.symm)),h.has]
 ·rw [getP_putP p F hF] at hv
  by_cases hn:p.1=n
  ·subst hn
   rw [if_pos rfl] at hv
   injection hv with hv
   subst hv
   exact atKey_put_same hD (isKey_str _) _ z
  ·rw [if_neg hn] at hv
   rw [atKey_put_other (by intro e;exact hn (by simpa using e.symm))]
   exact h.at_ n v hv z
/-! ### slices.Sorted(maps.Keys(m)) -/
/-! ### Over -/
def strOk (l:PL):Prop:=∀ x∈l,x.1.length≤140737488351232∧x.2.length≤140737488351232
structure PropsIn (w:World) (B:Nat) (v:Value) (l:PL):Prop where
 ex:∃ A n c,v=.slice A n c∧n=l.length∧n≤5000000000000∧Reads w B 2 A n (pcells l)
 ok:strOk l
theorem PropsIn.below {w W:World} {B:Nat} {v:Value} {l:PL} (h:PropsIn w B v l) (hb:Below B w W):PropsIn W B v l:=by
 obtain ⟨A,n,c,rfl,hn,hm,hr⟩:=h.ex
 exact ⟨⟨A,n,c,rfl,hn,hm,hr.below hb⟩,h.ok⟩
theorem Tryz.infoP:(Tryz.prog.info? 78).map (fun i=>(i.zero,i.size,i.bytes))=some (some (.agg #[.string ByteArray.empty,.string ByteArray.empty]),2,32):=tZ2
theorem pcells_one (l:PL):∀ u∈pcells l,u.oneCell'=true:=by
 intro u hu
 simp only [pcells,List.mem_flatMap] at hu
 exact mZ56
theorem propsB_small (l:PL) (h:propsB l=true):l.length≤8∧∀ x∈l,x.1.length≤16∧x.2.length≤32:=by
 unfold propsB at h
 rw [Bool.and_eq_true,decide_eq_true_eq] at h
 exact ⟨h.1,fun x hx=>by obtain ⟨h1,h2⟩:=propsFrom_small _ _ h.2 x hx;exact ⟨nameB_len _ h1,valB_len _ h2⟩⟩
end Go.Proofs.YtcgclpcocdappaaGreatDoor
namespace Go.Proofs.YtcgclpcocdappaaGreatDoor
open Go.RowKit
def scells (l:List BS):List Value:=l.map strV
theorem scells_append (a b:List BS):scells (a++b)=scells a++scells b:=by simp [scells]
theorem strs_at {w:World} {B n:Nat} {A:Option Addr} {l:List BS} (h:Reads w B 1 A n (scells l)) (hn:n=l.length) {k:Nat} (hk:k<n) :
  ∃ ad,A=some ad∧ad.block<B∧w.cell? (ad.add k)=some (strV (l[k]'tZ1)):=by
 obtain ⟨ad,u,e,hB,hxu,hcell⟩:=h.at_ hk
 have hux:u=strV (l[k]'tZ1):=by
  unfold scells at hxu
  rw [List.getElem?_map,List.getElem?_eq_getElem tZ1] at hxu
  exact (Option.some.inj hxu).symm
 subst hux
 exact ⟨ad,e,hB,hcell⟩
theorem Tryz.infoS:(Tryz.prog.info? 9).map (fun i=>(i.zero,i.size,i.bytes))=some (some (.string ByteArray.empty),1,16):=tZ2
end Go.Proofs.YtcgclpcocdappaaGreatDoor
