/-
  The plain law of applying a change: what is changed from one content to another one makes it that. A rollback brings a snapshot's content back: the plain law. The example of chapter 18: a snapshot that is held is not destroyed. A world for the witness: the settled one, utf8's two tables holding what their initialisers lay. snaps.Rollback: a set's content is a snapshot's again. slices.IndexFunc and slices.DeleteFunc at elements of 2 cells, by their contracts. What is told of tenants, laid side by side: two of one content are the same.
-/
import Derived.WalkKit
import Derived.WalkSpells
import Derived.Below
import Derived.Laws.OwnMore
import Derived.Deep.AppendLies
import Derived.Deep.Draws
import Derived.Laws.Rows
import Derived.Maps.AppendAt
import Derived.RegionTactic
import Derived.OwnWalk
import Derived.Deep.QuietTactic
import Derived.BigQuiet
import Derived.Lib.Hide
import Derived.Laws.CopyOwn
import Derived.IntWalk
import Derived.Test.YtcgclpcocdappaaGreatDoorRows
import Derived.Handy
import Derived.Lib.AppendZeros
import Derived.ProofKit
import Derived.Lib.Overlaps
import Derived.Lib.AppendZerosOnto
import Derived.Deep.RegionLaw
import Derived.Deep.Quiet
import Derived.OpenShut
import Derived.ShutString
import Derived.ChangeOld
import Derived.Carry
import Derived.SizedLaws
import Derived.JoinedCond
import Derived.Deep.CondSized
import Derived.Deep.Slices
import Derived.Deep.Fields
import Derived.Lib.SmallJoins
import Derived.Orders
import Derived.Lib.SplitLaws
import Derived.Lib.LastIndexByte
import Derived.Lib.Strings
import Derived.Sort.Walk0
import Derived.Sort.KeysCollected
import Derived.Shelf.SlIter.Nil
import Derived.Shelf.SortM.Plain
import Derived.Shelf.SortM.SortNone
import Derived.Maps.OwnSet
import Derived.Maps.StringElems
import Derived.Deep.MidRow
import Derived.Shelf.Strings.Search1
import Derived.Shelf.Strings.Search2
import Derived.Shelf.Strings.Search3
import Derived.Shelf.Strings.Cut
import Derived.Shelf.Strings.Count
import Derived.Shelf.LaysM
import Derived.Shelf.Strings.Shaped
import Derived.Shelf.Strings.LastIndex
import Derived.Shelf.Strings.Split
import Derived.Shelf.Strings.SplitShaped
import Derived.Shelf.Unicode.Decode
import Derived.Shelf.Strings.RuneCount
import Derived.Shelf.Strings.Explode
import Derived.Shelf.Unicode.DecodeSlow
import Derived.Test.YtcgclpcocdappaaGreatDoorProg
import Derived.Laws.BytesString
import Derived.Laws.IdiomStrings
import Derived.Lib.ConvBytes
import Derived.Deep.DeepCutAuto
import Derived.Great.BuildSlice
import Derived.Test.YtcgclpcocdappaaGreatDoorCards
import Derived.Test.YtcgclpcocdappaaGreatDoorTie
import Derived.Deep.DeepHandedRow
import Derived.Lib.LaidTab
import Derived.Test.YtcgclpcocdappaaGreatDoorG0
import Derived.Test.YtcgclpcocdappaaGreatDoorGg1
import Derived.Test.YtcgclpcocdappaaGreatDoorGg2
import Derived.Test.YtcgclpcocdappaaGreatDoorGg5
import Derived.Test.YtcgclpcocdappaaGreatDoorGg6
import Derived.Test.YtcgclpcocdappaaGreatDoorGg7
import Derived.Test.YtcgclpcocdappaaGreatDoorGg20
import Derived.Test.YtcgclpcocdappaaGreatDoorGg21
import Derived.Test.YtcgclpcocdappaaGreatDoorGg22
import Derived.Test.YtcgclpcocdappaaGreatDoorGg25
import Derived.Test.YtcgclpcocdappaaGreatDoorGg29
import Derived.Test.YtcgclpcocdappaaGreatDoorGg30
import Derived.Test.YtcgclpcocdappaaGreatDoorGg31
import Derived.Test.YtcgclpcocdappaaGreatDoorGg39
import Derived.Test.YtcgclpcocdappaaGreatDoorGg41
namespace Go.Proofs.YtcgclpcocdappaaGreatDoor
open Go.RowKit
def lk (l:BL) (j:Int):Option (List UInt8):=(l.find? fun x=>x.1 == j).map (·.2)
theorem hasL_lk (l:BL) (j:Int):hasL l j=(lk l j).isSome:=by
 unfold hasL lk
 induction l with
 | nil=>rfl
 | cons x r ih =>
  rw [List.any_cons,List.find?_cons]
  cases h:(x.1 == j) with
  | true=>rfl
  | false=>rw [Bool.false_or,ih]
theorem getL_lk (l:BL) (j:Int):getL l j=(lk l j).getD []:=by
 unfold getL lk
 cases l.find? (fun x=>x.1 == j) <;> rfl
theorem lk_append (a b:BL) (j:Int):lk (a++b) j=(lk a j).or (lk b j):=by
 unfold lk
 rw [List.find?_append]
 cases a.find? (fun x=>x.1 == j) <;> simp
theorem lk_cons (x:Int×List UInt8) (l:BL) (j:Int):lk (x :: l) j=if x.1=j then some x.2 else lk l j:=by
 unfold lk
 by_cases h:x.1=j
 ·rw [List.find?_cons_of_pos (by simpa using h),if_pos h];rfl
 ·rw [List.find?_cons_of_neg (by simpa using h),if_neg h]
theorem lk_none (l:BL) (j:Int) (h:∀ x∈l,x.1≠j):lk l j=none:=by
 unfold lk
 rw [List.find?_eq_none.2 (fun x hx=>by simpa using h x hx)]
 rfl
structure OkP (l:BL):Prop where
 pw:l.Pairwise fun x y=>x.1<y.1
 bd:∀ x∈l,0≤x.1∧x.1<1024∧x.2.length=16
theorem OkP.ext {l m:BL} (hl:OkP l) (hm:OkP m) (h:∀ j,lk l j=lk m j):l=m:=by
 induction l generalizing m with
 | nil =>
  cases m with
  | nil=>rfl
  | cons y m=>have:=h y.1;rw [lk_cons,if_pos rfl] at this;cases this
 | cons x l ih =>
  cases m with
  | nil=>have:=h x.1;rw [lk_cons,if_pos rfl] at this;cases this
  | cons y m =>
   have hx:=List.pairwise_cons.1 hl.pw
   have hy:=List.pairwise_cons.1 hm.pw
   have hxy:x.1=y.1:=by
    rcases Int.lt_trichotomy x.1 y.1 with h1 | h1 | h1
    ·have:=h x.1
     rw [lk_cons,if_pos rfl,lk_none (y :: m) x.1 (fun z hz=>by
      rcases List.mem_cons.1 hz with rfl | hz
      ·omega
      ·have:=hy.1 z hz;omega)] at this
     cases this
    ·exact h1
    ·have:=h y.1
     rw [lk_cons y,if_pos rfl,lk_none (x :: l) y.1 (fun z hz=>by
      rcases List.mem_cons.1 hz with rfl | hz
      ·omega
      ·have:=hx.1 z hz;omega)] at this
     cases this
   have h2:x.2=y.2:=by
    have:=h x.1
    rw [lk_cons,if_pos rfl,lk_cons,if_pos hxy.symm] at this
    exact Option.some.inj this
   have:l=m:=by
    refine ih ⟨hx.2,fun z hz=>hl.bd z (List.mem_cons_of_mem _ hz)⟩ ⟨hy.2,fun z hz=>hm.bd z (List.mem_cons_of_mem _ hz)⟩ (fun j=>?_)
    by_cases hj:x.1=j
    ·rw [lk_none l j (fun z hz=>by have:=hx.1 z hz;omega),lk_none m j (fun z hz=>by have:=hy.1 z hz;omega)]
    ·have:=h j
     rw [lk_cons,if_neg hj,lk_cons,if_neg (by omega)] at this
     exact this
   rw [this,Prod.ext hxy h2]
/-! ### put, free -/
theorem atF_at' (l:BL) (i:Int) (x:Int×List UInt8) (hx:l[posF (cfB i) l]?=some x):atF (cfB i) l=(x.1 == i):=by
 unfold atF
 rw [hx]
 show (cmpI x.1 i == 0)=_
 rw [Bool.eq_iff_iff]
 simp [cmpI_zero]
theorem posF_parts (l:BL) (h:OkP l) (i:Int):(∀ x∈l.take (posF (cfB i) l),x.1<i)∧(∀ x∈l.drop (posF (cfB i) l+if atF (cfB i) l=true then 1 else 0),i<x.1)∧(∀ j,j≠i→lk l j=(lk (l.take (posF (cfB i) l)) j).or (lk (l.drop (posF (cfB i) l+if atF (cfB i) l=true then 1 else 0)) j)):=by
 have h1:l.take (posF (cfB i) l)=l.takeWhile fun x=>decide (cfB i x<0):=(List.prefix_iff_eq_take.1 (List.takeWhile_prefix _)).symm
 have hlt:∀ x∈l.take (posF (cfB i) l),x.1<i:=by
  intro x hx
  rw [h1] at hx
  have:∀ (l:BL),x∈l.takeWhile (fun x=>decide (cfB i x<0))→x.1<i:=by
   intro l
   induction l with
   | nil=>intro h;cases h
   | cons y r ih =>
    intro h
    by_cases hy:cfB i y<0
    ·rw [List.takeWhile_cons_of_pos (by simpa using hy)] at h
     rcases List.mem_cons.1 h with rfl | h
     ·exact (cmpI_neg _ _).1 hy
     ·exact ih h
    ·rw [List.takeWhile_cons_of_neg (by simpa using hy)] at h;cases h
  exact this l hx
 have hpl:=posF_le (cfB i) l
 have hsplit:=List.take_append_drop (posF (cfB i) l) l
 refine ⟨hlt,?_,?_⟩
 all_goals
  by_cases hp:posF (cfB i) l<l.length
  ·obtain ⟨x,hx⟩:∃ x,l[posF (cfB i) l]?=some x:=⟨_,List.getElem?_eq_getElem hp⟩
   have hdrop:l.drop (posF (cfB i) l)=x :: l.drop (posF (cfB i) l+1):=by
    rw [List.drop_eq_getElem_cons hp,(List.getElem?_eq_some_iff.1 hx).2]
   have hge:i≤x.1:=by
    rcases Int.lt_or_le x.1 i with hl | hl
    ·exfalso
     have h2:l.takeWhile (fun x=>decide (cfB i x<0))++l.dropWhile (fun x=>decide (cfB i x<0))=l:=List.takeWhile_append_dropWhile
     rw [← h1] at h2
     have h3:l.dropWhile (fun x=>decide (cfB i x<0))=l.drop (posF (cfB i) l):=List.append_cancel_left (h2.trans hsplit.symm)
     rw [hdrop] at h3
     have h5:=List.head_dropWhile_not (fun x=>decide (cfB i x<0)) (l:=l) (by rw [h3];simp)
     simp only [h3,List.head_cons,decide_eq_false_iff_not] at h5
     exact h5 ((cmpI_neg _ _).2 hl)
    ·exact hl
   have hat:atF (cfB i) l=(x.1 == i):=atF_at' l i x hx
   have hpw:(x :: l.drop (posF (cfB i) l+1)).Pairwise fun x y=>x.1<y.1:=by
    rw [← hdrop]
    exact h.pw.sublist (List.drop_sublist _ _)
   have hpw:=List.pairwise_cons.1 hpw
   by_cases hxi:x.1=i
   ·rw [hat,if_pos (by simpa using hxi)]
    first
     | (intro y hy;have:=hpw.1 y hy;omega)
     | (
       intro j hj
       conv=>lhs;rw [← hsplit]
       rw [lk_append,hdrop,lk_cons,if_neg (by omega)])
   ·rw [hat,if_neg (by simpa using hxi)]
    first
     | (
       intro y hy
       rw [Nat.add_zero,hdrop] at hy
       rcases List.mem_cons.1 hy with rfl | hy
       ·omega
       ·have:=hpw.1 y hy;omega)
     | (
       intro j hj
       conv=>lhs;rw [← hsplit]
       rw [lk_append,Nat.add_zero])
  ·have hd:∀ q,posF (cfB i) l≤q→l.drop q=[]:=fun q hq=>List.drop_eq_nil_of_le (by omega)
   first
    | (intro y hy;rw [hd _ (by omega)] at hy;cases hy)
    | (
      intro j hj
      conv=>lhs;rw [← hsplit]
      rw [lk_append,hd _ (Nat.le_refl _),hd _ (by omega)])
theorem lk_put (l:BL) (h:OkP l) (i j:Int) (d:List UInt8):lk (putL11 l i d) j=if j=i then some d else lk l j:=by
 obtain ⟨h1,h2,h3⟩:=posF_parts l h i
 unfold putL11
 rw [lk_append,lk_append,lk_cons]
 by_cases hj:j=i
 ·subst hj
  rw [if_pos rfl,if_pos rfl,lk_none _ j (fun x hx=>by have:=h1 x hx;omega)]
  rfl
 ·rw [if_neg hj,if_neg (fun e=>hj e.symm),h3 j hj]
  show ((lk _ j).or none).or _=_
  rw [Option.or_none]
theorem ok_put (l:BL) (h:OkP l) (i:Int) (d:List UInt8) (hi:0≤i∧i<1024) (hd:d.length=16):OkP (putL11 l i d):=by
 obtain ⟨h1,h2,_⟩:=posF_parts l h i
 unfold putL11
 refine ⟨?_,?_⟩
 ·rw [List.pairwise_append,List.pairwise_append]
  refine ⟨⟨h.pw.sublist (List.take_sublist _ _),List.pairwise_singleton _ _,fun x hx y hy=>by simp at hy;subst hy;exact h1 x hx⟩,h.pw.sublist (List.drop_sublist _ _),fun x hx y hy=>?_⟩
  have:=h2 y hy
  rcases List.mem_append.1 hx with hx | hx
  ·have:=h1 x hx;omega
  ·simp at hx;subst hx;exact this
 ·intro x hx
  rcases List.mem_append.1 hx with hx | hx
  ·rcases List.mem_append.1 hx with hx | hx
   ·exact h.bd x (List.mem_of_mem_take hx)
   ·simp at hx;subst hx;exact ⟨hi.1,hi.2,hd⟩
  ·exact h.bd x (List.mem_of_mem_drop hx)
theorem ok_free (l:BL) (h:OkP l) (i c:Int):OkP (freeL l i c):=⟨h.pw.sublist List.filter_sublist,fun x hx=>h.bd x (List.mem_filter.1 hx).1⟩
theorem lk_free (l:BL) (i c j:Int):lk (freeL l i c) j=if i≤j∧j<i+c then none else lk l j:=by
 unfold freeL
 induction l with
 | nil=>simp [lk]
 | cons x r ih =>
  by_cases hx:inB i c x=true
  ·rw [List.filter_cons_of_neg (by simp [hx]),ih,lk_cons]
   unfold inB at hx
   simp only [Bool.and_eq_true,decide_eq_true_eq] at hx
   by_cases hj:x.1=j
   ·rw [if_pos (by omega),if_pos (by omega)]
   ·rw [if_neg hj]
  ·rw [List.filter_cons_of_pos (by simpa using hx),lk_cons,ih,lk_cons]
   unfold inB at hx
   simp only [Bool.and_eq_true,decide_eq_true_eq] at hx
   by_cases hj:x.1=j
   ·rw [if_pos hj,if_pos hj,if_neg (by omega)]
   ·rw [if_neg hj,if_neg hj]
/-! ### applying -/
abbrev RE:=Int×Int×Int×List UInt8
def apStep (l:BL) (r:RE):BL:=if r.1=2 then putL11 l r.2.1 r.2.2.2 else freeL l r.2.1 r.2.2.1
def lastOf (r:RE):Int:=if r.1=2 then r.2.1 else r.2.1+r.2.2.1-1
def ValidR (r:RE):Prop:=(r.1=2∧0≤r.2.1∧r.2.1<1024∧r.2.2.2.length=16)∨(r.1=3∧0≤r.2.1∧r.2.1<1024∧1≤r.2.2.1∧r.2.2.1≤1024-r.2.1)
theorem ok_step (l:BL) (h:OkP l) (r:RE) (hr:ValidR r):OkP (apStep l r):=by
 unfold apStep
 rcases hr with ⟨h1,h2,h3,h4⟩ | ⟨h1,_⟩
 ·rw [if_pos h1];exact ok_put l h _ _ ⟨h2,h3⟩ h4
 ·rw [if_neg (by omega)];exact ok_free l h _ _
theorem ok_steps (o:RL) (l:BL) (h:OkP l) (ho:∀ r∈o,ValidR r):OkP (o.foldl apStep l):=by
 induction o generalizing l with
 | nil=>exact h
 | cons r o ih=>exact ih (apStep l r) (ok_step l h r (ho r (by simp))) (fun q hq=>ho q (List.mem_cons_of_mem _ hq))
/-- what stands when the indexes below k have been looked at -/
structure ApI (a b:BL) (k:Int) (o:RL) (run:Bool):Prop where
 val:∀ r∈o,ValidR r
 asc:o.Pairwise fun r q=>lastOf r<q.2.1
 lst:∀ r∈o,lastOf r<k
 run_:run=true→∃ o' r,o=o'++[r]∧r.1=3∧r.2.1+r.2.2.1=k
 look:∀ j,lk (o.foldl apStep a) j=if j<k then lk b j else lk a j
 none_:o=[]→∀ j,j<k→lk a j=lk b j
theorem lk_len (l:BL) (h:OkP l) (j:Int) (d:List UInt8) (hd:lk l j=some d):d.length=16:=by
 unfold lk at hd
 rw [Option.map_eq_some_iff] at hd
 obtain ⟨x,hx,rfl⟩:=hd
 exact (h.bd x (List.mem_of_find?_eq_some hx)).2.2
theorem ApI.push {a b:BL} {k:Int} {o:RL} {run:Bool} (h:ApI a b k o run) (ha:OkP a) (r:RE) (hr:ValidR r) (hk:r.2.1=k) (hl:lastOf r=k) (hlk:∀ l,OkP l→∀ j,lk (apStep l r) j=if j=k then lk b k else lk l j) (g:Bool) (hg:g=true→r.1=3∧r.2.1+r.2.2.1=k+1):ApI a b (k+1) (o++[r]) g:=by
 refine ⟨?_,?_,?_,?_,?_,fun e=>by simp at e⟩
 ·intro q hq
  rcases List.mem_append.1 hq with hq | hq
  ·exact h.val q hq
  ·simp at hq;subst hq;exact hr
 ·rw [List.pairwise_append]
  exact ⟨h.asc,List.pairwise_singleton _ _,fun x hx y hy=>by simp at hy;subst hy;have:=h.lst x hx;omega⟩
 ·intro q hq
  rcases List.mem_append.1 hq with hq | hq
  ·have:=h.lst q hq;omega
  ·simp at hq;subst hq;omega
 ·intro e
  exact ⟨o,r,rfl,hg e⟩
 ·intro j
  rw [List.foldl_append]
  show lk (apStep (o.foldl apStep a) r) j=_
  rw [hlk _ (ok_steps o a ha h.val) j,h.look j]
  by_cases hj:j=k
  ·subst hj;rw [if_pos rfl,if_pos (by omega)]
  ·rw [if_neg hj]
   by_cases h1:j<k
   ·rw [if_pos h1,if_pos (by omega)]
   ·rw [if_neg h1,if_neg (by omega)]
theorem ApI.step {a b:BL} {k:Int} {o:RL} {run:Bool} (h:ApI a b k o run) (ha:OkP a) (hb:OkP b) (hk:0≤k∧k<1024):ApI a b (k+1) (refStep a b k (o,run)).1 (refStep a b k (o,run)).2:=by
 unfold refStep
 simp only [hasL_lk,getL_lk]
 cases hA:lk a k with
 | none =>
  cases hB:lk b k with
  | none =>
   simp only [Option.isSome_none,Bool.not_false,Bool.and_true,Bool.false_and,Bool.false_eq_true,if_false]
   refine ⟨h.val,h.asc,fun r hr=>by have:=h.lst r hr;omega,(fun e=>by cases e),fun j=>?_,fun e j hj=>?_⟩
   ·rw [h.look j]
    by_cases hj:j=k
    ·subst hj;rw [if_neg (by omega),if_pos (by omega),hA,hB]
    ·by_cases h1:j<k
     ·rw [if_pos h1,if_pos (by omega)]
     ·rw [if_neg h1,if_neg (by omega)]
   ·by_cases h1:j=k
    ·subst h1;rw [hA,hB]
    ·exact h.none_ e j (by omega)
  | some y =>
   simp only [Option.isSome_none,Option.isSome_some,Bool.not_true,Bool.not_false,Bool.and_false,Bool.false_and,Bool.true_or,Bool.and_true,Bool.false_eq_true,if_false,if_true,Option.getD_some]
   refine h.push ha (2,k,0,y) (.inl ⟨rfl,hk.1,hk.2,lk_len b hb k y hB⟩) rfl rfl (fun l hl j=>?_) false (fun e=>by cases e)
   show lk (putL11 l k y) j=_
   rw [lk_put l hl,hB]
 | some x =>
  cases hB:lk b k with
  | none =>
   simp only [Option.isSome_none,Option.isSome_some,Bool.not_true,Bool.not_false,Bool.and_true,Bool.true_and,if_true]
   cases run with
   | false =>
    simp only [Bool.false_eq_true,if_false]
    refine h.push ha (3,k,1,[]) (.inr ⟨rfl,hk.1,hk.2,by show (1:Int)≤1;omega,by show (1:Int)≤1024-k;omega⟩) rfl (by show k+1-1=k;omega) (fun l hl j=>?_) true (fun _=>⟨rfl,rfl⟩)
    show lk (freeL l k 1) j=_
    rw [lk_free,hB]
    by_cases hj:j=k
    ·rw [if_pos (by omega),if_pos hj]
    ·rw [if_neg (by omega),if_neg hj]
   | true =>
    obtain ⟨o',r,rfl,hr3,hre⟩:=h.run_ rfl
    have hbump:bumpR (o'++[r])=o'++[(r.1,r.2.1,r.2.2.1+1,r.2.2.2)]:=by unfold bumpR;simp
    simp only [if_true,hbump]
    have hv:=h.val r (by simp)
    have hvr:0≤r.2.1∧r.2.1<1024∧1≤r.2.2.1:=by
     rcases hv with ⟨e,_⟩ | ⟨_,e1,e2,e3,_⟩
     ·omega
     ·exact ⟨e1,e2,e3⟩
    have hasc:=List.pairwise_append.1 h.asc
    refine ⟨?_,?_,?_,?_,?_,fun e=>by simp at e⟩
    ·intro q hq
     rcases List.mem_append.1 hq with hq | hq
     ·exact h.val q (List.mem_append_left _ hq)
     ·simp at hq;subst hq
      exact .inr ⟨hr3,hvr.1,hvr.2.1,by show 1≤r.2.2.1+1;omega,by show r.2.2.1+1≤1024-r.2.1;omega⟩
    ·rw [List.pairwise_append]
     exact ⟨hasc.1,List.pairwise_singleton _ _,fun x hx y hy=>by simp at hy;subst hy;exact hasc.2.2 x hx r (by simp)⟩
    ·intro q hq
     rcases List.mem_append.1 hq with hq | hq
     ·have:=h.lst q (List.mem_append_left _ hq);omega
     ·simp at hq;subst hq
      unfold lastOf
      rw [if_neg (by show ¬ r.1=2;omega)]
      show r.2.1+(r.2.2.1+1)-1<k+1
      omega
    ·intro _
     exact ⟨o',_,rfl,hr3,by show r.2.1+(r.2.2.1+1)=k+1;omega⟩
    ·intro j
     have hlook:=h.look j
     rw [List.foldl_append] at hlook ⊢
     have hlook:lk (apStep (o'.foldl apStep a) r) j=_:=hlook
     show lk (apStep (o'.foldl apStep a) _) j=_
     unfold apStep at hlook ⊢
     rw [if_neg (by omega)] at hlook
     rw [if_neg (by show ¬ r.1=2;omega)]
     rw [lk_free] at hlook ⊢
     show (if r.2.1≤j∧j<r.2.1+(r.2.2.1+1) then none else _)=_
     by_cases hj:j=k
     ·subst hj
      rw [if_pos (by omega),if_pos (by omega),hB]
     ·by_cases h1:j<k
      ·rw [if_pos h1] at hlook
       rw [if_pos (show j<k+1 by omega),← hlook]
       by_cases h2:r.2.1≤j
       ·rw [if_pos (by omega),if_pos (by omega)]
       ·rw [if_neg (by omega),if_neg (by omega)]
      ·rw [if_neg h1] at hlook
       rw [if_neg (show ¬ j<k+1 by omega),← hlook,if_neg (by omega),if_neg (by omega)]
  | some y =>
   simp only [Option.isSome_some,Bool.not_true,Bool.and_false,Bool.false_and,Bool.false_or,Bool.true_and,Bool.false_eq_true,if_false,Option.getD_some]
   by_cases hxy:x=y
   ·subst hxy
    rw [if_neg (by simp)]
    refine ⟨h.val,h.asc,fun r hr=>by have:=h.lst r hr;omega,(fun e=>by cases e),fun j=>?_,fun e j hj=>?_⟩
    ·rw [h.look j]
     by_cases hj:j=k
     ·subst hj;rw [if_neg (by omega),if_pos (by omega),hA,hB]
     ·by_cases h1:j<k
      ·rw [if_pos h1,if_pos (by omega)]
      ·rw [if_neg h1,if_neg (by omega)]
    ·by_cases h1:j=k
     ·subst h1;rw [hA,hB]
     ·exact h.none_ e j (by omega)
   ·rw [if_pos (by simpa using hxy)]
    refine h.push ha (2,k,0,y) (.inl ⟨rfl,hk.1,hk.2,lk_len b hb k y hB⟩) rfl rfl (fun l hl j=>?_) false (fun e=>by cases e)
    show lk (putL11 l k y) j=_
    rw [lk_put l hl,hB]
theorem ApI.run {a b:BL} (ha:OkP a) (hb:OkP b) (m:Nat):∀ (k:Int) (o:RL) (run:Bool),0≤k→k+m=1024→ApI a b k o run→ApI a b 1024 (runFrom a b m k (o,run)).1 (runFrom a b m k (o,run)).2:=by
 induction m with
 | zero =>
  intro k o run _ hk h
  have:k=1024:=by omega
  subst this
  exact h
 | succ m ih =>
  intro k o run h0 hk h
  have:=h.step ha hb ⟨h0,by omega⟩
  exact ih (k+1) (refStep a b k (o,run)).1 (refStep a b k (o,run)).2 (by omega) (by omega) this
end Go.Proofs.YtcgclpcocdappaaGreatDoor
namespace Go.Proofs.YtcgclpcocdappaaGreatDoor
open Go.RowKit
theorem find_paths (c:TenC) (p:BS):c.find p=firstI (fun q:BS=>q == p) (c.sets.map SetC.path):=by
 unfold TenC.find
 rw [firstI_map]
theorem find_putP (c:TenC) (p:BS) (k:Nat) (x y:SetC) (hx:c.sets[k]?=some x) (hp:y.path=x.path):(c.putS k y).find p=c.find p:=by
 rw [find_paths,find_paths]
 congr 1
 show (c.sets.set k y).map SetC.path=_
 rw [List.map_set,hp]
 have h:(c.sets.map SetC.path)[k]?=some x.path:=by rw [List.getElem?_map,hx];rfl
 obtain ⟨hk,e⟩:=List.getElem?_eq_some_iff.1 h
 rw [← e,List.set_getElem_self]
theorem putS_same (c:TenC) (k:Nat) (x:SetC) (hx:c.sets[k]?=some x):c.putS k x=c:=by
 unfold TenC.putS
 obtain ⟨hk,e⟩:=List.getElem?_eq_some_iff.1 hx
 rw [← e,List.set_getElem_self]
end Go.Proofs.YtcgclpcocdappaaGreatDoor
namespace Go.Proofs.YtcgclpcocdappaaGreatDoor
open Go.RowKit
/-- a box of which all cells are written -/
theorem box7 {zs:List Value} (cs:List Value) {W w:World} {g:Nat} (hk:Blk W g 27 zs.toArray) (hb:Below w.heap.size w W) (hg:w.heap.size≤g) (hz:zs.length=7:=by rfl) (hc:cs.length=7:=by rfl) :
  ∃ WR,WR=W.setCells g 0 cs.toArray.toList∧Hid (W.there g 0 7)∧Hid (Blk WR g 27 cs.toArray)∧Hid (Below w.heap.size w WR)∧W.grownBy WR (some g):=by
 have k4:=Blk.setCells (g:=g) cs W [] zs (by rw [hz,hc]) hk
 simp only [List.length_nil,List.nil_append] at k4
 exact ⟨_,rfl,hk.there 7 (by simp [hz]),k4,below_setCells hg cs W 0 hb,grown_cellsS g cs W 0⟩
end Go.Proofs.YtcgclpcocdappaaGreatDoor
namespace Go.Proofs.YtcgclpcocdappaaGreatDoor
def u8s (l:List Nat):Array Value:=(l.map fun (n:Nat)=>Value.int .u8 (Int.ofNat n)).toArray
def layCells (c:Array Value):Obj→Obj
 | .cells _ t frozen=>.cells c t frozen
 | o=>o
noncomputable def laidWorld (os:Os):World :=
 { World.holding Tryz.prog os ⟨#[],#[],[]⟩ with heap:=((World.holding Tryz.prog os ⟨#[],#[],[]⟩).heap.modify 2 (layCells (u8s ([128,191,160,191,128,159,144,191,128,143]++List.replicate 22 0)))).modify 1 (layCells (u8s Go.Pinned.utf8FirstZ)) }
end Go.Proofs.YtcgclpcocdappaaGreatDoor
namespace Go.Proofs.YtcgclpcocdappaaGreatDoor
open Go.RowKit
theorem putS_putS (c:TenC) (k:Nat) (a b:SetC):(c.putS k a).putS k b=c.putS k b:=by
 unfold TenC.putS
 simp only [List.set_set]
end Go.Proofs.YtcgclpcocdappaaGreatDoor
namespace Go.Proofs.YtcgclpcocdappaaGreatDoor
open Go.RowKit
/-! ### DeleteFunc -/
/-- between two rounds: what stays lies at the beginning, what has not been looked at as it was -/
structure DelI {α:Type} (p:α→Bool) (l L:List α) (i j:Nat):Prop where
 len:L.length=l.length
 le:i≤j
 jl:j≤l.length
 pre:L.take i=(l.take j).filter fun x=>!p x
 suf:L.drop j=l.drop j
theorem DelI.keep {α:Type} {p:α→Bool} {l L:List α} {i j:Nat} {x:α} (h:DelI p l L i j) (hlt:i<j) (hx:l[j]?=some x) (hp:p x=false):DelI p l (L.set i x) (i+1) (j+1):=by
 have hj:=(List.getElem?_eq_some_iff.1 hx).1
 refine ⟨by rw [List.length_set];exact h.len,by omega,by omega,?_,?_⟩
 ·rw [List.take_succ_eq_append_getElem hj,List.filter_append,← h.pre,(List.getElem?_eq_some_iff.1 hx).2]
  rw [List.take_succ_eq_append_getElem (by rw [List.length_set,h.len];omega),List.take_set_of_le (Nat.le_refl _),List.getElem_set_self]
  simp [hp]
 ·rw [List.drop_set_of_lt (by omega)]
  have:=congrArg (List.drop 1) h.suf
  simpa using this
theorem DelI.skip {α:Type} {p:α→Bool} {l L:List α} {i j:Nat} {x:α} (h:DelI p l L i j) (hx:l[j]?=some x) (hp:p x=true):DelI p l L i (j+1):=by
 have hj:=(List.getElem?_eq_some_iff.1 hx).1
 refine ⟨h.len,by have:=h.le;omega,by omega,?_,?_⟩
 ·rw [List.take_succ_eq_append_getElem hj,List.filter_append,← h.pre,(List.getElem?_eq_some_iff.1 hx).2]
  simp [hp]
 ·have:=congrArg (List.drop 1) h.suf
  simpa using this
theorem DelI.get {α:Type} {p:α→Bool} {l L:List α} {i j:Nat} {x:α} (h:DelI p l L i j) (hx:l[j]?=some x):L[j]?=some x:=by
 have:=congrArg (fun m=>m[0]?) h.suf
 simpa [hx] using this
end Go.Proofs.YtcgclpcocdappaaGreatDoor
namespace Go.Proofs.YtcgclpcocdappaaGreatDoor
open Go.RowKit
def ten0C:TenC:=⟨[],0,0,[],[],[],[]⟩
def ten0R:TenR:=⟨[],0,0,⟨none,0,0,[]⟩,⟨none,0,0,[]⟩,⟨none,0,0,[]⟩,⟨none,0,0,[]⟩⟩
theorem rd_nil {α:Type} {w:World} {B k:Nat} {enc:α→List Value}:FS.rd w B k enc ⟨none,0,0,[]⟩:=⟨rfl,Nat.le_refl _,Reads.none_⟩
/-- the content of what is told: an error's is the zero one -/
def tenOr (r:Int×TenC):TenC:=if r.1=0 then r.2 else ten0C
theorem TenPost.all {w w':World} {c:Int×TenC} {e:Ending} (h:TenPost w c e w'):∃ y:TenR,e=.returned (.tuple #[y.val,.int .i64 c.1])∧Below w.heap.size w w'∧y.rd w' w'.heap.size∧y.con=tenOr c:=by
 obtain ⟨v,rfl,hb,h⟩:=h
 unfold tenOr
 rcases h with ⟨h1,rfl⟩ | ⟨h1,y,rfl,h2,h3⟩
 ·exact ⟨ten0R,rfl,hb,⟨rd_nil,fun y hy=>(by cases hy),rd_nil,rd_nil,fun y hy=>(by cases hy),rd_nil⟩,by rw [if_neg h1];rfl⟩
 ·exact ⟨y,rfl,hb,h2.rd,by rw [if_pos h1];exact h3⟩
end Go.Proofs.YtcgclpcocdappaaGreatDoor
