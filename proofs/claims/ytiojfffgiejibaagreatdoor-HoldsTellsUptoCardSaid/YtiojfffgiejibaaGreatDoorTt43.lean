/-
  The plain law of applying a change: what is changed from one content to another one makes it that. The page's New: the root alone. names.Join. holds.All: what is held. The example of chapter 16: the page's New, and a set made.
-/
import Derived.Test.YtiojfffgiejibaaGreatDoorTtM1
import Derived.WalkKit
import Derived.WalkSpells
import Derived.Below
import Derived.Laws.OwnMore
import Derived.Deep.AppendLies
import Derived.Deep.Draws
import Derived.Laws.Rows
import Derived.Maps.AppendAt
import Derived.RegionTactic
import Derived.OwnWalk
import Derived.Deep.QuietTactic
import Derived.BigQuiet
import Derived.Lib.Hide
import Derived.Laws.CopyOwn
import Derived.IntWalk
import Derived.Test.YtiojfffgiejibaaGreatDoorRows
import Derived.Handy
import Derived.Lib.AppendZeros
import Derived.ProofKit
import Derived.Lib.Overlaps
import Derived.Lib.AppendZerosOnto
import Derived.Deep.RegionLaw
import Derived.Deep.Quiet
import Derived.OpenShut
import Derived.ShutString
import Derived.ChangeOld
import Derived.Carry
import Derived.SizedLaws
import Derived.JoinedCond
import Derived.Deep.CondSized
import Derived.Deep.Slices
import Derived.Deep.Fields
import Derived.Lib.SmallJoins
import Derived.Orders
import Derived.Lib.SplitLaws
import Derived.Lib.LastIndexByte
import Derived.Lib.Strings
import Derived.Sort.Walk0
import Derived.Sort.KeysCollected
import Derived.Deep.MidRow
import Derived.Shelf.Strings.Search1
import Derived.Shelf.Strings.Search2
import Derived.Shelf.Strings.Search3
import Derived.Shelf.Strings.Cut
import Derived.Shelf.Strings.Count
import Derived.Shelf.LaysM
import Derived.Shelf.Strings.Shaped
import Derived.Shelf.Strings.LastIndex
import Derived.Shelf.Strings.Split
import Derived.Shelf.Strings.SplitShaped
import Derived.Shelf.Unicode.Decode
import Derived.Shelf.Strings.RuneCount
import Derived.Shelf.Strings.Explode
import Derived.Shelf.Unicode.DecodeSlow
import Derived.Shelf.Slices.Turned
import Derived.Test.YtiojfffgiejibaaGreatDoorProg
import Derived.Laws.BytesString
import Derived.Laws.IdiomStrings
import Derived.Lib.ConvBytes
import Derived.Deep.DeepCutAuto
import Derived.Great.BuildSlice
import Derived.Test.YtiojfffgiejibaaGreatDoorT0
import Derived.Test.YtiojfffgiejibaaGreatDoorTt1
import Derived.Test.YtiojfffgiejibaaGreatDoorTt3
import Derived.Test.YtiojfffgiejibaaGreatDoorTt5
import Derived.Test.YtiojfffgiejibaaGreatDoorTt6
import Derived.Test.YtiojfffgiejibaaGreatDoorTt7
import Derived.Test.YtiojfffgiejibaaGreatDoorTt8
import Derived.Test.YtiojfffgiejibaaGreatDoorTt10
import Derived.Test.YtiojfffgiejibaaGreatDoorTt12
import Derived.Test.YtiojfffgiejibaaGreatDoorTt16
import Derived.Test.YtiojfffgiejibaaGreatDoorTt19
import Derived.Test.YtiojfffgiejibaaGreatDoorTt20
import Derived.Test.YtiojfffgiejibaaGreatDoorTt21
import Derived.Test.YtiojfffgiejibaaGreatDoorTt23
import Derived.Test.YtiojfffgiejibaaGreatDoorTt24
import Derived.Test.YtiojfffgiejibaaGreatDoorTt25
import Derived.Test.YtiojfffgiejibaaGreatDoorTt27
import Derived.Test.YtiojfffgiejibaaGreatDoorTt30
import Derived.Test.YtiojfffgiejibaaGreatDoorTt33
import Derived.Test.YtiojfffgiejibaaGreatDoorTt39
import Derived.Test.YtiojfffgiejibaaGreatDoorTt42
namespace Go.Proofs.YtiojfffgiejibaaGreatDoor
open Go.RowKit
def lk (l:BL) (j:Int):Option (List UInt8):=(l.find? fun x=>x.1 == j).map (·.2)
theorem hasL_lk (l:BL) (j:Int):hasL l j=(lk l j).isSome:=by
 unfold hasL lk
 induction l with
 | nil=>rfl
 | cons x r ih =>
  rw [List.any_cons,List.find?_cons]
  cases h:(x.1 == j) with
  | true=>rfl
  | false=>rw [Bool.false_or,ih]
theorem getL_lk (l:BL) (j:Int):getL l j=(lk l j).getD []:=by
 unfold getL lk
 cases l.find? (fun x=>x.1 == j) <;> rfl
theorem lk_append (a b:BL) (j:Int):lk (a++b) j=(lk a j).or (lk b j):=by
 unfold lk
 rw [List.find?_append]
 cases a.find? (fun x=>x.1 == j) <;> simp
theorem lk_cons (x:Int×List UInt8) (l:BL) (j:Int):lk (x :: l) j=if x.1=j then some x.2 else lk l j:=by
 unfold lk
 by_cases h:x.1=j
 ·rw [List.find?_cons_of_pos tZ63,if_pos h];rfl
 ·rw [List.find?_cons_of_neg tZ63,if_neg h]
theorem lk_none (l:BL) (j:Int) (h:∀ x∈l,x.1≠j):lk l j=none:=by
 unfold lk
 rw [List.find?_eq_none.2 (fun x hx=>by simpa using h x hx)]
 rfl
structure OkP (l:BL):Prop where
 pw:l.Pairwise fun x y=>x.1<y.1
 bd:∀ x∈l,0≤x.1∧x.1<1024∧x.2.length=16
theorem OkP.ext {l m:BL} (hl:OkP l) (hm:OkP m) (h:∀ j,lk l j=lk m j):l=m:=by
 induction l generalizing m with
 | nil =>
  cases m with
  | nil=>rfl
  | cons y m=>have:=h y.1;rw [lk_cons,if_pos rfl] at this;cases this
 | cons x l ih =>
  cases m with
  | nil=>have:=h x.1;rw [lk_cons,if_pos rfl] at this;cases this
  | cons y m =>
   have hx:=List.pairwise_cons.1 hl.pw
   have hy:=List.pairwise_cons.1 hm.pw
   have hxy:x.1=y.1:=by
    rcases Int.lt_trichotomy x.1 y.1 with h1 | h1 | h1
    ·have:=h x.1
     rw [lk_cons,if_pos rfl,lk_none (y :: m) x.1 (fun z hz=>by
      rcases List.mem_cons.1 hz with rfl | hz
      ·omega
      ·have:=hy.1 z hz;omega)] at this
     cases this
    ·exact h1
    ·have:=h y.1
     rw [lk_cons y,if_pos rfl,lk_none (x :: l) y.1 (fun z hz=>by
      rcases List.mem_cons.1 hz with rfl | hz
      ·omega
      ·have:=hx.1 z hz;omega)] at this
     cases this
   have h2:x.2=y.2:=by
    have:=h x.1
    rw [lk_cons,if_pos rfl,lk_cons,if_pos hxy.symm] at this
    exact Option.some.inj this
   have:l=m:=by
    refine ih ⟨hx.2,fun z hz=>hl.bd z (List.mem_cons_of_mem _ hz)⟩ ⟨hy.2,fun z hz=>hm.bd z (List.mem_cons_of_mem _ hz)⟩ (fun j=>?_)
    by_cases hj:x.1=j
    ·rw [lk_none l j (fun z hz=>by have:=hx.1 z hz;omega),lk_none m j (fun z hz=>by have:=hy.1 z hz;omega)]
    ·have:=h j
     rw [lk_cons,if_neg hj,lk_cons,if_neg tZ1] at this
     exact this
   rw [this,Prod.ext hxy h2]
/-! ### put, free -/
theorem atF_at' (l:BL) (i:Int) (x:Int×List UInt8) (hx:l[posF (cfB i) l]?=some x):atF (cfB i) l=(x.1 == i):=by
 unfold atF
 rw [hx]
 show (cmpI x.1 i == 0)=_
 rw [Bool.eq_iff_iff]
 simp [cmpI_zero]
theorem posF_parts (l:BL) (h:OkP l) (i:Int):(∀ x∈l.take (posF (cfB i) l),x.1<i)∧(∀ x∈l.drop (posF (cfB i) l+if atF (cfB i) l=true then 1 else 0),i<x.1)∧(∀ j,j≠i→lk l j=(lk (l.take (posF (cfB i) l)) j).or (lk (l.drop (posF (cfB i) l+if atF (cfB i) l=true then 1 else 0)) j)):=by
 have h1:l.take (posF (cfB i) l)=l.takeWhile fun x=>decide (cfB i x<0):=(List.prefix_iff_eq_take.1 (List.takeWhile_prefix _)).symm
 have hlt:∀ x∈l.take (posF (cfB i) l),x.1<i:=by
  intro x hx
  rw [h1] at hx
  have:∀ (l:BL),x∈l.takeWhile (fun x=>decide (cfB i x<0))→x.1<i:=by
   intro l
   induction l with
   | nil=>intro h;cases h
   | cons y r ih =>
    intro h
    by_cases hy:cfB i y<0
    ·rw [List.takeWhile_cons_of_pos (by simpa using hy)] at h
     rcases List.mem_cons.1 h with rfl | h
     ·exact (cmpI_neg _ _).1 hy
     ·exact ih h
    ·rw [List.takeWhile_cons_of_neg (by simpa using hy)] at h;cases h
  exact this l hx
 have hpl:=posF_le (cfB i) l
 have hsplit:=List.take_append_drop (posF (cfB i) l) l
 refine ⟨hlt,?_,?_⟩
 all_goals
  by_cases hp:posF (cfB i) l<l.length
  ·obtain ⟨x,hx⟩:∃ x,l[posF (cfB i) l]?=some x:=⟨_,List.getElem?_eq_getElem hp⟩
   have hdrop:l.drop (posF (cfB i) l)=x :: l.drop (posF (cfB i) l+1):=by
    rw [List.drop_eq_getElem_cons hp,(List.getElem?_eq_some_iff.1 hx).2]
   have hge:i≤x.1:=by
    rcases Int.lt_or_le x.1 i with hl | hl
    ·exfalso
     have h2:l.takeWhile (fun x=>decide (cfB i x<0))++l.dropWhile (fun x=>decide (cfB i x<0))=l:=List.takeWhile_append_dropWhile
     rw [← h1] at h2
     have h3:l.dropWhile (fun x=>decide (cfB i x<0))=l.drop (posF (cfB i) l):=List.append_cancel_left (h2.trans hsplit.symm)
     rw [hdrop] at h3
     have h5:=List.head_dropWhile_not (fun x=>decide (cfB i x<0)) (l:=l) (by rw [h3];simp)
     simp only [h3,List.head_cons,decide_eq_false_iff_not] at h5
     exact h5 ((cmpI_neg _ _).2 hl)
    ·exact hl
   have hat:atF (cfB i) l=(x.1 == i):=atF_at' l i x hx
   have hpw:(x :: l.drop (posF (cfB i) l+1)).Pairwise fun x y=>x.1<y.1:=by
    rw [← hdrop]
    exact h.pw.sublist (List.drop_sublist _ _)
   have hpw:=List.pairwise_cons.1 hpw
   by_cases hxi:x.1=i
   ·rw [hat,if_pos (by simpa using hxi)]
    first
     | (intro y hy;have:=hpw.1 y hy;omega)
     | (
       intro j hj
       conv=>lhs;rw [← hsplit]
       rw [lk_append,hdrop,lk_cons,if_neg tZ1])
   ·rw [hat,if_neg (by simpa using hxi)]
    first
     | (
       intro y hy
       rw [Nat.add_zero,hdrop] at hy
       rcases List.mem_cons.1 hy with rfl | hy
       ·omega
       ·have:=hpw.1 y hy;omega)
     | (
       intro j hj
       conv=>lhs;rw [← hsplit]
       rw [lk_append,Nat.add_zero])
  ·have hd:∀ q,posF (cfB i) l≤q→l.drop q=[]:=fun q hq=>List.drop_eq_nil_of_le tZ1
   first
    | (intro y hy;rw [hd _ tZ1] at hy;cases hy)
    | (
      intro j hj
      conv=>lhs;rw [← hsplit]
      rw [lk_append,hd _ (Nat.le_refl _),hd _ tZ1])
theorem lk_put (l:BL) (h:OkP l) (i j:Int) (d:List UInt8):lk (putL11 l i d) j=if j=i then some d else lk l j:=by
 obtain ⟨h1,h2,h3⟩:=posF_parts l h i
 unfold putL11
 rw [lk_append,lk_append,lk_cons]
 by_cases hj:j=i
 ·subst hj
  rw [if_pos rfl,if_pos rfl,lk_none _ j (fun x hx=>by have:=h1 x hx;omega)]
  rfl
 ·rw [if_neg hj,if_neg (fun e=>hj e.symm),h3 j hj]
  show ((lk _ j).or none).or _=_
  rw [Option.or_none]
theorem ok_put (l:BL) (h:OkP l) (i:Int) (d:List UInt8) (hi:0≤i∧i<1024) (hd:d.length=16):OkP (putL11 l i d):=by
 obtain ⟨h1,h2,_⟩:=posF_parts l h i
 unfold putL11
 refine ⟨?_,?_⟩
 ·rw [List.pairwise_append,List.pairwise_append]
  refine ⟨⟨h.pw.sublist (List.take_sublist _ _),List.pairwise_singleton _ _,fun x hx y hy=>by simp at hy;subst hy;exact h1 x hx⟩,h.pw.sublist (List.drop_sublist _ _),fun x hx y hy=>?_⟩
  have:=h2 y hy
  rcases List.mem_append.1 hx with hx | hx
  ·have:=h1 x hx;omega
  ·simp at hx;subst hx;exact this
 ·intro x hx
  rcases List.mem_append.1 hx with hx | hx
  ·rcases List.mem_append.1 hx with hx | hx
   ·exact h.bd x (List.mem_of_mem_take hx)
   ·simp at hx;subst hx;exact ⟨hi.1,hi.2,hd⟩
  ·exact h.bd x (List.mem_of_mem_drop hx)
theorem ok_free (l:BL) (h:OkP l) (i c:Int):OkP (freeL l i c):=⟨h.pw.sublist List.filter_sublist,fun x hx=>h.bd x (List.mem_filter.1 hx).1⟩
theorem lk_free (l:BL) (i c j:Int):lk (freeL l i c) j=if i≤j∧j<i+c then none else lk l j:=by
 unfold freeL
 induction l with
 | nil=>simp [lk]
 | cons x r ih =>
  by_cases hx:inB i c x=true
  ·rw [List.filter_cons_of_neg (by simp [hx]),ih,lk_cons]
   unfold inB at hx
   simp only [Bool.and_eq_true,decide_eq_true_eq] at hx
   by_cases hj:x.1=j
   ·rw [if_pos tZ1,if_pos tZ1]
   ·rw [if_neg hj]
  ·rw [List.filter_cons_of_pos tZ45,lk_cons,ih,lk_cons]
   unfold inB at hx
   simp only [Bool.and_eq_true,decide_eq_true_eq] at hx
   by_cases hj:x.1=j
   ·rw [if_pos hj,if_pos hj,if_neg tZ1]
   ·rw [if_neg hj,if_neg hj]
/-! ### applying -/
abbrev RE:=Int×Int×Int×List UInt8
def apStep (l:BL) (r:RE):BL:=if r.1=2 then putL11 l r.2.1 r.2.2.2 else freeL l r.2.1 r.2.2.1
def lastOf (r:RE):Int:=if r.1=2 then r.2.1 else r.2.1+r.2.2.1-1
def ValidR (r:RE):Prop:=(r.1=2∧0≤r.2.1∧r.2.1<1024∧r.2.2.2.length=16)∨(r.1=3∧0≤r.2.1∧r.2.1<1024∧1≤r.2.2.1∧r.2.2.1≤1024-r.2.1)
theorem ok_step (l:BL) (h:OkP l) (r:RE) (hr:ValidR r):OkP (apStep l r):=by
 unfold apStep
 rcases hr with ⟨h1,h2,h3,h4⟩ | ⟨h1,_⟩
 ·rw [if_pos h1];exact ok_put l h _ _ ⟨h2,h3⟩ h4
 ·rw [if_neg tZ1];exact ok_free l h _ _
theorem ok_steps (o:RL) (l:BL) (h:OkP l) (ho:∀ r∈o,ValidR r):OkP (o.foldl apStep l):=by
 induction o generalizing l with
 | nil=>exact h
 | cons r o ih=>exact ih (apStep l r) (ok_step l h r (ho r tZ4)) (fun q hq=>ho q (List.mem_cons_of_mem _ hq))
/-- what stands when the indexes below k have been looked at -/
structure ApI (a b:BL) (k:Int) (o:RL) (run:Bool):Prop where
 val:∀ r∈o,ValidR r
 asc:o.Pairwise fun r q=>lastOf r<q.2.1
 lst:∀ r∈o,lastOf r<k
 run_:run=true→∃ o' r,o=o'++[r]∧r.1=3∧r.2.1+r.2.2.1=k
 look:∀ j,lk (o.foldl apStep a) j=if j<k then lk b j else lk a j
 none_:o=[]→∀ j,j<k→lk a j=lk b j
theorem lk_len (l:BL) (h:OkP l) (j:Int) (d:List UInt8) (hd:lk l j=some d):d.length=16:=by
 unfold lk at hd
 rw [Option.map_eq_some_iff] at hd
 obtain ⟨x,hx,rfl⟩:=hd
 exact (h.bd x (List.mem_of_find?_eq_some hx)).2.2
theorem ApI.push {a b:BL} {k:Int} {o:RL} {run:Bool} (h:ApI a b k o run) (ha:OkP a) (r:RE) (hr:ValidR r) (hk:r.2.1=k) (hl:lastOf r=k) (hlk:∀ l,OkP l→∀ j,lk (apStep l r) j=if j=k then lk b k else lk l j) (g:Bool) (hg:g=true→r.1=3∧r.2.1+r.2.2.1=k+1):ApI a b (k+1) (o++[r]) g:=by
 refine ⟨?_,?_,?_,?_,?_,fun e=>by simp at e⟩
 ·intro q hq
  rcases List.mem_append.1 hq with hq | hq
  ·exact h.val q hq
  ·simp at hq;subst hq;exact hr
 ·rw [List.pairwise_append]
  exact ⟨h.asc,List.pairwise_singleton _ _,fun x hx y hy=>by simp at hy;subst hy;have:=h.lst x hx;omega⟩
 ·intro q hq
  rcases List.mem_append.1 hq with hq | hq
  ·have:=h.lst q hq;omega
  ·simp at hq;subst hq;omega
 ·intro e
  exact ⟨o,r,rfl,hg e⟩
 ·intro j
  rw [List.foldl_append]
  show lk (apStep (o.foldl apStep a) r) j=_
  rw [hlk _ (ok_steps o a ha h.val) j,h.look j]
  by_cases hj:j=k
  ·subst hj;rw [if_pos rfl,if_pos tZ1]
  ·rw [if_neg hj]
   exact mZ211
theorem ApI.step {a b:BL} {k:Int} {o:RL} {run:Bool} (h:ApI a b k o run) (ha:OkP a) (hb:OkP b) (hk:0≤k∧k<1024):ApI a b (k+1) (refStep a b k (o,run)).1 (refStep a b k (o,run)).2:=by
 unfold refStep
 simp only [hasL_lk,getL_lk]
 cases hA:lk a k with
 | none =>
  cases hB:lk b k with
  | none =>
   simp only [Option.isSome_none,Bool.not_false,Bool.and_true,Bool.false_and,Bool.false_eq_true,if_false]
   exact mZ212
  | some y =>
   simp only [Option.isSome_none,Option.isSome_some,Bool.not_true,Bool.not_false,Bool.and_false,Bool.false_and,Bool.true_or,Bool.and_true,Bool.false_eq_true,if_false,if_true,Option.getD_some]
   exact mZ213
 | some x =>
  cases hB:lk b k with
  | none =>
   simp only [Option.isSome_none,Option.isSome_some,Bool.not_true,Bool.not_false,Bool.and_true,Bool.true_and,if_true]
   cases run with
   | false =>
    simp only [Bool.false_eq_true,if_false]
    refine h.push ha (3,k,1,[]) (.inr ⟨rfl,hk.1,hk.2,by show (1:Int)≤1;omega,by show (1:Int)≤1024-k;omega⟩) rfl (by show k+1-1=k;omega) (fun l hl j=>?_) true (fun _=>⟨rfl,rfl⟩)
    show lk (freeL l k 1) j=_
    rw [lk_free,hB]
    by_cases hj:j=k
    ·rw [if_pos tZ1,if_pos hj]
    ·rw [if_neg tZ1,if_neg hj]
   | true =>
    obtain ⟨o',r,rfl,hr3,hre⟩:=h.run_ rfl
    have hbump:bumpR (o'++[r])=o'++[(r.1,r.2.1,r.2.2.1+1,r.2.2.2)]:=by unfold bumpR;simp
    simp only [if_true,hbump]
    have hv:=h.val r tZ4
    have hvr:0≤r.2.1∧r.2.1<1024∧1≤r.2.2.1:=by
     rcases hv with ⟨e,_⟩ | ⟨_,e1,e2,e3,_⟩
     ·omega
     ·exact ⟨e1,e2,e3⟩
    have hasc:=List.pairwise_append.1 h.asc
    refine ⟨?_,?_,?_,?_,?_,fun e=>by simp at e⟩
    ·intro q hq
     rcases List.mem_append.1 hq with hq | hq
     ·exact h.val q (List.mem_append_left _ hq)
     ·simp at hq;subst hq
      exact .inr ⟨hr3,hvr.1,hvr.2.1,by show 1≤r.2.2.1+1;omega,by show r.2.2.1+1≤1024-r.2.1;omega⟩
    ·rw [List.pairwise_append]
     exact ⟨hasc.1,List.pairwise_singleton _ _,fun x hx y hy=>by simp at hy;subst hy;exact hasc.2.2 x hx r tZ4⟩
    ·intro q hq
     rcases List.mem_append.1 hq with hq | hq
     ·have:=h.lst q (List.mem_append_left _ hq);omega
     ·simp at hq;subst hq
      unfold lastOf
      rw [if_neg (by show ¬ r.1=2;omega)]
      show r.2.1+(r.2.2.1+1)-1<k+1
      omega
    ·intro _
     exact ⟨o',_,rfl,hr3,by show r.2.1+(r.2.2.1+1)=k+1;omega⟩
    ·intro j
     have hlook:=h.look j
     rw [List.foldl_append] at hlook ⊢
     have hlook:lk (apStep (o'.foldl apStep a) r) j=_:=hlook
     show lk (apStep (o'.foldl apStep a) _) j=_
     unfold apStep at hlook ⊢
     rw [if_neg tZ1] at hlook
     rw [if_neg (by show ¬ r.1=2;omega)]
     rw [lk_free] at hlook ⊢
     show (if r.2.1≤j∧j<r.2.1+(r.2.2.1+1) then none else _)=_
     by_cases hj:j=k
     ·subst hj
      rw [if_pos tZ1,if_pos tZ1,hB]
     ·by_cases h1:j<k
      ·rw [if_pos h1] at hlook
       rw [if_pos (show j<k+1 by omega),← hlook]
       by_cases h2:r.2.1≤j
       ·rw [if_pos tZ1,if_pos tZ1]
       ·rw [if_neg tZ1,if_neg tZ1]
      ·rw [if_neg h1] at hlook
       rw [if_neg (show ¬ j<k+1 by omega),← hlook,if_neg tZ1,if_neg tZ1]
  | some y =>
   simp only [Option.isSome_some,Bool.not_true,Bool.and_false,Bool.false_and,Bool.false_or,Bool.true_and,Bool.false_eq_true,if_false,Option.getD_some]
   by_cases hxy:x=y
   ·subst hxy
    rw [if_neg tZ4]
    exact mZ212
   ·rw [if_pos tZ93]
    exact mZ213
theorem ApI.run {a b:BL} (ha:OkP a) (hb:OkP b) (m:Nat):∀ (k:Int) (o:RL) (run:Bool),0≤k→k+m=1024→ApI a b k o run→ApI a b 1024 (runFrom a b m k (o,run)).1 (runFrom a b m k (o,run)).2:=by
 induction m with
 | zero =>
  intro k o run _ hk h
  have:k=1024:=tZ1
  subst this
  exact h
 | succ m ih =>
  intro k o run h0 hk h
  have:=h.step ha hb ⟨h0,by omega⟩
  exact ih (k+1) (refStep a b k (o,run)).1 (refStep a b k (o,run)).2 tZ1 tZ1 this
end Go.Proofs.YtiojfffgiejibaaGreatDoor
namespace Go.Proofs.YtiojfffgiejibaaGreatDoor
open Go.RowKit
def new0C (q:Int):TenC:=⟨[116],q,1,[set0C []],[],[],[]⟩
set_option maxRecDepth 100000 in
set_option maxHeartbeats 2000000 in
theorem rnew_any (q:Int) (h0:0<q) (h1:q≤1099511627776) (w:World) :
  Calls Tryz.prog 65 #[.string ⟨#[116]⟩,.int .i64 q] w fun e w'=>∃ y:TenR,e=.returned (.tuple #[y.val,.int .i64 0])∧TenO w' w.heap.size y∧y.con=new0C q∧Below w.heap.size w w':=by
 have hb:=((Below.refl w.heap.size w).alloc (Nat.le_refl _) (.cells #[.string ⟨#[]⟩,.int .i64 0,.int .i64 0,.slice none 0 0,.slice none 0 0,.slice none 0 0,.slice none 0 0] 27))
 have kz:=Blk.new w 27 #[.string ⟨#[]⟩,.int .i64 0,.int .i64 0,.slice none 0 0,.slice none 0 0,.slice none 0 0,.slice none 0 0]
 have hsz:(w.alloc (.cells #[.string ⟨#[]⟩,.int .i64 0,.int .i64 0,.slice none 0 0,.slice none 0 0,.slice none 0 0,.slice none 0 0] 27)).heap.size=w.heap.size+1:=tZ4
 obtain ⟨W1,hW1⟩:∃ W,W=(w.alloc (.cells #[.string ⟨#[]⟩,.int .i64 0,.int .i64 0,.slice none 0 0,.slice none 0 0,.slice none 0 0,.slice none 0 0] 27)):=⟨_,rfl⟩
 rw [← hW1] at hb hsz kz
 have hKz:Hid (∀ W,Below W1.heap.size W1 W→Blk W w.heap.size 27 #[.string ⟨#[]⟩,.int .i64 0,.int .i64 0,.slice none 0 0,.slice none 0 0,.slice none 0 0,.slice none 0 0]):=fun W h=>kz.below h tZ1
 have hBW:Hid (∀ W,Below W1.heap.size W1 W→Below w.heap.size w W):=fun W h=>hb.trans (h.mono tZ1)
 have hSZ:Hid (∀ W,Below W1.heap.size W1 W→w.heap.size+1≤W.heap.size):=fun W h=>by have:=h.size;omega
 have hW0:Hid (Below W1.heap.size W1 W1):=Below.refl _ _
 have hNM:Hid (∀ W,Below W1.heap.size W1 W→Calls Tryz.prog 79 #[.string ⟨#[116]⟩] W fun e w'=>e=.returned (.bool true)∧Below W.heap.size W w'):=fun W _=>by
  have h:=refNameB_any [116] W tZ3
  rw [show nameB [116]=true by decide +kernel] at h
  exact h
 have hAM:Hid (∀ W,Below W1.heap.size W1 W→Calls Tryz.prog 113 #[.int .i64 q,.int .i64 0] W fun e w'=>e=.returned (.bool true)∧Below W.heap.size W w'):=fun W _=>by
  have h:=refAmountB_any q 0 W
  rw [show amt q 0=true by unfold amt;simp;omega] at h
  exact h
 have hq0:¬ q=0:=tZ1
 clear hb hsz kz
 go_enter Tryz.func65,Tryz.ntmps65
 have hc:=hNM.out  W1 hW0.out
 go_wp2_with fail
 rw [← hW1]
 clear hW1
 refine hc.mono ?_
 clear hc
 rintro e w2 ⟨rfl,hb⟩
 have HW2:=Lib.hid (hW0.out.trans (hb.mono hW0.out.size))
 clear hb
 have hc:=hAM.out  w2 HW2.out
 go_wp2_with fail
 refine hc.mono ?_
 clear hc
 rintro e w3 ⟨rfl,hb⟩
 have HW3:=Lib.hid (HW2.out.trans (hb.mono HW2.out.size))
 clear hb
 have kz:=(hKz.out w3 HW3.out).alloc (.cells #[.string ⟨#[]⟩,.string ⟨#[]⟩,.slice none 0 0,.slice none 0 0,.slice none 0 0] 56)
 have kr:=Blk.new w3 56 #[.string ⟨#[]⟩,.string ⟨#[]⟩,.slice none 0 0,.slice none 0 0,.slice none 0 0]
 have hb:=(hBW.out w3 HW3.out).alloc (by have:=hSZ.out w3 HW3.out;omega) (.cells #[.string ⟨#[]⟩,.string ⟨#[]⟩,.slice none 0 0,.slice none 0 0,.slice none 0 0] 56)
 have hszr:(w3.alloc (.cells #[.string ⟨#[]⟩,.string ⟨#[]⟩,.slice none 0 0,.slice none 0 0,.slice none 0 0] 56)).heap.size=w3.heap.size+1:=tZ4
 obtain ⟨W4,hW4'⟩:∃ W,W=w3.alloc (.cells #[.string ⟨#[]⟩,.string ⟨#[]⟩,.slice none 0 0,.slice none 0 0,.slice none 0 0] 56):=⟨_,rfl⟩
 rw [← hW4'] at kz kr hb hszr
 have KZ:=Lib.hid kz
 have HB:=Lib.hid hb
 have HSZ3:=Lib.hid (show w.heap.size+1≤w3.heap.size∧W4.heap.size=w3.heap.size+1 by have:=hSZ.out w3 HW3.out;omega)
 have HO:Hid (TenO W4 w.heap.size ⟨[116],q,1,⟨some ⟨w3.heap.size,0,none⟩,1,1,[⟨[],[],⟨none,0,0,[]⟩,⟨none,0,0,[]⟩,⟨none,0,0,[]⟩⟩]⟩,⟨none,0,0,[]⟩,⟨none,0,0,[]⟩,⟨none,0,0,[]⟩⟩):=by
  show TenO _ _ _
  refine ⟨⟨rfl,own_of_row (cap:=1) (cur:=[.string ⟨#[]⟩,.string ⟨#[]⟩,.slice none 0 0,.slice none 0 0,.slice none 0 0]) kr (by have:=HSZ3.out;omega) (Nat.le_refl _) tZ3 rfl rfl⟩,fun y hy=>?_,⟨rfl,rfl,.inl ⟨rfl,rfl⟩⟩,⟨rfl,rfl,.inl ⟨rfl,rfl⟩⟩,fun y hy=>absurd hy tZ4,⟨rfl,rfl,.inl ⟨rfl,rfl⟩⟩⟩
  rw [List.mem_singleton] at hy
  subst hy
  exact ⟨⟨rfl,rfl,.inl ⟨rfl,rfl⟩⟩,⟨rfl,rfl,.inl ⟨rfl,rfl⟩⟩,fun y hy=>absurd hy tZ4,⟨rfl,rfl,.inl ⟨rfl,rfl⟩⟩⟩
 clear kz kr hb hszr
 go_upto_region 7 with (fail)
 obtain ⟨WR,hW4,hth,HL,HBW,hgw⟩:=res7 (g:=w.heap.size) [.string ⟨#[116]⟩,.int .i64 q,.int .i64 1,.slice (some ⟨w3.heap.size,0,none⟩) 1 1,.slice none 0 0,.slice none 0 0,.slice none 0 0] KZ.out HB.out tZ1
 have HOO:=Lib.hid (TenO.keptT HO.out hgw KZ.out offT_ten)
 clear hgw
 go_wp2_with ((try rw [← hW4']);refine wpList_store_mid rfl 27 (.tmp 4) (.tmp 24) rfl (w.heap.size) 0 #[.string ⟨#[116]⟩,.int .i64 q,.int .i64 1,.slice (some ⟨w3.heap.size,0,none⟩) 1 1,.slice none 0 0,.slice none 0 0,.slice none 0 0] rfl rfl hth.out tZ2 tZ5 ?_;rw [← hW4];clear hW4)
 exact bodyPost_ret (v:=.tuple #[.agg #[.string ⟨#[116]⟩,.int .i64 q,.int .i64 1,.slice (some ⟨w3.heap.size,0,none⟩) 1 1,.slice none 0 0,.slice none 0 0,.slice none 0 0],.int .i64 0]) (results_cell_tmp rfl rfl HL.out) rfl ⟨⟨[116],q,1,⟨some ⟨w3.heap.size,0,none⟩,1,1,[⟨[],[],⟨none,0,0,[]⟩,⟨none,0,0,[]⟩,⟨none,0,0,[]⟩⟩]⟩,⟨none,0,0,[]⟩,⟨none,0,0,[]⟩,⟨none,0,0,[]⟩⟩,rfl,HOO.out,rfl,HBW.out⟩
end Go.Proofs.YtiojfffgiejibaaGreatDoor
namespace Go.Proofs.YtiojfffgiejibaaGreatDoor
open Go.RowKit
set_option maxRecDepth 100000 in
theorem join_any (s n:ByteArray) (w:World) (hs:s.size≤4000000000000000000) (hn:n.size≤4000000000000000000) :
  Calls Tryz.prog 73 #[.string s,.string n] w fun e w'=>e=.returned (.string ⟨(s.data.toList++64 :: n.data.toList).toArray⟩)∧w'=w:=by
 go_enter Tryz.func73,Tryz.ntmps73
 go_wp2_with fail
 go_ret
 refine ⟨congrArg Ending.returned (congrArg Value.string (eq_mk _ _ ?_)),rfl⟩
 rw [append_data,append_data,List.append_assoc]
 rfl
end Go.Proofs.YtiojfffgiejibaaGreatDoor
namespace Go.Proofs.YtiojfffgiejibaaGreatDoor
open Go.RowKit
def heldL (pa:BS) (l:List SnapR):List BS:=(l.filter fun x=>decide (0<x.tags.n)).map fun x=>pa++64 :: x.nm
def allH (l:List SetR):List BS:=l.flatMap fun s=>heldL s.path s.snaps.l
theorem allH_succ (l:List SetR) (k:Nat) (h:k<l.length):allH (l.take (k+1))=allH (l.take k)++heldL (l[k]'h).path (l[k]'h).snaps.l:=by
 unfold allH
 rw [List.take_add_one,List.getElem?_eq_getElem h,Option.toList_some,List.flatMap_append]
 simp
theorem heldL_succ (pa:BS) (l:List SnapR) (k:Nat) (h:k<l.length):heldL pa (l.take (k+1))=heldL pa (l.take k)++(if 0<(l[k]'h).tags.n then [pa++64 :: (l[k]'h).nm] else []):=by
 unfold heldL
 rw [List.take_add_one,List.getElem?_eq_getElem h,Option.toList_some,List.filter_append,List.map_append]
 congr 1
 by_cases hc:0<(l[k]'h).tags.n <;> simp [hc]
theorem heldL_le (pa:BS) (l:List SnapR) (k:Nat):(heldL pa (l.take k)).length≤(heldL pa l).length:=by
 conv=>rhs;rw [← List.take_append_drop k l]
 unfold heldL
 rw [List.filter_append,List.map_append,List.length_append]
 omega
theorem allH_le (l:List SetR) (k:Nat):(allH (l.take k)).length≤(allH l).length:=by
 conv=>rhs;rw [← List.take_append_drop k l]
 unfold allH
 rw [List.flatMap_append,List.length_append]
 omega
theorem Tryz.allStr_info:(Tryz.prog.info? 9).map (fun i=>(i.zero,i.size,i.bytes))=some (some (.string ByteArray.empty),1,16):=tZ2
set_option maxRecDepth 100000 in
set_option maxHeartbeats 4000000 in
theorem all_any (t:TenR) (w:World) (B:Nat) (hB:B≤w.heap.size) (hr:t.rd w B) (hz:t.sz) (htot:(allH t.sets.l).length≤2000000000000) :
  Calls Tryz.prog 37 #[t.val] w fun e w'=>∃ A c,e=.returned (.slice A (allH t.sets.l).length c)∧w'.ownsRow w.heap.size 9 1 (.slice A (allH t.sets.l).length c) (allH t.sets.l).length (scells (allH t.sets.l))∧Below w.heap.size w w':=by
 obtain ⟨nm,qu,nx,⟨s1,sn,s3,sl⟩,⟨g1,gn,g3,gl⟩,⟨t1,tn,t3,tl⟩,⟨l1,ln,l3,ll⟩⟩:=t
 show Calls Tryz.prog 37 #[.agg #[.string ⟨nm.toArray⟩,.int .i64 qu,.int .i64 nx,.slice s1 sn s3,.slice g1 gn g3,.slice t1 tn t3,.slice l1 ln l3]] w fun e w'=>∃ A c,e=.returned (.slice A (allH sl).length c)∧w'.ownsRow w.heap.size 9 1 (.slice A (allH sl).length c) (allH sl).length (scells (allH sl))∧Below w.heap.size w w'
 have htot:(allH sl).length≤2000000000000:=htot
 obtain ⟨i0,hi0,hz0,hz1,hz2⟩:=info_parts Tryz.allStr_info
 have hb1:=(Below.refl w.heap.size w).alloc (Nat.le_refl _) (.cells #[.string ⟨nm.toArray⟩,.int .i64 qu,.int .i64 nx,.slice s1 sn s3,.slice g1 gn g3,.slice t1 tn t3,.slice l1 ln l3] 27)
 have c3:=(Blk.new w 27 #[.string ⟨nm.toArray⟩,.int .i64 qu,.int .i64 nx,.slice s1 sn s3,.slice g1 gn g3,.slice t1 tn t3,.slice l1 ln l3]).cell 3
 simp only [zF,zD,zE] at c3
 obtain ⟨W1,hW1⟩:∃ W,W=w.alloc (.cells #[.string ⟨nm.toArray⟩,.int .i64 qu,.int .i64 nx,.slice s1 sn s3,.slice g1 gn g3,.slice t1 tn t3,.slice l1 ln l3] 27):=⟨_,rfl⟩
 have hsz1:W1.heap.size=w.heap.size+1:=tZ35
 rw [← hW1] at hb1 c3
 have HSN:=Lib.hid (show sn=sl.length from hr.sets.1)
 have HR:Hid (∀ W,Below W1.heap.size W1 W→TenR.rd W B ⟨nm,qu,nx,⟨s1,sn,s3,sl⟩,⟨g1,gn,g3,gl⟩,⟨t1,tn,t3,tl⟩,⟨l1,ln,l3,ll⟩⟩):=fun W h=>TenR.rd.below hr ((hb1.trans (h.mono tZ1)).mono hB)
 have HZ:=Lib.hid hz
 have HB1:=Lib.hid hb1
 have HSZ1:=Lib.hid hsz1
 have HTOT:=Lib.hid htot
 have hsn:sn≤1000000000000:=hz.sets
 clear hb1 hsz1 hr hz htot
 go_enter Tryz.func37,Tryz.ntmps37
 go_wp2_with fail
 rw [← hW1]
 clear hW1
 go_loopw [3,11] (fun o j wr=>∃ (k m:Nat) (A:Option Addr) (c:Nat),k≤sn∧j=.int .i64 (k:Int)∧o=.slice A m c∧Hid (m=(allH (sl.take k)).length)∧Hid (wr.ownsRow W1.heap.size 9 1 (.slice A m c) m (scells (allH (sl.take k))))∧Hid (Below W1.heap.size W1 wr)) (fun _ j _=>sn-(intOf j).toNat)
 case atStart=>exact ⟨0,0,none,0,Nat.zero_le _,rfl,rfl,rfl,World.ownsRow_nil _ _ _ _,Below.refl _ _⟩
 case round =>
  clear c3
  obtain ⟨wo,hwo⟩:∃ W,W=wr:=⟨_,rfl⟩
  subst hwo
  obtain ⟨k,m,A,c,hk,rfl,rfl,HM,HO,HB⟩:=hrel
  by_cases hlt:k<sn
  ·have hki:(k:Int)<(sn:Int):=tZ1
   have hkl:k<sl.length:=tZ55
   obtain ⟨ad,hsa,-,p0,p1,p2,p3,p4⟩:=set_at (HR.out wo HB.out).sets.2.2 HSN.out hlt
   simp only at hsa
   subst hsa
   have HS:=Lib.hid (allH_succ sl k hkl)
   have HLE:=Lib.hid (allH_le sl (k+1))
   have hzx:=HZ.out.eachS _ (List.getElem_mem hkl)
   have HX:Hid (∀ W,Below W1.heap.size W1 W→(sl[k]'hkl).rd W B):=fun W h=>(HR.out W h).eachS _ (List.getElem_mem hkl)
   obtain ⟨x,hx⟩:∃ x,x=sl[k]'hkl:=⟨_,rfl⟩
   simp only at p0 p1 p2 p3 p4
   rw [← hx] at p0 p1 p2 p3 p4 HS hzx HX
   clear hx
   obtain ⟨pa,og,⟨bA,bn,bc,bl⟩,⟨zA,zn,zc,zl⟩,⟨oA,on,oc,ol⟩⟩:=x
   simp only at p0 p1 p2 p3 p4 HS
   have hzn:zn≤1000000000000:=hzx.snaps
   have hpl:pa.length≤4000000000:=hzx.path
   have HZX:=Lib.hid hzx
   have HZN:Hid (zn=zl.length):=(HX.out wo HB.out).snaps.1
   have kx:=Blk.new wo 56 #[.string ⟨pa.toArray⟩,.string ⟨og.toArray⟩,.slice bA bn bc,.slice zA zn zc,.slice oA on oc]
   have hba:=HB.out.alloc HB.out.size (.cells #[.string ⟨pa.toArray⟩,.string ⟨og.toArray⟩,.slice bA bn bc,.slice zA zn zc,.slice oA on oc] 56)
   have HOA:=Lib.hid (own_below HO.out ((Below.refl wo.heap.size wo).alloc (Nat.le_refl _) (.cells #[.string ⟨pa.toArray⟩,.string ⟨og.toArray⟩,.slice bA bn bc,.slice zA zn zc,.slice oA on oc] 56)))
   obtain ⟨W2,hW2⟩:∃ W,W=wo.alloc (.cells #[.string ⟨pa.toArray⟩,.string ⟨og.toArray⟩,.slice bA bn bc,.slice zA zn zc,.slice oA on oc] 56):=⟨_,rfl⟩
   have hs2:W2.heap.size=wo.heap.size+1:=tZ34
   have c3:=kx.cell 3
   simp only [zF,zD,zE] at c3
   rw [← hW2] at kx hba HOA
   have KX:=Lib.hid kx
   have HBA:=Lib.hid hba
   have HS2:=Lib.hid hs2
   clear kx hba hzx HO hs2
   go_wp2_with fail
   rw [← hW2]
   clear hW2 c3 p0 p1 p2 p3 p4
   go_loopw [3,18] (fun o j wr=>∃ (q m2:Nat) (A2:Option Addr) (c2:Nat),q≤zn∧j=.int .i64 (q:Int)∧o=.slice A2 m2 c2∧Hid (m2=(allH (sl.take k)++heldL pa (zl.take q)).length)∧Hid (wr.ownsRow W1.heap.size 9 1 (.slice A2 m2 c2) m2 (scells (allH (sl.take k)++heldL pa (zl.take q))))∧Hid (Blk wr wo.heap.size 56 #[.string ⟨pa.toArray⟩,.string ⟨og.toArray⟩,.slice bA bn bc,.slice zA zn zc,.slice oA on oc])∧Hid (Below W1.heap.size W1 wr)) (fun _ j _=>zn-(intOf j).toNat)
   case atStart=>exact ⟨0,m,A,c,Nat.zero_le _,rfl,rfl,by show _=_;rw [HM.out];simp [heldL],by show World.ownsRow _ _ _ _ _ _ _;simpa [heldL] using HOA.out,KX,HBA⟩
   case round =>
    clear KX HBA HOA
    obtain ⟨q,m2,A2,c2,hq,rfl,rfl,HM2,HO2,KX,HB2⟩:=hrel
    by_cases hqn:q<zn
    ·have hqi:(q:Int)<(zn:Int):=tZ1
     have hql:q<zl.length:=tZ73
     obtain ⟨ad2,hsa,-,r0,r1,r2,r3,r4⟩:=snap_at (HX.out wr HB2.out).snaps.2.2 HZN.out hqn
     simp only at hsa
     subst hsa
     have HLS:=Lib.hid (heldL_succ pa zl q hql)
     have HLE2:=Lib.hid (heldL_le pa zl (q+1))
     have hzy:=HZX.out.each _ (List.getElem_mem hql)
     obtain ⟨y,hy⟩:∃ y,y=zl[q]'hql:=⟨_,rfl⟩
     simp only at r0 r1 r2 r3 r4
     rw [← hy] at r0 r1 r2 r3 r4 HLS hzy
     clear hy
     obtain ⟨ynm,ygd,⟨yb1,ybn,yb3,ybl⟩,⟨yt1,ytn,yt3,ytl⟩,⟨yo1,yon,yo3,yol⟩⟩:=y
     simp only at r0 r1 r2 r3 r4 HLS
     have hyl:ynm.length≤4000000000:=hzy.nm
     have hyt:ytn≤1000000000000:=hzy.tags
     have hba:=(Below.refl wr.heap.size wr).alloc (Nat.le_refl _) (.cells #[.string ⟨ynm.toArray⟩,.int .i64 ygd,.slice yb1 ybn yb3,.slice yt1 ytn yt3,.slice yo1 yon yo3] 58)
     have HO3:=Lib.hid (own_below HO2.out hba)
     have KX3:=Lib.hid (KX.out.alloc (.cells #[.string ⟨ynm.toArray⟩,.int .i64 ygd,.slice yb1 ybn yb3,.slice yt1 ytn yt3,.slice yo1 yon yo3] 58))
     have HB3:=Lib.hid (HB2.out.alloc HB2.out.size (.cells #[.string ⟨ynm.toArray⟩,.int .i64 ygd,.slice yb1 ybn yb3,.slice yt1 ytn yt3,.slice yo1 yon yo3] 58))
     have k0:=KX3.out.cell 0
     have y0:=(Blk.new wr 58 #[.string ⟨ynm.toArray⟩,.int .i64 ygd,.slice yb1 ybn yb3,.slice yt1 ytn yt3,.slice yo1 yon yo3]).cell 0
     have y3:=(Blk.new wr 58 #[.string ⟨ynm.toArray⟩,.int .i64 ygd,.slice yb1 ybn yb3,.slice yt1 ytn yt3,.slice yo1 yon yo3]).cell 3
     simp only [zF,zD,zE] at k0 y0 y3
     clear hzy hba HO2 KX HB2
     by_cases ht:0<ytn
     ·have hti:(0:Int)<(ytn:Int):=tZ1
      have hLS:=HLS.out
      rw [if_pos ht] at hLS
      have HLS1:=Lib.hid hLS
      have hml:m2+1≤2000000000000:=by
       exact mZ216
      have hj:=join_any ⟨pa.toArray⟩ ⟨ynm.toArray⟩ (wr.alloc (.cells #[.string ⟨ynm.toArray⟩,.int .i64 ygd,.slice yb1 ybn yb3,.slice yt1 ytn yt3,.slice yo1 yon yo3] 58)) (by simp [ByteArray.size];omega) (by simp [ByteArray.size];omega)
      have HBS:=Lib.hid HB3.out.size
      clear HLS hLS
      go_wp2_with fail
      refine hj.mono ?_
      clear hj k0 y0 y3 r0 r1 r2 r3 r4
      rintro e w4 ⟨rfl,hw⟩
      rw [hw]
      clear hw w4
      obtain ⟨W3,hW3⟩:∃ W,W=wr.alloc (.cells #[.string ⟨ynm.toArray⟩,.int .i64 ygd,.slice yb1 ybn yb3,.slice yt1 ytn yt3,.slice yo1 yon yo3] 58):=⟨_,rfl⟩
      rw [← hW3] at HO3 KX3 HB3 HBS ⊢
      clear hW3
      obtain ⟨sv,hsv⟩:∃ v:BS,v=pa++64 :: ynm:=⟨_,rfl⟩
      rw [show ((⟨pa.toArray⟩:ByteArray).data.toList++64 :: (⟨ynm.toArray⟩:ByteArray).data.toList)=sv from hsv.symm]
      have HSV:=Lib.hid hsv
      clear hsv
      go_wp2_with (at_builtin;(refine wpList_push W3 rfl (.tmp 26) (.tmp 32) _ rfl W1.heap.size 9 i0 _ 1 16 Tryz.underlying51 hi0 hz0 hz1 hz2 rfl tZ1 (.slice A2 m2 c2) m2 _ rfl HO3.out 1 #[.string ⟨sv.toArray⟩] _ rfl rfl tZ5 tZ12 tZ1 HBS.out ?_);intro v5 w5 ho5 hb5 hg5;obtain ⟨A5,c5,rfl,_⟩:=own_form ho5;have HO5:=Lib.hid ho5;have HB5:=Lib.hid (HB3.out.trans hb5);have KX5:=Lib.hid (KX3.out.grown hg5 (fun hh=>own_blk_ne HO3.out KX3.out tZ3 hh.symm));clear ho5 hb5 hg5 HO3 HB3 KX3)
      go_roundw
      case rel =>
       refine ⟨q+1,m2+1,A5,c5,by omega,by go_num,rfl,?_,?_,KX5,HB5⟩
       ·exact mZ215
       ·show World.ownsRow _ _ _ _ _ _ _
        have h:=HO5.out
        rw [HLS1.out,← List.append_assoc]
        simpa [scells,strV,HSV.out] using h
      case measure=>simp [intOf];omega
     ·have hti:¬ (0:Int)<(ytn:Int):=tZ1
      have hLS:=HLS.out
      rw [if_neg ht,List.append_nil] at hLS
      have HLS1:=Lib.hid hLS
      clear HLS hLS
      go_wp2_with fail
      go_roundw
      case rel=>exact ⟨q+1,m2,A2,c2,by omega,by go_num,rfl,by show _=_;rw [HLS1.out];exact HM2.out,by show World.ownsRow _ _ _ _ _ _ _;rw [HLS1.out];exact HO3.out,KX3,HB3⟩
      case measure=>simp [intOf];omega
    ·obtain rfl:q=zn:=tZ1
     go_wp2_with fail
     go_roundw
     case rel =>
      refine ⟨k+1,m2,A2,c2,by omega,by go_num,rfl,?_,?_,HB2⟩
      ·show _=_
       rw [HS.out,HM2.out,HZN.out,List.take_length]
      ·exact mZ214
     case measure=>simp [intOf];omega
  ·obtain rfl:k=sn:=tZ1
   have hm:m=(allH sl).length:=by rw [HM.out,HSN.out,List.take_length]
   subst hm
   have HO9:Hid (wo.ownsRow W1.heap.size 9 1 (.slice A (allH sl).length c) (allH sl).length (scells (allH sl))):=by
    show World.ownsRow _ _ _ _ _ _ _
    have h:=HO.out
    rw [HSN.out,List.take_length] at h
    exact h
   clear HO HM
   go_wp2_with fail
   go_ret
   exact ⟨A,c,rfl,own_mono HO9.out tZ10,HB1.out.trans (HB.out.mono tZ10)⟩
end Go.Proofs.YtiojfffgiejibaaGreatDoor
namespace Go.Proofs.YtiojfffgiejibaaGreatDoor
open Go.RowKit
theorem new0C_sz (q:Int):(new0C q).sz where
 nm:=by show (1:Nat)≤4000000000;decide
 sets:=by show (1:Nat)≤1000000000000;decide
 eachS:=by
  intro y hy
  rw [show (new0C q).sets=[set0C []] from rfl,List.mem_singleton] at hy
  subst hy
  exact set0C_sz [] tZ3
 grants:=tZ82
 eachG:=fun y hy=>by cases hy
 stages:=tZ82
 eachT:=fun y hy=>by cases hy
 log:=tZ82
 eachL:=fun y hy=>by cases hy
end Go.Proofs.YtiojfffgiejibaaGreatDoor
