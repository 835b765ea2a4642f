/-
  shape.asked, shape.place: a path that may be asked; a set's place. blocks.Put, by its contract. Lists of blocks in memory; blocks.Get, blocks.Check, the page's Same, by their contracts. The plain law of contents' changes: going along two contents, and asking index by index, make the same records. What a function tells that answers by a tenant and an error; sizes by content.
-/
import Derived.WalkKit
import Derived.WalkSpells
import Derived.Below
import Derived.Laws.OwnMore
import Derived.Deep.AppendLies
import Derived.Deep.Draws
import Derived.Laws.Rows
import Derived.Maps.AppendAt
import Derived.RegionTactic
import Derived.OwnWalk
import Derived.Deep.QuietTactic
import Derived.BigQuiet
import Derived.Lib.Hide
import Derived.Laws.CopyOwn
import Derived.IntWalk
import Derived.Test.YtcgclpcocdappaaGreatDoorRows
import Derived.Handy
import Derived.Deep.Quiet
import Derived.Orders
import Derived.Lib.SplitLaws
import Derived.Lib.LastIndexByte
import Derived.Lib.Strings
import Derived.ShutString
import Derived.Sort.Walk0
import Derived.Sort.KeysCollected
import Derived.Shelf.Strings.Search1
import Derived.Shelf.Strings.Search2
import Derived.Shelf.Strings.Search3
import Derived.Shelf.Strings.Cut
import Derived.Shelf.Strings.Count
import Derived.Shelf.LaysM
import Derived.Shelf.Strings.Shaped
import Derived.Shelf.Strings.LastIndex
import Derived.Shelf.Strings.Split
import Derived.Shelf.Strings.SplitShaped
import Derived.Shelf.Unicode.Decode
import Derived.Shelf.Strings.RuneCount
import Derived.Shelf.Strings.Explode
import Derived.Shelf.Unicode.DecodeSlow
import Derived.Test.YtcgclpcocdappaaGreatDoorProg
import Derived.Laws.BytesString
import Derived.Laws.IdiomStrings
import Derived.Lib.ConvBytes
import Derived.Deep.MidRow
import Derived.Lib.AppendZeros
import Derived.ProofKit
import Derived.Lib.Overlaps
import Derived.Lib.AppendZerosOnto
import Derived.Deep.RegionLaw
import Derived.OpenShut
import Derived.ChangeOld
import Derived.Carry
import Derived.SizedLaws
import Derived.JoinedCond
import Derived.Deep.CondSized
import Derived.Deep.Slices
import Derived.Deep.Fields
import Derived.Lib.SmallJoins
import Derived.Deep.DeepCutAuto
import Derived.Great.BuildSlice
import Derived.Test.YtcgclpcocdappaaGreatDoorJ0
import Derived.Test.YtcgclpcocdappaaGreatDoorJbkv2
import Derived.Test.YtcgclpcocdappaaGreatDoorJbkv3
import Derived.Test.YtcgclpcocdappaaGreatDoorJbkv4
import Derived.Test.YtcgclpcocdappaaGreatDoorJbkv20
namespace Go.Proofs.YtcgclpcocdappaaGreatDoor
open Go.RowKit
/-- what is asked of a path: its error -/
def askP (t:TenR) (p:BS):Int:=if tenE t=9 then 9 else if pathB p=false then 31 else 0
theorem askP_in (t:TenR) (p:BS):askP t p=0∨askP t p=9∨askP t p=31:=by
 unfold askP
 by_cases h:tenE t=9
 ·rw [if_pos h];exact .inr (.inl rfl)
 ·rw [if_neg h]
  cases pathB p
  ·exact .inr (.inr rfl)
  ·exact .inl rfl
end Go.Proofs.YtcgclpcocdappaaGreatDoor
namespace Go.Proofs.YtcgclpcocdappaaGreatDoor
open Go.RowKit
def cmpI (x y:Int):Int:=if x<y then -1 else if y<x then 1 else 0
theorem cmpI_neg (x y:Int):cmpI x y<0↔x<y:=by unfold cmpI;split <;> (try split) <;> omega
theorem cmpI_zero (x y:Int):cmpI x y=0↔x=y:=by unfold cmpI;split <;> (try split) <;> omega
/-! ### the plain law's words -/
def Asc (l:BL):Prop:=∀ (i j:Nat) (x y:Int×List UInt8),i<j→l[i]?=some x→l[j]?=some y→x.1<y.1
def cfB (t:Int):Int×List UInt8→Int:=fun x=>cmpI x.1 t
def putL11 (l:BL) (i:Int) (d:List UInt8):BL:=l.take (posF (cfB i) l)++[(i,d)]++l.drop (posF (cfB i) l+if atF (cfB i) l=true then 1 else 0)
end Go.Proofs.YtcgclpcocdappaaGreatDoor
namespace Go.Proofs.YtcgclpcocdappaaGreatDoor
open Go.RowKit
def getL (l:BL) (i:Int):List UInt8:=match l.find? (fun x=>x.1 == i) with
 | some x=>x.2
 | none=>[]
def hasL (l:BL) (i:Int):Bool:=l.any fun x=>x.1 == i
/-! ### Check -/
end Go.Proofs.YtcgclpcocdappaaGreatDoor
namespace Go.Proofs.YtcgclpcocdappaaGreatDoor
open Go.RowKit
/-- a record of a change: kind, index, count, data -/
abbrev RL:=List (Int×Int×Int×List UInt8)
def bumpR (o:RL):RL:=match o.getLast? with
 | some r=>o.dropLast++[(r.1,r.2.1,r.2.2.1+1,r.2.2.2)]
 | none=>o
def putS (s:RL×Int) (x:Int×List UInt8):RL×Int:=(s.1++[(2,x.1,0,x.2)],s.2)
def refStep (a b:BL) (i:Int) (s:RL×Bool):RL×Bool :=
 (if (hasL a i && !hasL b i) && s.2 then bumpR s.1 else if hasL a i && !hasL b i then s.1++[(3,i,1,[])]
  else if hasL b i && (!hasL a i || getL a i != getL b i) then s.1++[(2,i,0,getL b i)] else s.1,hasL a i && !hasL b i)
def runFrom (a b:BL):Nat→Int→RL×Bool→RL×Bool
 | 0,_,s=>s
 | m+1,k,s=>runFrom a b m (k+1) (refStep a b k s)
theorem hasL_cons (x:Int×List UInt8) (l:BL) (j:Int):hasL (x :: l) j=(x.1 == j || hasL l j):=rfl
theorem getL_cons_eq (x:Int×List UInt8) (l:BL):getL (x :: l) x.1=x.2:=by simp [getL]
theorem getL_cons_ne (x:Int×List UInt8) (l:BL) (j:Int) (h:x.1≠j):getL (x :: l) j=getL l j:=by
 unfold getL
 rw [List.find?_cons_of_neg (by simpa using h)]
theorem hasL_above (l:BL) (j:Int) (h:∀ x∈l,j<x.1):hasL l j=false:=by
 unfold hasL
 rw [List.any_eq_false]
 intro x hx
 have:=h x hx
 simp
 omega
theorem Asc.tail {x:Int×List UInt8} {l:BL} (h:Asc (x :: l)):Asc l∧∀ y∈l,x.1<y.1:=by
 refine ⟨fun i j a b hij ha hb=>h (i+1) (j+1) a b (by omega) (by simpa using ha) (by simpa using hb),fun y hy=>?_⟩
 obtain ⟨i,hi⟩:=List.mem_iff_getElem?.1 hy
 exact h 0 (i+1) x y (by omega) rfl (by simpa using hi)
/-- what stands of a content from an index on -/
structure Rest (a la:BL) (k:Int):Prop where
 asc:Asc la
 from_:∀ x∈la,k≤x.1∧x.1<1024
 has:∀ j,k≤j→hasL a j=hasL la j∧getL a j=getL la j
theorem Rest.next {a la:BL} {k:Int} (h:Rest a la k) (hn:∀ x∈la,x.1≠k):Rest a la (k+1)∧hasL a k=false :=
 ⟨⟨h.asc,fun x hx=>⟨by have:=(h.from_ x hx).1;have:=hn x hx;omega,(h.from_ x hx).2⟩,fun j hj=>h.has j (by omega)⟩,
  by rw [(h.has k (Int.le_refl _)).1];exact hasL_above la k (fun x hx=>by have:=(h.from_ x hx).1;have:=hn x hx;omega)⟩
theorem Rest.take {a la:BL} {x:Int×List UInt8} {k:Int} (h:Rest a (x :: la) k) (hx:x.1=k):Rest a la (k+1)∧hasL a k=true∧getL a k=x.2:=by
 have ht:=h.asc.tail
 refine ⟨⟨ht.1,fun y hy=>⟨by have:=ht.2 y hy;omega,(h.from_ y (List.mem_cons_of_mem _ hy)).2⟩,fun j hj=>?_⟩,?_,?_⟩
 ·have:=h.has j (by omega)
  rw [this.1,this.2,hasL_cons,getL_cons_ne _ _ _ (by omega)]
  simp
  intro e
  omega
 ·rw [(h.has k (Int.le_refl _)).1,hasL_cons];simp [hx]
 ·rw [(h.has k (Int.le_refl _)).2]
  subst hx
  exact getL_cons_eq x la
end Go.Proofs.YtcgclpcocdappaaGreatDoor
namespace Go.Proofs.YtcgclpcocdappaaGreatDoor
open Go.RowKit
/-! ### sizes, by content -/
section
variable {w:World} {B:Nat}
end
/-! ### what is told -/
def TenC.ask (c:TenC) (p:BS):Int:=if c.E=9 then 9 else if pathB p=false then 31 else 0
theorem askP_con (t:TenR) (p:BS):askP t p=t.con.ask p:=by
 unfold askP TenC.ask
 rw [tenE_con]
/-! ### what stands under a set, its clones, what is held -/
end Go.Proofs.YtcgclpcocdappaaGreatDoor
