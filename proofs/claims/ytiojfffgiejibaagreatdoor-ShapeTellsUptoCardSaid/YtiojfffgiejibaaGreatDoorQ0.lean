/-
  Short names of laws of lists.
-/
import Derived.WalkKit
namespace Go.Proofs.YtiojfffgiejibaaGreatDoor
theorem zA {α:Type _} (l:List α) (i:Nat) (a:α):l.toArray.setIfInBounds i a=(l.set i a).toArray:=List.setIfInBounds_toArray ..
theorem zB {α:Type _} (x a:α) (l:List α):(x :: l).set 0 a=a :: l:=rfl
theorem zC {α:Type _} (x a:α) (l:List α) (n:Nat):(x :: l).set (n+1) a=x :: l.set n a:=rfl
theorem zD {α:Type _} (a:α) (l:List α) (i:Nat):(a :: l)[i+1]?=l[i]?:=List.getElem?_cons_succ
theorem zE {α:Type _} (a:α) (l:List α):(a :: l)[0]?=some a:=List.getElem?_cons_zero
theorem zF {α:Type _} (l:List α) (i:Nat):l.toArray[i]?=l[i]?:=List.getElem?_toArray
end Go.Proofs.YtiojfffgiejibaaGreatDoor
