/-
  The first place of a list at which a predicate holds.
-/
import Derived.Test.YtiojfffgiejibaaGreatDoorTtM1
import Derived.WalkKit
import Derived.Test.YtiojfffgiejibaaGreatDoorT0
namespace Go.Proofs.YtiojfffgiejibaaGreatDoor
/-- the first place at which p holds (or the length) -/
def firstP {α:Type} (p:α→Bool) (l:List α):Nat:=(l.takeWhile fun x=>!p x).length
def firstI {α:Type} (p:α→Bool) (l:List α):Int:=if firstP p l<l.length then (firstP p l:Int) else -1
theorem firstP_eq {α:Type} (p:α→Bool) (l:List α) (k:Nat) (x:α) (h:∀ y∈l.take k,p y=false) (hx:l[k]?=some x) (hp:p x=true):firstP p l=k:=by
 unfold firstP
 obtain ⟨hk,e⟩:=List.getElem?_eq_some_iff.1 hx
 have hl:l=l.take k++x :: l.drop (k+1):=by
  conv=>lhs;rw [← List.take_append_drop k l,List.drop_eq_getElem_cons hk,e]
 conv=>lhs;rw [hl]
 rw [List.takeWhile_append_of_pos (by intro y hy;simp [h y hy]),List.takeWhile_cons_of_neg (by simp [hp])]
 simp
 omega
theorem firstP_none {α:Type} (p:α→Bool) (l:List α) (h:∀ y∈l,p y=false):firstP p l=l.length:=by
 unfold firstP
 induction l with
 | nil=>rfl
 | cons x r ih =>
  rw [List.takeWhile_cons_of_pos (by simp [h x tZ4]),List.length_cons,List.length_cons,ih (fun y hy=>h y (List.mem_cons_of_mem _ hy))]
theorem firstP_before {α:Type} (p:α→Bool) (l:List α):∀ y∈l.take (firstP p l),p y=false:=by
 unfold firstP
 induction l with
 | nil=>intro y hy;simp at hy
 | cons x r ih =>
  intro y hy
  cases hx:p x with
  | true=>rw [List.takeWhile_cons_of_neg (by simp [hx])] at hy;simp at hy
  | false =>
   rw [List.takeWhile_cons_of_pos (by simp [hx]),List.length_cons,List.take_succ_cons] at hy
   rcases List.mem_cons.1 hy with rfl | hy
   ·exact hx
   ·exact ih y hy
theorem firstI_any {α:Type} (p:α→Bool) (l:List α):decide ((0:Int)≤firstI p l)=l.any p:=by
 unfold firstI
 by_cases h:firstP p l<l.length
 ·rw [if_pos h]
  have h1:l.any p=true:=by
   rw [List.any_eq_true]
   by_cases he:∀ y∈l,p y=false
   ·rw [firstP_none p l he] at h;omega
   ·obtain ⟨y,hy⟩:=Classical.not_forall.1 he
    obtain ⟨hy,hp⟩:=Classical.not_imp.1 hy
    exact ⟨y,hy,by simpa using hp⟩
  rw [h1]
  simp
 ·rw [if_neg h]
  have h1:l.any p=false:=by
   rw [List.any_eq_false]
   intro y hy hp
   have hb:=firstP_before p l
   rw [List.take_of_length_le tZ1] at hb
   rw [hb y hy] at hp
   cases hp
  rw [h1]
  rfl
end Go.Proofs.YtiojfffgiejibaaGreatDoor
