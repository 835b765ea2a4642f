/-
  The plain law of names: what names and paths are, and what the statements of chapter 03 say of them.
-/
import Derived.Test.YtiojfffgiejibaaGreatDoorQsM1
import Derived.WalkKit
import Derived.Test.YtiojfffgiejibaaGreatDoorQ0
namespace Go.Proofs.YtiojfffgiejibaaGreatDoor
def okB (c:UInt8):Bool:=(97≤c && c≤122) || (48≤c && c≤57) || c == 45 || c == 95
def nameB (s:List UInt8):Bool:=!s.isEmpty && decide (s.length≤16) && s.all okB
/-- the parts between slashes -/
def partsL:List UInt8→List (List UInt8)
 | []=>[[]]
 | c :: r=>if c=47 then [] :: partsL r else match partsL r with
  | p :: ps=>(c :: p) :: ps
  | []=>[[c]]
def pathB (s:List UInt8):Bool:=s.isEmpty || (decide ((partsL s).length≤4) && (partsL s).all nameB)
/-- where the last slash stands, or 0 -/
def lastS:List UInt8→Option Nat
 | []=>none
 | c :: r=>match lastS r with
  | some k=>some (k+1)
  | none=>if c=47 then some 0 else none
def upL (s:List UInt8):List UInt8:=s.take ((lastS s).getD 0)
theorem partsL_ne (s:List UInt8):partsL s≠[]:=by
 cases s with
 | nil=>simp [partsL]
 | cons c r =>
  unfold partsL
  split
  ·simp
  ·split <;> simp
theorem lastS_none (s:List UInt8) (h:lastS s=none):partsL s=[s]:=by
 induction s with
 | nil=>rfl
 | cons c r ih =>
  unfold lastS at h
  split at h
  ·cases h
  ·rename_i hr
   split at h
   ·cases h
   ·rename_i hc
    unfold partsL
    rw [if_neg hc,ih hr]
theorem lastS_some (s:List UInt8) (k:Nat) (h:lastS s=some k):k<s.length∧s[k]?=some 47∧partsL s=partsL (s.take k)++[s.drop (k+1)]:=by
 induction s generalizing k with
 | nil=>cases h
 | cons c r ih =>
  unfold lastS at h
  split at h
  ·rename_i j hj
   cases h
   obtain ⟨h1,h2,h3⟩:=ih j hj
   refine ⟨by simpa using h1,by simpa using h2,?_⟩
   rw [List.take_succ_cons,List.drop_succ_cons]
   unfold partsL
   by_cases hc:c=47
   ·rw [if_pos hc,if_pos hc,h3];rfl
   ·rw [if_neg hc,if_neg hc,h3]
    cases hp:partsL (r.take j) with
    | nil=>exact absurd hp (partsL_ne _)
    | cons p ps=>rfl
  ·rename_i hr
   split at h
   ·rename_i hc
    cases h
    refine ⟨by simp,by simp [hc],?_⟩
    unfold partsL
    rw [if_pos hc,lastS_none r hr]
    rfl
   ·cases h
/-! ### What comes back -/
/-- what stands before the first '@', and behind it -/
def atL:List UInt8→Option (List UInt8×List UInt8)
 | []=>none
 | c :: r=>if c=64 then some ([],r) else match atL r with
  | some (p,n)=>some (c :: p,n)
  | none=>none
theorem atL_join (s n:List UInt8) (h:∀ c∈s,c≠64):atL (s++64 :: n)=some (s,n):=by
 induction s with
 | nil=>simp [atL]
 | cons a r ih =>
  rw [List.cons_append]
  unfold atL
  rw [if_neg (h a (List.mem_cons_self ..)),ih (fun c hc=>h c (List.mem_cons_of_mem _ hc))]
end Go.Proofs.YtiojfffgiejibaaGreatDoor
