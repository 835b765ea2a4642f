/-
  Drawn regions with guards: when an operation is wanted.
-/
import Derived.Test.YteafdncnnamakaaGreatDoorGood
namespace Go.Proofs.YteafdncnnamakaaGreatDoor
open Go.RowKit

theorem wanted_of {ops : Array Oper} {o : Oper} {A : Act} {g k : Nat} {b : Bool} (hg : o.guard = some (g, b)) (hd : (ops[g]?).bind (·.dst) = some k) (h : A.tmps[k]?.getD undef = .bool b) : Region.wanted o (yielded ops A.tmps) = true := by
  have h1 : A.tmps[k]? = some (.bool b) := by
    cases hk : A.tmps[k]? with
    | none => rw [hk] at h; cases h
    | some x => rw [hk] at h; exact congrArg some h
  simp [Region.wanted, hg, yielded, hd, h1]
theorem unwanted_of {ops : Array Oper} {o : Oper} {A : Act} {g k : Nat} {b : Bool} (hg : o.guard = some (g, b)) (hd : (ops[g]?).bind (·.dst) = some k) (h : A.tmps[k]?.getD undef = .bool (!b) ∨ A.tmps[k]?.getD undef = undef) : ¬ Region.wanted o (yielded ops A.tmps) = true := by
  have hy : ∀ v, A.tmps[k]?.getD undef = v → yielded ops A.tmps g = match v with | .bool b => some b | _ => none := by
    rintro v rfl
    unfold yielded
    rw [hd]
    simp only [Option.bind_some]
    cases A.tmps[k]? with
    | none => rfl
    | some v => cases v <;> rfl
  rcases h with h | h
  · simp [Region.wanted, hg, hy _ h]
  · have := hy _ h
    simp [Region.wanted, hg, this, undef]
end Go.Proofs.YteafdncnnamakaaGreatDoor
