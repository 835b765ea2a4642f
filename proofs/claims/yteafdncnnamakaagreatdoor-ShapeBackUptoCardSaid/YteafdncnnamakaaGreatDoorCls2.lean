/-
  A region's class walk, with the slots as a list: lighter steps.
-/
import Derived.Test.YteafdncnnamakaaGreatDoorCls
namespace Go.Proofs.YteafdncnnamakaaGreatDoor
open Go.RowKit

section
variable {P : Program} {ops : Array Oper} {C : World → Prop} {Q : Act → Prop}
theorem put_toArray (l : List Value) (d : List Deferred) (k : Nat) (v : Value) : (Act.put ⟨l.toArray, d⟩ (some k) v) = ⟨(l.set k v).toArray, d⟩ := by
  simp [Act.put]
theorem wpC_readS {o : Oper} {rest : List Oper} {l : List Value} {d : List Deferred} {v : Value} {k : Nat} (hg : o.guard = none) (hd : o.dst = some k) (h : ∀ w, C w → o.quietAt P ⟨l.toArray, d⟩ C w v) (hn : wpQuiet P ops C Q rest ⟨(l.set k v).toArray, d⟩) : wpQuiet P ops C Q (o :: rest) ⟨l.toArray, d⟩ :=
  wpC_read hg h (by rw [hd, put_toArray]; exact hn)
theorem wpC_greadS {o : Oper} {rest : List Oper} {l : List Value} {d : List Deferred} {v : Value} {j g k : Nat} {b : Bool} (hg : o.guard = some (g, b)) (hj : o.dst = some j) (hd : (ops[g]?).bind (·.dst) = some k) (ht : l[k]?.getD undef = .bool b)
    (h : ∀ w, C w → o.quietAt P ⟨l.toArray, d⟩ C w v) (hn : wpQuiet P ops C Q rest ⟨(l.set j v).toArray, d⟩) : wpQuiet P ops C Q (o :: rest) ⟨l.toArray, d⟩ :=
  wpC_gread hg hd (by simpa using ht) h (by rw [hj, put_toArray]; exact hn)
theorem wpC_skipS {o : Oper} {rest : List Oper} {l : List Value} {d : List Deferred} {j g k : Nat} {b : Bool} (hg : o.guard = some (g, b)) (hj : o.dst = some j) (hd : (ops[g]?).bind (·.dst) = some k) (ht : l[k]?.getD undef = .bool (!b) ∨ l[k]?.getD undef = undef)
    (hn : wpQuiet P ops C Q rest ⟨(l.set j undef).toArray, d⟩) : wpQuiet P ops C Q (o :: rest) ⟨l.toArray, d⟩ :=
  wpC_skip hg hd (by simpa using ht) (by rw [hj, put_toArray]; exact hn)
end
end Go.Proofs.YteafdncnnamakaaGreatDoor
