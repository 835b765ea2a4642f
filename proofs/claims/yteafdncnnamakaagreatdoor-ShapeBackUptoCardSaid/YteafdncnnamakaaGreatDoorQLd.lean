/-
  A wide struct's load in a region that is walked by a class of worlds.
-/
import Derived.Test.YteafdncnnamakaaGreatDoorWide
import Derived.Test.YteafdncnnamakaaGreatDoorCls
namespace Go.Proofs.YteafdncnnamakaaGreatDoor
open Go.RowKit

theorem quiet_load_at {P : Program} {o : Oper} {a : Act} {C : World → Prop} {w : World} (ty : TypeId) (x : Operand) (ho : o.op = .load ty x) (ad : Addr) (hx : a.eval x = .pointer (some ad)) (cs : List Value) (d : TypeDesc)
    (hc : ∀ (j : Nat) (v : Value), cs[j]? = some v → w.cell? (ad.add j) = some v) (hu : P.underlying ty = some d) (hd : d.isRow = true) (hi : (P.info? ty).map (·.size) = some cs.length) : o.quietAt P a C w (.agg cs.toArray) := by
  unfold Oper.quietAt execOp
  simp only [ho, hx, Instr.loadAt, Instr.sureAddr, Sem.run_bind, Sem.run_pure, Result.andThen_ok, run_loadVar_at w ad ty cs d hc hu hd hi]
  exact ⟨rfl, rfl⟩
end Go.Proofs.YteafdncnnamakaaGreatDoor
