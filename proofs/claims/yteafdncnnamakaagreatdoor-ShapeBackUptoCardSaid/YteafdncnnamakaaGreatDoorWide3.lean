/-
  A slice literal of one wide struct: all its cells at once.
-/
import Derived.Test.YteafdncnnamakaaGreatDoorWide
import Derived.Test.YteafdncnnamakaaGreatDoorCells
import Derived.Great.BuildSlice
namespace Go.Proofs.YteafdncnnamakaaGreatDoor
open Go.RowKit

theorem fill_one (zs : Array Value) (cs : List Value) (hz : zs.size = cs.length) (hp : 0 < cs.length) : Instr.fill (fun i => some (i * cs.length, cs.length)) zs [(0, .agg cs.toArray)] = some cs.toArray := by
  have := Great.fill_whole (s := cs.length) hp [.agg cs.toArray] zs (fun v hv => by rw [List.mem_singleton.1 hv]; simp [Value.cells]) (by simp [hz])
  simpa [Value.cells] using this
theorem wpList_build_one {P : Program} {ops : Array Oper} {rest : List Oper} {op : Oper} {a : Act} {w : World} {Q : Exit → Act → World → Prop} (hgd : op.guard = none) (t e : TypeId) (x : Operand) (ho : op.op = .buildSlice t 1 #[(0, x)])
    (cs : List Value) (hx : a.eval x = .agg cs.toArray) (ie : TypeInfo) (z : Value) (hu : P.underlying t = some (.slice e)) (hie : P.info? e = some ie) (hz : ie.zero = some z) (hs : ie.size = cs.length) (hp : 0 < cs.length) (hl : cs.length ≤ 16777216)
    (h : wpList P ops Q rest (a.put op.dst (.slice (some ⟨w.heap.size, 0, none⟩) 1 1)) (w.alloc (.cells cs.toArray e))) : wpList P ops Q (op :: rest) a w := by
  refine wpList_buildSlice hgd t e 1 #[(0, x)] ho cs.toArray ie z hu hie hz (by rw [hs]; omega) (by rw [hs]; omega) ?_ h
  rw [hs]
  have : ((#[(0, x)] : Array (Nat × Operand)).map fun (i, x) => (i, a.eval x)).toList = [(0, .agg cs.toArray)] := by simp [hx]
  rw [this]
  exact fill_one _ cs (by simp) hp
/-- an element's cells, all at once -/
theorem Reads.elAll {α : Type} {enc : α → List Value} {k : Nat} (hk : ∀ x, (enc x).length = k) {w : World} {B n : Nat} {A : Option Addr} {l : List α} (h : Reads w B k A n (cellsK enc l)) (hn : n = l.length) {i : Nat} (hi : i < n) :
    ∃ ad, A = some ad ∧ ad.block < B ∧ ∀ j v, (enc (l[i]'(by omega)))[j]? = some v → w.cell? ((ad.add (i * k)).add j) = some v := by
  obtain ⟨ad, e, hb, hc⟩ := h.elK hk hn hi
  refine ⟨ad, e, hb, fun j v hv => ?_⟩
  have hj : j < k := by
    rcases Nat.lt_or_ge j k with h | h
    · exact h
    · rw [List.getElem?_eq_none (by rw [hk]; exact h)] at hv; cases hv
  rw [hc j hj, hv]
end Go.Proofs.YteafdncnnamakaaGreatDoor
