/-
  'append' into a row that is known whole and has room.
-/
import Derived.Test.YtjdebhemoeojiaaDoorShift
import Derived.Test.YtjdebhemoeojiaaDoorClear
namespace Go.Proofs.YtjdebhemoeojiaaDoor
open Go.RowKit

section
variable {P : Program}
theorem run_append_rowK (w : World) (t ty elem : TypeId) (k : Nat) (g sLen sCap : Nat) (a : Addr) (xLen xCap : Nat) (cur : List Value) (T : TypeId) (cs : List Value)
    (hu : P.underlying t = some (.slice elem)) (hs : (P.info? elem).map (·.size) = some k)
    (hg : w.heap[g]? = some (.cells cur.toArray T (0, 0))) (hn : cs.length = xLen * k)
    (hsrc : ∀ j v, cs[j]? = some v → w.cell? (a.add j) = some v) (hfit : sLen * k + cs.length ≤ cur.length) (hroom : sLen + xLen ≤ sCap) (h1 : ∀ v ∈ cs, v.oneCell' = true) :
    (Builtin.append_ #[t, t] ty #[.slice (some ⟨g, 0, none⟩) sLen sCap, .slice (some a) xLen xCap]).run P w =
      .ok (.slice (some ⟨g, 0, none⟩) (sLen + xLen) sCap) (w.setRow g (splice cur (sLen * k) cs).toArray) := by
  have hl := run_loadCells_list (P := P) w a cs hsrc
  have hst := run_storeCells_at P g (sLen * k) T cs 0 cur.toArray w hg (by simpa using hfit) h1
  cases hq : P.info? elem with
  | none => simp [hq] at hs
  | some i =>
    have hi : i.size = k := by simpa [hq] using hs
    simp [Builtin.append_, run_underlying hu, Builtin.lenOf, Builtin.firstCells, sizeOf, typeInfo, hq, hi, ← hn, hl, hroom, addr_add0, hst, splice]
theorem wp_appendK {o : Oper} {a : Act} {w : World} {K : Act → World → Prop} {Q : Exit → Act → World → Prop} (d s : Operand) (t : TypeId)
    (ho : o.op = .call { callee := .builtin .append, args := #[d, s], argTypes := #[t, t] }) (elem : TypeId) (k : Nat) (hu : P.underlying t = some (.slice elem)) (hsz : (P.info? elem).map (·.size) = some k)
    (g sLen sCap : Nat) (ad : Addr) (xLen xCap : Nat) (hd : a.eval d = .slice (some ⟨g, 0, none⟩) sLen sCap) (hs : a.eval s = .slice (some ad) xLen xCap)
    (cur : List Value) (T : TypeId) (hg : w.heap[g]? = some (.cells cur.toArray T (0, 0))) (cs : List Value) (hn : cs.length = xLen * k)
    (hsrc : ∀ j v, cs[j]? = some v → w.cell? (ad.add j) = some v) (hfit : sLen * k + cs.length ≤ cur.length) (hroom : sLen + xLen ≤ sCap) (h1 : ∀ v ∈ cs, v.oneCell' = true)
    (h : ∀ w', Hid (w'.heap[g]? = some (.cells (splice cur (sLen * k) cs).toArray T (0, 0))) → w.grownBy w' (some g) → K (a.put o.dst (.slice (some ⟨g, 0, none⟩) (sLen + xLen) sCap)) w') : o.wp P a w K Q := by
  have hrun := run_append_rowK (P := P) w t o.type elem k g sLen sCap ad xLen xCap cur T cs hu hsz hg hn hsrc hfit hroom h1
  unfold Oper.wp
  simp [execOp, ho, resolve, invoke, builtin, hd, hs, hrun, Result.andThen]
  exact h _ (show _ = _ by simpa [splice] using setRow_heap w g _ _ T _ hg) (grown_setRow _)
theorem step_appendK {ops : Array Oper} {o : Oper} {a : Act} {w : World} {K : Act → World → Prop} {Q : Exit → Act → World → Prop} {E : Prop} (hgd : o.guard = none) (d s : Operand) (t : TypeId)
    (ho : o.op = .call { callee := .builtin .append, args := #[d, s], argTypes := #[t, t] }) (elem : TypeId) (k : Nat) (hu : P.underlying t = some (.slice elem)) (hsz : (P.info? elem).map (·.size) = some k)
    (g sLen sCap : Nat) (ad : Addr) (xLen xCap : Nat) (hd : a.eval d = .slice (some ⟨g, 0, none⟩) sLen sCap) (hs : a.eval s = .slice (some ad) xLen xCap)
    (cur : List Value) (T : TypeId) (hg : w.heap[g]? = some (.cells cur.toArray T (0, 0))) (cs : List Value) (hn : cs.length = xLen * k)
    (hsrc : ∀ j v, cs[j]? = some v → w.cell? (ad.add j) = some v) (hfit : sLen * k + cs.length ≤ cur.length) (hroom : sLen + xLen ≤ sCap) (h1 : ∀ v ∈ cs, v.oneCell' = true)
    (h : ∀ w', Hid (w'.heap[g]? = some (.cells (splice cur (sLen * k) cs).toArray T (0, 0))) → w.grownBy w' (some g) → K (a.put o.dst (.slice (some ⟨g, 0, none⟩) (sLen + xLen) sCap)) w') :
    if Region.wanted o (yielded ops a.tmps) = true then Oper.wp P o a w K Q else E := by
  have hw : Region.wanted o (yielded ops a.tmps) = true := by simp [Region.wanted, hgd]
  rw [if_pos hw]
  exact wp_appendK d s t ho elem k hu hsz g sLen sCap ad xLen xCap hd hs cur T hg cs hn hsrc hfit hroom h1 h
end
end Go.Proofs.YtjdebhemoeojiaaDoor
