/-
  'copy' at elements of several cells into a row that is known whole; the plain facts of what slices.Insert and slices.Delete make of a row.
-/
import Derived.Lib.Overlaps
import Derived.Lib.AppendZerosOnto
import Derived.Deep.RegionLaw
import Derived.Test.YtcbeadldieeceaaRows
import Derived.Handy
import Derived.Lib.AppendZeros
import Derived.Lib.Hide
import Derived.WalkKit
import Derived.Laws.BytesString
import Derived.Laws.IdiomStrings
import Derived.Lib.ConvBytes
import Derived.Lib.Strings
import Derived.Test.YtcbeadldieeceaaZ1
import Derived.Test.YtcbeadldieeceaaZ4
namespace Go.Proofs.Ytcbeadldieeceaa
open Go.RowKit

section
variable {P : Program}
theorem run_copy_rowK (w : World) (dT sT ty elem : TypeId) (k : Nat) (g o dLen dCap : Nat) (a : Addr) (sLen sCap m : Nat) (cur : Array Value) (t : TypeId) (cs : List Value)
    (hu : P.underlying dT = some (.slice elem)) (hs : (P.info? elem).map (·.size) = some k)
    (hg : w.heap[g]? = some (.cells cur t (0, 0))) (hm : m = Nat.min sLen dLen) (hn : cs.length = m * k)
    (hsrc : ∀ j v, cs[j]? = some v → w.cell? (a.add j) = some v) (hfit : o + cs.length ≤ cur.size) (h1 : ∀ v ∈ cs, v.oneCell' = true) :
    (Builtin.copy_ #[dT, sT] ty #[.slice (some ⟨g, o, none⟩) dLen dCap, .slice (some a) sLen sCap]).run P w =
      .ok (goInt m) (w.setRow g (cur.toList.take o ++ cs ++ cur.toList.drop (o + cs.length)).toArray) := by
  have hl := run_loadCells_list (P := P) w a cs hsrc
  have hst := run_storeCells_at P g o t cs 0 cur w hg (by simpa using hfit) h1
  cases hq : P.info? elem with
  | none => simp [hq] at hs
  | some i =>
    have hi : i.size = k := by simpa [hq] using hs
    simp [Builtin.copy_, run_underlying hu, Builtin.lenOf, Builtin.firstCells, sizeOf, typeInfo, hq, hi, ← hm, ← hn, hl, hst]

theorem grown_setRow {w : World} {g : Nat} (cs : Array Value) : w.grownBy (w.setRow g cs) (some g) :=
  ⟨rfl, rfl, rfl, by simp [World.setRow], fun k hk hne => setRow_other w g k cs (by intro e; exact hne (by rw [e]))⟩
theorem grown_drew {w w' : World} {r : Option Nat} (h : w.drew.grownBy w' r) : w.grownBy w' r := ⟨h.os, h.tape, h.output, h.size, h.block⟩

theorem wp_copyK {o : Oper} {a : Act} {w : World} {K : Act → World → Prop} {Q : Exit → Act → World → Prop} (d s : Operand) (dT sT : TypeId)
    (ho : o.op = .call { callee := .builtin .copy, args := #[d, s], argTypes := #[dT, sT] }) (elem : TypeId) (k : Nat) (hu : P.underlying dT = some (.slice elem)) (hsz : (P.info? elem).map (·.size) = some k)
    (g off dLen dCap : Nat) (ad : Addr) (sLen sCap m : Nat) (hd : a.eval d = .slice (some ⟨g, off, none⟩) dLen dCap) (hs : a.eval s = .slice (some ad) sLen sCap)
    (cur : List Value) (t : TypeId) (hg : w.heap[g]? = some (.cells cur.toArray t (0, 0))) (cs : List Value) (hm : m = Nat.min sLen dLen) (hn : cs.length = m * k)
    (hsrc : ∀ j v, cs[j]? = some v → w.cell? (ad.add j) = some v) (hfit : off + cs.length ≤ cur.length) (h1 : ∀ v ∈ cs, v.oneCell' = true)
    (h : ∀ w', Hid (w'.heap[g]? = some (.cells (splice cur off cs).toArray t (0, 0))) → w.grownBy w' (some g) → K (a.put o.dst (goInt m)) w') : o.wp P a w K Q := by
  have hrun := run_copy_rowK (P := P) w dT sT o.type elem k g off dLen dCap ad sLen sCap m cur.toArray t cs hu hsz hg hm hn hsrc (by simpa using hfit) h1
  unfold Oper.wp
  simp [execOp, ho, resolve, invoke, builtin, hd, hs, hrun, Result.andThen]
  exact h _ (show _ = _ by simpa [splice] using setRow_heap w g _ _ t _ hg) (grown_setRow _)
theorem wpList_copyK {w : World} {ops : Array Oper} {rest : List Oper} {o : Oper} {a : Act} {Q : Exit → Act → World → Prop} (hgd : o.guard = none) (d s : Operand) (dT sT : TypeId)
    (ho : o.op = .call { callee := .builtin .copy, args := #[d, s], argTypes := #[dT, sT] }) (elem : TypeId) (k : Nat) (hu : P.underlying dT = some (.slice elem)) (hsz : (P.info? elem).map (·.size) = some k)
    (g off dLen dCap : Nat) (ad : Addr) (sLen sCap m : Nat) (hd : a.eval d = .slice (some ⟨g, off, none⟩) dLen dCap) (hs : a.eval s = .slice (some ad) sLen sCap)
    (cur : List Value) (t : TypeId) (hg : w.heap[g]? = some (.cells cur.toArray t (0, 0))) (cs : List Value) (hm : m = Nat.min sLen dLen) (hn : cs.length = m * k)
    (hsrc : ∀ j v, cs[j]? = some v → w.cell? (ad.add j) = some v) (hfit : off + cs.length ≤ cur.length) (h1 : ∀ v ∈ cs, v.oneCell' = true)
    (h : ∀ w', Hid (w'.heap[g]? = some (.cells (splice cur off cs).toArray t (0, 0))) → w.grownBy w' (some g) → wpList P ops Q rest (a.put o.dst (goInt m)) w') : wpList P ops Q (o :: rest) a w :=
  wpList_plain hgd fun _ hK => wp_copyK d s dT sT ho elem k hu hsz g off dLen dCap ad sLen sCap m hd hs cur t hg cs hm hn hsrc hfit h1 (fun w' h1 h2 => hK _ _ (h w' h1 h2))
theorem step_copyK {ops : Array Oper} {o : Oper} {a : Act} {w : World} {K : Act → World → Prop} {Q : Exit → Act → World → Prop} {E : Prop} (hgd : o.guard = none) (d s : Operand) (dT sT : TypeId)
    (ho : o.op = .call { callee := .builtin .copy, args := #[d, s], argTypes := #[dT, sT] }) (elem : TypeId) (k : Nat) (hu : P.underlying dT = some (.slice elem)) (hsz : (P.info? elem).map (·.size) = some k)
    (g off dLen dCap : Nat) (ad : Addr) (sLen sCap m : Nat) (hd : a.eval d = .slice (some ⟨g, off, none⟩) dLen dCap) (hs : a.eval s = .slice (some ad) sLen sCap)
    (cur : List Value) (t : TypeId) (hg : w.heap[g]? = some (.cells cur.toArray t (0, 0))) (cs : List Value) (hm : m = Nat.min sLen dLen) (hn : cs.length = m * k)
    (hsrc : ∀ j v, cs[j]? = some v → w.cell? (ad.add j) = some v) (hfit : off + cs.length ≤ cur.length) (h1 : ∀ v ∈ cs, v.oneCell' = true)
    (h : ∀ w', Hid (w'.heap[g]? = some (.cells (splice cur off cs).toArray t (0, 0))) → w.grownBy w' (some g) → K (a.put o.dst (goInt m)) w') :
    if Region.wanted o (yielded ops a.tmps) = true then Oper.wp P o a w K Q else E := by
  have hw : Region.wanted o (yielded ops a.tmps) = true := by simp [Region.wanted, hgd]
  rw [if_pos hw]
  exact wp_copyK d s dT sT ho elem k hu hsz g off dLen dCap ad sLen sCap m hd hs cur t hg cs hm hn hsrc hfit h1 h
end

/-! ### what becomes of a row -/
theorem take_shift {cur xs N : List Value} {a b c : Nat} (hx : cur.take c = xs) (ha : a ≤ c) (hN : N.length = b) (hl : c + b ≤ cur.length) :
    (splice (splice cur (a + b) (xs.drop a)) a N).take (c + b) = xs.take a ++ N ++ xs.drop a := by
  have hxl : xs.length = c := by rw [← hx, List.length_take]; omega
  have e1 : splice cur (a + b) (xs.drop a) = cur.take (a + b) ++ (xs.drop a ++ cur.drop (c + b)) := by
    unfold splice
    rw [List.length_drop, hxl, show a + b + (c - a) = c + b by omega]
  have e2 : (splice cur (a + b) (xs.drop a)).take a = xs.take a := by
    rw [e1, List.take_append_of_le_length (by rw [List.length_take]; omega), List.take_take, Nat.min_eq_left (by omega), ← hx, List.take_take, Nat.min_eq_left ha]
  have e3 : (splice cur (a + b) (xs.drop a)).drop (a + N.length) = xs.drop a ++ cur.drop (c + b) := by
    rw [e1, hN, List.drop_append_of_le_length (by rw [List.length_take]; omega), List.drop_eq_nil_of_le (by rw [List.length_take]; omega), List.nil_append]
  have e4 : splice (splice cur (a + b) (xs.drop a)) a N = (xs.take a ++ N ++ xs.drop a) ++ cur.drop (c + b) := by
    show _ ++ (N ++ _) = _
    rw [e2, e3]
    simp
  rw [e4, List.take_append_of_le_length (by simp; omega), List.take_of_length_le (by simp; omega)]
theorem take_grow {ROW X1 N X2 : List Value} {a b c : Nat} (h1 : ROW.take a = X1) (ha : X1.length = a) (hN : N.length = b) (h2 : X2.length = c) :
    (splice (splice ROW a N) (a + b) X2).take (a + b + c) = X1 ++ N ++ X2 := by
  have e1 : splice ROW a N = (X1 ++ N) ++ ROW.drop (a + b) := by
    show _ ++ (N ++ _) = _
    rw [h1, hN]; simp
  have e2 : splice (splice ROW a N) (a + b) X2 = (X1 ++ N ++ X2) ++ (ROW.drop (a + b)).drop c := by
    show _ ++ (X2 ++ _) = _
    rw [e1, h2, List.take_append_of_le_length (by simp; omega), List.take_of_length_le (by simp; omega), List.drop_append, List.drop_eq_nil_of_le (by simp; omega), List.nil_append]
    simp only [List.length_append, ha, hN]
    rw [show a + b + c - (a + b) = c by omega]
    simp
  rw [e2, List.take_append_of_le_length (by simp; omega), List.take_of_length_le (by simp; omega)]
theorem own_of_row {w : World} {base g n cap sz : Nat} {E : TypeId} {cur : List Value} {xs : List Value} (hg : w.heap[g]? = some (.cells cur.toArray E (0, 0))) (hb : base ≤ g) (hn : n ≤ cap) (hm : cap ≤ maxLen) (hl : cur.length = cap * sz) (hx : cur.take (n * sz) = xs) :
    w.ownsRow base E sz (.slice (some ⟨g, 0, none⟩) n cap) n xs := by
  refine ⟨?_, .inr ⟨g, cap, cur.toArray, rfl, hb, hg, hn, hm, by simpa using hl, by simpa using hx⟩⟩
  rw [← hx, List.length_take, hl]
  exact Nat.min_eq_left (Nat.mul_le_mul_right _ hn)
theorem grown_fresh {w W w' : World} {k : Nat} {r : Option Nat} (h : w.grownBy W r) (h2 : W.grownBy w' (some k)) (hk : w.heap.size ≤ k) : w.grownBy w' r :=
  ⟨h2.os.trans h.os, h2.tape.trans h.tape, h2.output.trans h.output, Nat.le_trans h.size h2.size, fun j hj hne => (h2.block j (Nat.lt_of_lt_of_le hj h.size) (by intro e; injection e with e; omega)).trans (h.block j hj hne)⟩
theorem heap_lt {w : World} {g : Nat} {o : Obj} (h : w.heap[g]? = some o) : g < w.heap.size := (Array.getElem?_eq_some_iff.1 h).1
theorem shape_of {w : World} {g : Nat} {cs : Array Value} {t : TypeId} (h : w.heap[g]? = some (.cells cs t (0, 0))) : w.shape? g = some (t, cs.size) := by simp [World.shape?, h]
end Go.Proofs.Ytcbeadldieeceaa

/-
  slices.Insert of one element into a row of the call's own, by its contract.
-/
namespace Go.Proofs.Ytcbeadldieeceaa
open Go.RowKit

theorem Try.insP_info : (Try.prog.info? 91).map (fun i => (i.zero, i.size, i.bytes)) = some (some (.agg #[.string ByteArray.empty, .string ByteArray.empty]), 2, 32) := by kernel_rfl
theorem Try.insP_size : (Try.prog.info? 91).map (·.size) = some 2 := by kernel_rfl
section
variable (news : Array Value) (hnl : news.size = 2) (h1n : ∀ u ∈ news.toList, u.oneCell' = true) (xs : List Value) (h1x : ∀ u ∈ xs, u.oneCell' = true) (vb : Nat) (T : TypeId) (base n i : Nat)
end
end Go.Proofs.Ytcbeadldieeceaa

/-
  'clear' of a piece of a row that is known whole.
-/
namespace Go.Proofs.Ytcbeadldieeceaa
open Go.RowKit

section
variable {P : Program}
theorem run_clear_rowK (w : World) (t ty e : TypeId) (z : Value) (ht : P.underlying t = some (.slice e)) (hv : ∀ w, (zeroValue e).run P w = .ok z w) (h1 : ∀ u ∈ z.cells.toList, u.oneCell' = true)
    (g o n c : Nat) (cur : List Value) (T : TypeId) (hg : w.heap[g]? = some (.cells cur.toArray T (0, 0))) (hn : 0 < n) (hfit : o + n * z.cells.size ≤ cur.length) :
    (Builtin.clear_ #[t] ty #[.slice (some ⟨g, o, none⟩) n c]).run P w = .ok (.tuple #[]) (w.setRow g (splice cur o (Builtin.zeroCells z.cells n).toList).toArray) := by
  have hzl : (Builtin.zeroCells z.cells n).toList.length = n * z.cells.size := by simp [Builtin.zeroCells]
  have hz1 : ∀ u ∈ (Builtin.zeroCells z.cells n).toList, u.oneCell' = true := by
    intro u hu
    simp only [Builtin.zeroCells, Array.toList_map, Array.toList_range, List.mem_map, List.mem_range] at hu
    obtain ⟨i, hi, rfl⟩ := hu
    have hk : 0 < z.cells.size := by
      rcases Nat.eq_zero_or_pos z.cells.size with h | h
      · rw [h] at hi; omega
      · exact h
    have hm := Nat.mod_lt i hk
    rw [getElem!_pos z.cells _ hm]
    exact h1 _ (by simp)
  have hst := run_storeCells_at P g o T (Builtin.zeroCells z.cells n).toList 0 cur.toArray w hg (by rw [hzl]; simpa using hfit) hz1
  obtain ⟨m, rfl⟩ : ∃ m, n = m + 1 := ⟨n - 1, by omega⟩
  simp [Builtin.clear_, run_underlying ht, hv, hst, splice]
theorem wp_clearK {o : Oper} {a : Act} {w : World} {K : Act → World → Prop} {Q : Exit → Act → World → Prop} (d : Operand) (t : TypeId)
    (ho : o.op = .call { callee := .builtin .clear, args := #[d], argTypes := #[t] }) (e : TypeId) (z : Value) (ht : P.underlying t = some (.slice e)) (hv : ∀ w, (zeroValue e).run P w = .ok z w) (h1 : ∀ u ∈ z.cells.toList, u.oneCell' = true)
    (g off n c : Nat) (hd : a.eval d = .slice (some ⟨g, off, none⟩) n c) (cur : List Value) (T : TypeId) (hg : w.heap[g]? = some (.cells cur.toArray T (0, 0))) (hfit : off + n * z.cells.size ≤ cur.length)
    (h : ∀ w' zs, zs.length = n * z.cells.size → Hid (w'.heap[g]? = some (.cells (splice cur off zs).toArray T (0, 0))) → w.grownBy w' (some g) → K (a.put o.dst (.tuple #[])) w') : o.wp P a w K Q := by
  rcases Nat.eq_zero_or_pos n with h0 | h0
  · subst h0
    have hrun : (Builtin.clear_ #[t] o.type #[.slice (some ⟨g, off, none⟩) 0 c]).run P w = .ok (.tuple #[]) w := by simp [Builtin.clear_, run_underlying ht]
    unfold Oper.wp
    simp [execOp, ho, resolve, invoke, builtin, hd, hrun, Result.andThen]
    exact h w [] (by simp) (show _ = _ by simpa [splice] using hg) (World.grownBy.refl _ _)
  · have hrun := run_clear_rowK (P := P) w t o.type e z ht hv h1 g off n c cur T hg h0 hfit
    unfold Oper.wp
    simp [execOp, ho, resolve, invoke, builtin, hd, hrun, Result.andThen]
    exact h _ _ (by simp [Builtin.zeroCells]) (show _ = _ from setRow_heap w g _ _ T _ hg) (grown_setRow _)
theorem wpList_clearK {w : World} {ops : Array Oper} {rest : List Oper} {o : Oper} {a : Act} {Q : Exit → Act → World → Prop} (hgd : o.guard = none) (d : Operand) (t : TypeId)
    (ho : o.op = .call { callee := .builtin .clear, args := #[d], argTypes := #[t] }) (e : TypeId) (z : Value) (ht : P.underlying t = some (.slice e)) (hv : ∀ w, (zeroValue e).run P w = .ok z w) (h1 : ∀ u ∈ z.cells.toList, u.oneCell' = true)
    (g off n c : Nat) (hd : a.eval d = .slice (some ⟨g, off, none⟩) n c) (cur : List Value) (T : TypeId) (hg : w.heap[g]? = some (.cells cur.toArray T (0, 0))) (hfit : off + n * z.cells.size ≤ cur.length)
    (h : ∀ w' zs, zs.length = n * z.cells.size → Hid (w'.heap[g]? = some (.cells (splice cur off zs).toArray T (0, 0))) → w.grownBy w' (some g) → wpList P ops Q rest (a.put o.dst (.tuple #[])) w') : wpList P ops Q (o :: rest) a w :=
  wpList_plain hgd fun _ hK => wp_clearK d t ho e z ht hv h1 g off n c hd cur T hg hfit (fun w' zs h0 h1 h2 => hK _ _ (h w' zs h0 h1 h2))
end
end Go.Proofs.Ytcbeadldieeceaa

/-
  'append' into a row that is known whole and has room.
-/
namespace Go.Proofs.Ytcbeadldieeceaa
open Go.RowKit

section
variable {P : Program}
theorem run_append_rowK (w : World) (t ty elem : TypeId) (k : Nat) (g sLen sCap : Nat) (a : Addr) (xLen xCap : Nat) (cur : List Value) (T : TypeId) (cs : List Value)
    (hu : P.underlying t = some (.slice elem)) (hs : (P.info? elem).map (·.size) = some k)
    (hg : w.heap[g]? = some (.cells cur.toArray T (0, 0))) (hn : cs.length = xLen * k)
    (hsrc : ∀ j v, cs[j]? = some v → w.cell? (a.add j) = some v) (hfit : sLen * k + cs.length ≤ cur.length) (hroom : sLen + xLen ≤ sCap) (h1 : ∀ v ∈ cs, v.oneCell' = true) :
    (Builtin.append_ #[t, t] ty #[.slice (some ⟨g, 0, none⟩) sLen sCap, .slice (some a) xLen xCap]).run P w =
      .ok (.slice (some ⟨g, 0, none⟩) (sLen + xLen) sCap) (w.setRow g (splice cur (sLen * k) cs).toArray) := by
  have hl := run_loadCells_list (P := P) w a cs hsrc
  have hst := run_storeCells_at P g (sLen * k) T cs 0 cur.toArray w hg (by simpa using hfit) h1
  cases hq : P.info? elem with
  | none => simp [hq] at hs
  | some i =>
    have hi : i.size = k := by simpa [hq] using hs
    simp [Builtin.append_, run_underlying hu, Builtin.lenOf, Builtin.firstCells, sizeOf, typeInfo, hq, hi, ← hn, hl, hroom, addr_add0, hst, splice]
theorem wp_appendK {o : Oper} {a : Act} {w : World} {K : Act → World → Prop} {Q : Exit → Act → World → Prop} (d s : Operand) (t : TypeId)
    (ho : o.op = .call { callee := .builtin .append, args := #[d, s], argTypes := #[t, t] }) (elem : TypeId) (k : Nat) (hu : P.underlying t = some (.slice elem)) (hsz : (P.info? elem).map (·.size) = some k)
    (g sLen sCap : Nat) (ad : Addr) (xLen xCap : Nat) (hd : a.eval d = .slice (some ⟨g, 0, none⟩) sLen sCap) (hs : a.eval s = .slice (some ad) xLen xCap)
    (cur : List Value) (T : TypeId) (hg : w.heap[g]? = some (.cells cur.toArray T (0, 0))) (cs : List Value) (hn : cs.length = xLen * k)
    (hsrc : ∀ j v, cs[j]? = some v → w.cell? (ad.add j) = some v) (hfit : sLen * k + cs.length ≤ cur.length) (hroom : sLen + xLen ≤ sCap) (h1 : ∀ v ∈ cs, v.oneCell' = true)
    (h : ∀ w', Hid (w'.heap[g]? = some (.cells (splice cur (sLen * k) cs).toArray T (0, 0))) → w.grownBy w' (some g) → K (a.put o.dst (.slice (some ⟨g, 0, none⟩) (sLen + xLen) sCap)) w') : o.wp P a w K Q := by
  have hrun := run_append_rowK (P := P) w t o.type elem k g sLen sCap ad xLen xCap cur T cs hu hsz hg hn hsrc hfit hroom h1
  unfold Oper.wp
  simp [execOp, ho, resolve, invoke, builtin, hd, hs, hrun, Result.andThen]
  exact h _ (show _ = _ by simpa [splice] using setRow_heap w g _ _ T _ hg) (grown_setRow _)
theorem step_appendK {ops : Array Oper} {o : Oper} {a : Act} {w : World} {K : Act → World → Prop} {Q : Exit → Act → World → Prop} {E : Prop} (hgd : o.guard = none) (d s : Operand) (t : TypeId)
    (ho : o.op = .call { callee := .builtin .append, args := #[d, s], argTypes := #[t, t] }) (elem : TypeId) (k : Nat) (hu : P.underlying t = some (.slice elem)) (hsz : (P.info? elem).map (·.size) = some k)
    (g sLen sCap : Nat) (ad : Addr) (xLen xCap : Nat) (hd : a.eval d = .slice (some ⟨g, 0, none⟩) sLen sCap) (hs : a.eval s = .slice (some ad) xLen xCap)
    (cur : List Value) (T : TypeId) (hg : w.heap[g]? = some (.cells cur.toArray T (0, 0))) (cs : List Value) (hn : cs.length = xLen * k)
    (hsrc : ∀ j v, cs[j]? = some v → w.cell? (ad.add j) = some v) (hfit : sLen * k + cs.length ≤ cur.length) (hroom : sLen + xLen ≤ sCap) (h1 : ∀ v ∈ cs, v.oneCell' = true)
    (h : ∀ w', Hid (w'.heap[g]? = some (.cells (splice cur (sLen * k) cs).toArray T (0, 0))) → w.grownBy w' (some g) → K (a.put o.dst (.slice (some ⟨g, 0, none⟩) (sLen + xLen) sCap)) w') :
    if Region.wanted o (yielded ops a.tmps) = true then Oper.wp P o a w K Q else E := by
  have hw : Region.wanted o (yielded ops a.tmps) = true := by simp [Region.wanted, hgd]
  rw [if_pos hw]
  exact wp_appendK d s t ho elem k hu hsz g sLen sCap ad xLen xCap hd hs cur T hg cs hn hsrc hfit hroom h1 h
end
end Go.Proofs.Ytcbeadldieeceaa

/-
  slices.Delete of one element, at elements of 2 cells, by its contract.
-/
namespace Go.Proofs.Ytcbeadldieeceaa
open Go.RowKit

theorem Try.delP_size : (Try.prog.info? 91).map (·.size) = some 2 := by kernel_rfl
theorem Try.delP_zero (w : World) : (zeroValue 91).run Try.prog w = .ok (.agg #[.string ByteArray.empty, .string ByteArray.empty]) w := by kernel_rfl
theorem delP_splice (cur : List Value) (n i c0 : Nat) (xs : List Value) (hx : cur.take (n * 2) = xs) (hi : i < n) (hn : n ≤ c0) (hl : cur.length = c0 * 2) (zs : List Value) (hz : zs.length = 1 * 2) :
    (splice (splice cur (i * 2) (xs.drop ((i + 1) * 2))) ((n - 1) * 2) zs).take ((n - 1) * 2) = xs.take (i * 2) ++ xs.drop ((i + 1) * 2) ∧ (splice (splice cur (i * 2) (xs.drop ((i + 1) * 2))) ((n - 1) * 2) zs).length = c0 * 2 := by
  have hxl : xs.length = n * 2 := by rw [← hx, List.length_take]; omega
  have hdl : (xs.drop ((i + 1) * 2)).length = (n - 1 - i) * 2 := by rw [List.length_drop, hxl]; omega
  have h1 : (splice cur (i * 2) (xs.drop ((i + 1) * 2))).length = c0 * 2 := by
    unfold splice
    simp only [List.length_append, List.length_take, List.length_drop] at hdl ⊢
    omega
  refine ⟨?_, ?_⟩
  · have e1 : (splice (splice cur (i * 2) (xs.drop ((i + 1) * 2))) ((n - 1) * 2) zs).take ((n - 1) * 2) = (splice cur (i * 2) (xs.drop ((i + 1) * 2))).take ((n - 1) * 2) := by
      show List.take _ (List.take _ (splice cur (i * 2) (xs.drop ((i + 1) * 2))) ++ (zs ++ _)) = _
      rw [List.take_append_of_le_length (by rw [List.length_take, h1]; omega), List.take_take, Nat.min_self]
    rw [e1]
    have hc : cur.take (i * 2) = xs.take (i * 2) := by rw [← hx, List.take_take, Nat.min_eq_left (by omega)]
    have hL : (xs.take (i * 2) ++ xs.drop ((i + 1) * 2)).length = (n - 1) * 2 := by rw [List.length_append, List.length_take, hdl, hxl]; omega
    show List.take _ (cur.take (i * 2) ++ (xs.drop ((i + 1) * 2) ++ _)) = _
    rw [hc, ← List.append_assoc, List.take_append_of_le_length (by rw [hL]; exact Nat.le_refl _)]
    exact List.take_of_length_le (by rw [hL]; exact Nat.le_refl _)
  · show (List.take _ (splice cur (i * 2) (xs.drop ((i + 1) * 2))) ++ (zs ++ List.drop _ _)).length = _
    rw [List.length_append, List.length_append, List.length_take, List.length_drop, h1, hz]
    omega
end Go.Proofs.Ytcbeadldieeceaa

/-
  The first place of a list at which a predicate holds.
-/
namespace Go.Proofs.Ytcbeadldieeceaa

/-- the first place at which p holds (or the length) -/
def firstP {α : Type} (p : α → Bool) (l : List α) : Nat := (l.takeWhile fun x => !p x).length
def firstI {α : Type} (p : α → Bool) (l : List α) : Int := if firstP p l < l.length then (firstP p l : Int) else -1
theorem firstP_eq {α : Type} (p : α → Bool) (l : List α) (k : Nat) (x : α) (h : ∀ y ∈ l.take k, p y = false) (hx : l[k]? = some x) (hp : p x = true) : firstP p l = k := by
  unfold firstP
  obtain ⟨hk, e⟩ := List.getElem?_eq_some_iff.1 hx
  have hl : l = l.take k ++ x :: l.drop (k + 1) := by
    conv => lhs; rw [← List.take_append_drop k l, List.drop_eq_getElem_cons hk, e]
  conv => lhs; rw [hl]
  rw [List.takeWhile_append_of_pos (by intro y hy; simp [h y hy]), List.takeWhile_cons_of_neg (by simp [hp])]
  simp
  omega
theorem firstP_none {α : Type} (p : α → Bool) (l : List α) (h : ∀ y ∈ l, p y = false) : firstP p l = l.length := by
  unfold firstP
  induction l with
  | nil => rfl
  | cons x r ih =>
    rw [List.takeWhile_cons_of_pos (by simp [h x (by simp)]), List.length_cons, List.length_cons, ih (fun y hy => h y (List.mem_cons_of_mem _ hy))]
theorem firstP_le {α : Type} (p : α → Bool) (l : List α) : firstP p l ≤ l.length := (List.takeWhile_sublist _).length_le
theorem firstP_before {α : Type} (p : α → Bool) (l : List α) : ∀ y ∈ l.take (firstP p l), p y = false := by
  unfold firstP
  induction l with
  | nil => intro y hy; simp at hy
  | cons x r ih =>
    intro y hy
    cases hx : p x with
    | true => rw [List.takeWhile_cons_of_neg (by simp [hx])] at hy; simp at hy
    | false =>
      rw [List.takeWhile_cons_of_pos (by simp [hx]), List.length_cons, List.take_succ_cons] at hy
      rcases List.mem_cons.1 hy with rfl | hy
      · exact hx
      · exact ih y hy

theorem firstI_any {α : Type} (p : α → Bool) (l : List α) : decide ((0 : Int) ≤ firstI p l) = l.any p := by
  unfold firstI
  by_cases h : firstP p l < l.length
  · rw [if_pos h]
    have h1 : l.any p = true := by
      rw [List.any_eq_true]
      by_cases he : ∀ y ∈ l, p y = false
      · rw [firstP_none p l he] at h; omega
      · obtain ⟨y, hy⟩ := Classical.not_forall.1 he
        obtain ⟨hy, hp⟩ := Classical.not_imp.1 hy
        exact ⟨y, hy, by simpa using hp⟩
    rw [h1]
    simp
  · rw [if_neg h]
    have h1 : l.any p = false := by
      rw [List.any_eq_false]
      intro y hy hp
      have hb := firstP_before p l
      rw [List.take_of_length_le (by omega)] at hb
      rw [hb y hy] at hp
      cases hp
    rw [h1]
    rfl
end Go.Proofs.Ytcbeadldieeceaa

/-
  'string(b)' of octets; a row with a mark behind its end (what '[]byte(s)' makes).
-/
namespace Go.Proofs.Ytcbeadldieeceaa
open Go.RowKit
theorem str_of {P : Program} {w : World} {B n c : Nat} {A : Option Addr} {b : List UInt8} (hr : Reads w B 1 A n (bts b)) (hnb : n = b.length) {src dst e : TypeId} (hs : P.underlying src = some (.slice e)) (he : P.underlying e = some (.int .u8)) (hd : P.underlying dst = some .string) :
    (convert src dst (.slice A n c)).run P w = .ok (.string ⟨b.toArray⟩) w := by
  subst hnb
  rcases Nat.eq_zero_or_pos b.length with h | h
  · obtain rfl := List.eq_nil_of_length_eq_zero h
    rw [run_convert_bytes_string w src dst e _ _ c hs he hd]
    cases A <;> simp [Conv.bytesToString, loadCells]
    all_goals rfl
  · obtain ⟨ad, rfl, _, hc⟩ := hr.2 h
    exact run_convert_bytes_back w src dst e ad c b hs he hd (fun j hj => hc j _ (by rw [bts_get, List.getElem?_eq_getElem hj]; rfl))


theorem toList_data (s : ByteArray) : s.toList = s.data.toList := by
  obtain ⟨⟨l⟩⟩ := s
  exact ByteArray.toList_mk l
theorem append_data (a b : ByteArray) : (a ++ b).data.toList = a.data.toList ++ b.data.toList := by simp
theorem mk_data (a : ByteArray) : (⟨a.data.toList.toArray⟩ : ByteArray) = a := by obtain ⟨⟨l⟩⟩ := a; rfl
theorem eq_mk (a : ByteArray) (l : List UInt8) (h : a.data.toList = l) : a = ⟨l.toArray⟩ := by rw [← h, mk_data]

/-- the row that '[]byte(s)' makes -/
theorem bytesWorld_below (w : World) (e : TypeId) (s : ByteArray) : Below w.heap.size w (Lib.bytesWorld w e s) :=
  ⟨rfl, rfl, rfl, by rw [Lib.bytesWorld_size]; omega, fun j hj => Lib.bytesWorld_at_old w e s j hj⟩
theorem bytesWorld_reads (w : World) (e : TypeId) (s : ByteArray) : Reads (Lib.bytesWorld w e s) (w.heap.size + 1) 1 (some ⟨w.heap.size, 0, none⟩) s.size (bts s.data.toList) := by
  refine ⟨by rw [bts_length, Lib.size_eq]; simp, fun hn => ⟨_, rfl, Nat.lt_succ_self _, ?_⟩⟩
  intro j u hu
  have hj : j < s.size := by
    have := (List.getElem?_eq_some_iff.1 hu).1
    rw [bts_length, ← Lib.size_eq] at this
    exact this
  rw [addr_add0, Lib.bytesWorld_cell w e s j hj]
  rw [bts_get, List.getElem?_eq_getElem (by rw [← Lib.size_eq]; exact hj)] at hu
  rw [← hu]
  simp [List.getD, List.getElem?_eq_getElem (show j < s.data.toList.length by rw [← Lib.size_eq]; exact hj)]

/-- a row of which the first n cells bear no mark -/
def RowM (w : World) (g : Nat) (t : TypeId) (n : Nat) (cs : Array Value) : Prop := n ≤ cs.size ∧ ∃ hi, w.heap[g]? = some (.cells cs t (cs.size, hi))
section
variable {w w' : World} {g n : Nat} {t : TypeId} {cs : Array Value}
theorem RowM.lt (h : RowM w g t n cs) : g < w.heap.size := by
  obtain ⟨_, hi, h⟩ := h
  rcases Nat.lt_or_ge g w.heap.size with hlt | hge
  · exact hlt
  · rw [Array.getElem?_eq_none hge] at h; cases h
theorem RowM.cell (h : RowM w g t n cs) (i : Nat) : w.cell? ⟨g, i, none⟩ = cs[i]? := by
  obtain ⟨_, hi, h⟩ := h
  exact cell_of_row w g i cs t (cs.size, hi) h
theorem RowM.frozen (h : RowM w g t n cs) {i : Nat} (hi : i < n) : w.frozen? ⟨g, i, none⟩ = false := by
  obtain ⟨hn, hh, h⟩ := h
  have : ¬ cs.size ≤ i := by omega
  simp [World.frozen?, h, this]
theorem RowM.set_ (h : RowM w g t n cs) (i : Nat) (u : Value) : RowM (w.setCell ⟨g, i, none⟩ u) g t n (cs.setIfInBounds i u) := by
  obtain ⟨hn, hh, h⟩ := h
  refine ⟨by simpa using hn, hh, ?_⟩
  simp [World.setCell, Array.getElem?_modify, h]
theorem RowM.below {B : Nat} (h : RowM w g t n cs) (hb : Below B w w') (hg : g < B) : RowM w' g t n cs := ⟨h.1, h.2.choose, (hb.block g hg).trans h.2.choose_spec⟩
theorem RowM.reads (h : RowM w g t n cs) (b z : List UInt8) (hc : cs = (bts (b ++ z)).toArray) (hn : b.length = n) : Reads w (g + 1) 1 (some ⟨g, 0, none⟩) n (bts b) := by
  refine ⟨by rw [bts_length]; omega, fun _ => ⟨_, rfl, Nat.lt_succ_self _, ?_⟩⟩
  intro j u hu
  rw [addr_add0, h.cell j, hc, List.getElem?_toArray, bts_append, List.getElem?_append_left (List.getElem?_eq_some_iff.1 hu).1]
  exact hu
end
theorem bytesWorld_row (w : World) (e : TypeId) (s : ByteArray) : ∃ z : List UInt8, RowM (Lib.bytesWorld w e s) w.heap.size e s.size (bts (s.data.toList ++ z)).toArray := by
  refine ⟨List.replicate (grownCap w s.size 0 e - s.size) 0, ?_⟩
  have hc : Lib.bytesCells w e s = (bts (s.data.toList ++ List.replicate (grownCap w s.size 0 e - s.size) 0)).toArray := by
    unfold Lib.bytesCells bts
    apply Array.ext'
    simp
  have h := Lib.bytesWorld_at_new w e s
  rw [hc] at h
  exact ⟨by rw [Lib.size_eq]; simp [bts_length], _, h⟩
end Go.Proofs.Ytcbeadldieeceaa

/-
  names.odd, slices.IndexFunc and ContainsFunc (octets), names.Name.
-/
namespace Go.Proofs.Ytcbeadldieeceaa
open Go.RowKit

theorem okB_iff (c : UInt8) : okB c = true ↔ ((97 ≤ (c.toNat : Int) ∧ (c.toNat : Int) ≤ 122) ∨ (48 ≤ (c.toNat : Int) ∧ (c.toNat : Int) ≤ 57)) ∨ (c.toNat : Int) = 45 ∨ (c.toNat : Int) = 95 := by
  unfold okB
  simp only [Bool.or_eq_true, Bool.and_eq_true, decide_eq_true_eq, beq_iff_eq, UInt8.le_iff_toNat_le, ← UInt8.toNat_inj]
  have e1 : (97 : UInt8).toNat = 97 := rfl
  have e2 : (122 : UInt8).toNat = 122 := rfl
  have e3 : (48 : UInt8).toNat = 48 := rfl
  have e4 : (57 : UInt8).toNat = 57 := rfl
  have e5 : (45 : UInt8).toNat = 45 := rfl
  have e6 : (95 : UInt8).toNat = 95 := rfl
  omega
theorem odd_any (c : UInt8) (w : World) : Calls Try.prog 92 #[.int .u8 (c.toNat : Int)] w fun e w' => e = .returned (.bool (!okB c)) ∧ w' = w := by
  have hc : c.toNat < 256 := c.toNat_lt
  have hk := Lib.hid (okB_iff c)
  go_enter Try.func92, Try.ntmps92
  go_wp2
  all_goals go_ret
  all_goals refine ⟨congrArg Ending.returned (congrArg Value.bool ?_), rfl⟩
  all_goals rw [Bool.eq_iff_iff, Bool.not_eq_true', ← Bool.not_eq_true, hk.out]
  all_goals simp
  all_goals omega

/-! ### IndexFunc, ContainsFunc: a function value that captures nothing -/
set_option maxRecDepth 100000 in
set_option maxHeartbeats 1000000 in
theorem fiB_index {α : Type} (f : α → Value) (p : α → Bool) (l : List α) (n : Nat) (hnl : n = l.length) (A : Option Addr) (c : Nat) (w : World) (B : Nat)
    (hr : Reads w B 1 A n (l.map f)) (hB : B ≤ w.heap.size) (hn : n ≤ 5000000000000)
    (hp : ∀ x ∈ l, ∀ W, Calls Try.prog 92 #[f x] W fun e W' => e = .returned (.bool (p x)) ∧ Below W.heap.size W W') :
    Calls Try.prog 101 #[.slice A n c, .func (.func 92) #[] #[]] w fun e w' => e = .returned (.int .i64 (firstI p l)) ∧ Below w.heap.size w w' := by
  have HN := Lib.hid hnl
  have HP := Lib.hid hp
  clear hnl hp
  go_enter Try.func101, Try.ntmps101
  go_wp2_with fail
  go_loopw [8] (fun j wr => ∃ k : Nat, k ≤ n ∧ j = .int .i64 (k : Int) ∧ Hid (∀ y ∈ l.take k, p y = false) ∧ Below w.heap.size w wr) (fun j _ => n - (intOf j).toNat)
  case atStart => exact ⟨0, Nat.zero_le _, rfl, (show ∀ y ∈ _, _ by simp), Below.refl _ _⟩
  case round =>
    obtain ⟨k, hk, rfl, hno, hbw⟩ := hrel
    by_cases hlt : k < n
    · have hki : (k : Int) < (n : Int) := by omega
      have hkl : k < l.length := by have := HN.out; omega
      obtain ⟨ad, u, rfl, _, hxu, hcell⟩ := (hr.below (hbw.mono hB)).at_ hlt
      obtain ⟨x, hx⟩ : ∃ x, x = l[k]'hkl := ⟨_, rfl⟩
      have hux : u = f x := by
        rw [List.getElem?_map, List.getElem?_eq_getElem hkl] at hxu
        rw [hx]
        exact (Option.some.inj hxu).symm
      subst hux
      clear hxu
      have htk := List.take_succ_eq_append_getElem hkl
      rw [← hx] at htk
      have HTK := Lib.hid htk
      have HX := Lib.hid (show l[k]? = some x by rw [hx]; exact List.getElem?_eq_getElem _)
      have hc := HP.out x (List.mem_of_getElem? HX.out) wr
      obtain ⟨b, hb⟩ : ∃ b, b = p x := ⟨_, rfl⟩
      rw [← hb] at hc
      have HBX := Lib.hid hb
      clear hx htk hr hb
      obtain ⟨fx, hfx⟩ : ∃ v, v = f x := ⟨_, rfl⟩
      rw [← hfx] at hc hcell
      clear hfx
      go_wp2_with fail
      refine hc.mono ?_
      clear hc
      rintro e w1 ⟨rfl, hb1⟩
      have hbw1 := hbw.trans (hb1.mono hbw.size)
      cases b with
      | true =>
        go_wp2_with fail
        go_ret
        have hf := firstP_eq p l k x hno.out HX.out HBX.out.symm
        exact ⟨by unfold firstI; rw [hf, if_pos hkl]; rfl, hbw1⟩
      | false =>
        go_wp2_with fail
        go_roundw
        case rel =>
          refine ⟨k + 1, by omega, by go_num, ?_, hbw1⟩
          show ∀ y ∈ l.take (k + 1), p y = false
          intro y hy
          rw [HTK.out] at hy
          rcases List.mem_append.1 hy with hy | hy
          · exact hno.out y hy
          · simp at hy; subst hy; exact HBX.out.symm
        case measure => simp [intOf]; omega
    · have hkn : k = n := by omega
      have HF : Hid (firstI p l = -1) := by
        show _ = _
        unfold firstI
        rw [firstP_none p l (fun y hy => hno.out y (by rw [List.take_of_length_le (by rw [hkn, HN.out]; exact Nat.le_refl _)]; exact hy)), if_neg (Nat.lt_irrefl _)]
      clear hr hkn
      go_wp2_with fail
      go_ret
      exact ⟨by rw [HF.out]; rfl, hbw⟩
theorem fiB_contains {α : Type} (f : α → Value) (p : α → Bool) (l : List α) (n : Nat) (hnl : n = l.length) (A : Option Addr) (c : Nat) (w : World) (B : Nat)
    (hr : Reads w B 1 A n (l.map f)) (hB : B ≤ w.heap.size) (hn : n ≤ 5000000000000)
    (hp : ∀ x ∈ l, ∀ W, Calls Try.prog 92 #[f x] W fun e W' => e = .returned (.bool (p x)) ∧ Below W.heap.size W W') :
    Calls Try.prog 91 #[.slice A n c, .func (.func 92) #[] #[]] w fun e w' => e = .returned (.bool (l.any p)) ∧ Below w.heap.size w w' := by
  have hcall := Lib.hid (fiB_index f p l n hnl A c w B hr hB hn hp)
  have HA := Lib.hid (firstI_any p l)
  clear hnl hr hp
  go_enter Try.func91, Try.ntmps91
  go_wp2_with fail
  refine hcall.out.mono ?_
  rintro e w1 ⟨rfl, hb⟩
  go_wp2_with fail
  go_ret
  exact ⟨by rw [← HA.out]; rfl, hb⟩
set_option maxRecDepth 100000 in
set_option maxHeartbeats 1000000 in
theorem name_any (s : ByteArray) (w : World) : Calls Try.prog 72 #[.string s] w fun e w' => e = .returned (.bool (nameB s.data.toList)) ∧ Below w.heap.size w w' := by
  have hcv := Lib.hid (Lib.run_convert_string_bytes (P := Try.prog) w 9 27 5 s Try.underlying9 Try.underlying27 Try.underlying5)
  have hb := Lib.hid (bytesWorld_below w 5 s)
  have hr := Lib.hid (bytesWorld_reads w 5 s)
  have hsz := Lib.hid (Lib.size_eq s)
  have htl := Lib.hid (toList_data s)
  go_enter Try.func72, Try.ntmps72
  go_wp2_with fail
  · have h0 : s.toList = [] := by assumption
    rw [htl.out] at h0
    go_ret
    exact ⟨by rw [h0]; rfl, Below.refl _ _⟩
  · have h0 : ¬ s.toList = [] := by assumption
    have h16 : (s.size : Int) ≤ 16 := by assumption
    rw [htl.out] at h0
    rw [hcv.out]
    have hB := hb.out.size
    have hc := Lib.hid (fiB_contains (fun c : UInt8 => Value.int .u8 (c.toNat : Int)) (fun c => !okB c) s.data.toList s.size hsz.out (some ⟨w.heap.size, 0, none⟩) (grownCap w s.size 0 5) (Lib.bytesWorld w 5 s) (w.heap.size + 1) hr.out
      (by rw [Lib.bytesWorld_size]; omega) (by omega) (fun x _ W => (odd_any x W).mono fun _ _ ⟨h1, h2⟩ => ⟨h1, by rw [h2]; exact Below.refl _ _⟩))
    have hne := Lib.hid h0
    clear h0
    obtain ⟨b, hbe0⟩ : ∃ b, b = s.data.toList.any fun c => !okB c := ⟨_, rfl⟩
    rw [← hbe0] at hc
    have hbe := Lib.hid hbe0
    clear hbe0
    go_wp2_with fail
    refine hc.out.mono ?_
    rintro e w1 ⟨rfl, hb1⟩
    go_wp2_with fail
    go_ret
    refine ⟨congrArg Ending.returned (congrArg Value.bool ?_), hb.out.trans (hb1.mono hB)⟩
    have e1 : s.data.toList.isEmpty = false := by
      cases he : s.data.toList with
      | nil => exact absurd he hne.out
      | cons a r => rfl
    have e2 : decide (s.data.toList.length ≤ 16) = true := by
      rw [← hsz.out]
      exact decide_eq_true (by omega)
    unfold nameB
    rw [e1, e2, List.all_eq_not_any_not, ← hbe.out, htl.out, e1]
    rfl
  · have h16 : 16 < (s.size : Int) := by assumption
    go_ret
    refine ⟨congrArg Ending.returned (congrArg Value.bool ?_), Below.refl _ _⟩
    have e2 : decide (s.data.toList.length ≤ 16) = false := by
      rw [← hsz.out]
      exact decide_eq_false (by omega)
    unfold nameB
    rw [e2]
    simp

end Go.Proofs.Ytcbeadldieeceaa
