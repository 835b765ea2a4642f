/-
  Lists of elements of several cells each, in memory: the cells of one element; where a sorted list is parted.
-/
import Derived.Lib.Overlaps
import Derived.Lib.AppendZerosOnto
import Derived.Deep.RegionLaw
import Derived.Test.YthfjfkjlgdnohaaRows
import Derived.Handy
import Derived.Lib.AppendZeros
import Derived.Lib.Hide
import Derived.Test.YthfjfkjlgdnohaaZ1
namespace Go.Proofs.Ythfjfkjlgdnohaa
open Go.RowKit

section
variable {α : Type}
def cellsK (enc : α → List Value) (l : List α) : List Value := l.flatMap enc
theorem cellsK_nil (enc : α → List Value) : cellsK enc [] = [] := rfl
theorem cellsK_append (enc : α → List Value) (a b : List α) : cellsK enc (a ++ b) = cellsK enc a ++ cellsK enc b := by simp [cellsK]
theorem cellsK_one (enc : α → List Value) (x : α) : cellsK enc [x] = enc x := by simp [cellsK]
theorem cellsK_length {enc : α → List Value} {k : Nat} (hk : ∀ x, (enc x).length = k) (l : List α) : (cellsK enc l).length = l.length * k := by
  induction l with
  | nil => simp [cellsK]
  | cons x l ih =>
    simp only [cellsK, List.flatMap_cons, List.length_append, List.length_cons] at ih ⊢
    rw [ih, hk, Nat.add_mul, Nat.one_mul, Nat.add_comm]
theorem cellsK_get {enc : α → List Value} {k : Nat} (hk : ∀ x, (enc x).length = k) (l : List α) (i : Nat) (h : i < l.length) (j : Nat) (hj : j < k) : (cellsK enc l)[i * k + j]? = (enc l[i])[j]? := by
  induction l generalizing i with
  | nil => simp at h
  | cons x l ih =>
    have e : cellsK enc (x :: l) = enc x ++ cellsK enc l := rfl
    rw [e]
    cases i with
    | zero => rw [Nat.zero_mul, Nat.zero_add, List.getElem?_append_left (by rw [hk]; exact hj)]; rfl
    | succ i =>
      rw [List.getElem?_append_right (by rw [hk, Nat.add_mul]; omega), hk, show (i + 1) * k + j - k = i * k + j by rw [Nat.add_mul]; omega]
      exact ih i (by simpa using h)
theorem cellsK_take {enc : α → List Value} {k : Nat} (hk : ∀ x, (enc x).length = k) (l : List α) (i : Nat) : cellsK enc (l.take i) = (cellsK enc l).take (i * k) := by
  induction l generalizing i with
  | nil => simp [cellsK]
  | cons x l ih =>
    cases i with
    | zero => simp [cellsK]
    | succ i =>
      have e : cellsK enc (x :: l) = enc x ++ cellsK enc l := rfl
      have e2 : cellsK enc ((x :: l).take (i + 1)) = enc x ++ cellsK enc (l.take i) := rfl
      rw [e, e2, ih, List.take_append, hk, List.take_of_length_le (l := enc x) (by rw [hk, Nat.add_mul]; omega), show (i + 1) * k - k = i * k by rw [Nat.add_mul]; omega]
theorem cellsK_drop {enc : α → List Value} {k : Nat} (hk : ∀ x, (enc x).length = k) (l : List α) (i : Nat) : cellsK enc (l.drop i) = (cellsK enc l).drop (i * k) := by
  induction l generalizing i with
  | nil => simp [cellsK]
  | cons x l ih =>
    cases i with
    | zero => simp
    | succ i =>
      have e : cellsK enc (x :: l) = enc x ++ cellsK enc l := rfl
      rw [e, List.drop_succ_cons, ih, List.drop_append, hk, @List.drop_eq_nil_of_le _ (enc x) _ (by rw [hk, Nat.add_mul]; omega), List.nil_append, show (i + 1) * k - k = i * k by rw [Nat.add_mul]; omega]
theorem Reads.elK {enc : α → List Value} {k : Nat} (hk : ∀ x, (enc x).length = k) {w : World} {B n : Nat} {A : Option Addr} {l : List α} (h : Reads w B k A n (cellsK enc l)) (hn : n = l.length) {i : Nat} (hi : i < n) :
    ∃ ad, A = some ad ∧ ad.block < B ∧ ∀ j, j < k → w.cell? ((ad.add (i * k)).add j) = (enc (l[i]'(by omega)))[j]? := by
  obtain ⟨ad, e, hb, hc⟩ := h.2 (by omega)
  refine ⟨ad, e, hb, fun j hj => ?_⟩
  have hl : j < (enc (l[i]'(by omega))).length := by rw [hk]; exact hj
  rw [List.getElem?_eq_getElem hl, add_of_add]
  exact hc _ _ ((cellsK_get hk l i (by omega) j hj).trans (List.getElem?_eq_getElem hl))
theorem addr_add_succ (a : Addr) (j : Nat) : a.add (j + 1) = ⟨a.block, a.off + (j + 1), none⟩ := by simp [Addr.add]
theorem Reads.el2 {f0 f1 : α → Value} {w : World} {B n : Nat} {A : Option Addr} {l : List α} (h : Reads w B 2 A n (cellsK (fun x => [f0 x, f1 x]) l)) (hn : n = l.length) {i : Nat} (hi : i < n) :
    ∃ ad, A = some ad ∧ ad.block < B ∧ w.cell? (ad.add (i * 2)) = some (f0 (l[i]'(by omega))) ∧ w.cell? ⟨(ad.add (i * 2)).block, (ad.add (i * 2)).off + 1, none⟩ = some (f1 (l[i]'(by omega))) := by
  obtain ⟨ad, e, hb, hc⟩ := Reads.elK (k := 2) (fun _ => rfl) h hn hi
  refine ⟨ad, e, hb, ?_, ?_⟩
  · have := hc 0 (by omega); rwa [add_zero] at this
  · have := hc 1 (by omega); rwa [addr_add_succ] at this
theorem Reads.el3 {f0 f1 f2 : α → Value} {w : World} {B n : Nat} {A : Option Addr} {l : List α} (h : Reads w B 3 A n (cellsK (fun x => [f0 x, f1 x, f2 x]) l)) (hn : n = l.length) {i : Nat} (hi : i < n) :
    ∃ ad, A = some ad ∧ ad.block < B ∧ w.cell? (ad.add (i * 3)) = some (f0 (l[i]'(by omega))) ∧ w.cell? ⟨(ad.add (i * 3)).block, (ad.add (i * 3)).off + 1, none⟩ = some (f1 (l[i]'(by omega))) ∧ w.cell? ⟨(ad.add (i * 3)).block, (ad.add (i * 3)).off + 2, none⟩ = some (f2 (l[i]'(by omega))) := by
  obtain ⟨ad, e, hb, hc⟩ := Reads.elK (k := 3) (fun _ => rfl) h hn hi
  refine ⟨ad, e, hb, ?_, ?_, ?_⟩
  · have := hc 0 (by omega); rwa [add_zero] at this
  · have := hc 1 (by omega); rwa [addr_add_succ] at this
  · have := hc 2 (by omega); rwa [addr_add_succ] at this

/-! ### where a list is parted -/
def posF (cf : α → Int) (l : List α) : Nat := (l.takeWhile fun x => decide (cf x < 0)).length
def atF (cf : α → Int) (l : List α) : Bool := (l[posF cf l]?).any fun x => cf x == 0
def SignAsc (cf : α → Int) (l : List α) : Prop := ∀ (i j : Nat) x y, i < j → l[i]? = some x → l[j]? = some y → cf y < 0 → cf x < 0
theorem posF_le (cf : α → Int) (l : List α) : posF cf l ≤ l.length := by
  unfold posF
  exact (List.takeWhile_sublist _).length_le
theorem posF_eq (cf : α → Int) (l : List α) (a : Nat) (ha : a ≤ l.length) (h1 : ∀ k x, k < a → l[k]? = some x → cf x < 0) (h2 : ∀ x, l[a]? = some x → 0 ≤ cf x) : posF cf l = a := by
  unfold posF
  induction l generalizing a with
  | nil => simp at ha; simp [ha]
  | cons y r ih =>
    cases a with
    | zero =>
      have := h2 y rfl
      rw [List.takeWhile_cons_of_neg (by simp; omega)]
      rfl
    | succ a =>
      have := h1 0 y (by omega) rfl
      rw [List.takeWhile_cons_of_pos (by simpa using this), List.length_cons]
      have := ih a (by simpa using ha) (fun k x hk hx => h1 (k + 1) x (by omega) (by simpa using hx)) (fun x hx => h2 x (by simpa using hx))
      omega
end
end Go.Proofs.Ythfjfkjlgdnohaa

/-
  'copy' at elements of several cells into a row that is known whole; the plain facts of what slices.Insert and slices.Delete make of a row.
-/
namespace Go.Proofs.Ythfjfkjlgdnohaa
open Go.RowKit

section
variable {P : Program}
theorem run_copy_rowK (w : World) (dT sT ty elem : TypeId) (k : Nat) (g o dLen dCap : Nat) (a : Addr) (sLen sCap m : Nat) (cur : Array Value) (t : TypeId) (cs : List Value)
    (hu : P.underlying dT = some (.slice elem)) (hs : (P.info? elem).map (·.size) = some k)
    (hg : w.heap[g]? = some (.cells cur t (0, 0))) (hm : m = Nat.min sLen dLen) (hn : cs.length = m * k)
    (hsrc : ∀ j v, cs[j]? = some v → w.cell? (a.add j) = some v) (hfit : o + cs.length ≤ cur.size) (h1 : ∀ v ∈ cs, v.oneCell' = true) :
    (Builtin.copy_ #[dT, sT] ty #[.slice (some ⟨g, o, none⟩) dLen dCap, .slice (some a) sLen sCap]).run P w =
      .ok (goInt m) (w.setRow g (cur.toList.take o ++ cs ++ cur.toList.drop (o + cs.length)).toArray) := by
  have hl := run_loadCells_list (P := P) w a cs hsrc
  have hst := run_storeCells_at P g o t cs 0 cur w hg (by simpa using hfit) h1
  cases hq : P.info? elem with
  | none => simp [hq] at hs
  | some i =>
    have hi : i.size = k := by simpa [hq] using hs
    simp [Builtin.copy_, run_underlying hu, Builtin.lenOf, Builtin.firstCells, sizeOf, typeInfo, hq, hi, ← hm, ← hn, hl, hst]

theorem grown_setRow {w : World} {g : Nat} (cs : Array Value) : w.grownBy (w.setRow g cs) (some g) :=
  ⟨rfl, rfl, rfl, by simp [World.setRow], fun k hk hne => setRow_other w g k cs (by intro e; exact hne (by rw [e]))⟩
theorem grown_drew {w w' : World} {r : Option Nat} (h : w.drew.grownBy w' r) : w.grownBy w' r := ⟨h.os, h.tape, h.output, h.size, h.block⟩

theorem wp_copyK {o : Oper} {a : Act} {w : World} {K : Act → World → Prop} {Q : Exit → Act → World → Prop} (d s : Operand) (dT sT : TypeId)
    (ho : o.op = .call { callee := .builtin .copy, args := #[d, s], argTypes := #[dT, sT] }) (elem : TypeId) (k : Nat) (hu : P.underlying dT = some (.slice elem)) (hsz : (P.info? elem).map (·.size) = some k)
    (g off dLen dCap : Nat) (ad : Addr) (sLen sCap m : Nat) (hd : a.eval d = .slice (some ⟨g, off, none⟩) dLen dCap) (hs : a.eval s = .slice (some ad) sLen sCap)
    (cur : List Value) (t : TypeId) (hg : w.heap[g]? = some (.cells cur.toArray t (0, 0))) (cs : List Value) (hm : m = Nat.min sLen dLen) (hn : cs.length = m * k)
    (hsrc : ∀ j v, cs[j]? = some v → w.cell? (ad.add j) = some v) (hfit : off + cs.length ≤ cur.length) (h1 : ∀ v ∈ cs, v.oneCell' = true)
    (h : ∀ w', Hid (w'.heap[g]? = some (.cells (splice cur off cs).toArray t (0, 0))) → w.grownBy w' (some g) → K (a.put o.dst (goInt m)) w') : o.wp P a w K Q := by
  have hrun := run_copy_rowK (P := P) w dT sT o.type elem k g off dLen dCap ad sLen sCap m cur.toArray t cs hu hsz hg hm hn hsrc (by simpa using hfit) h1
  unfold Oper.wp
  simp [execOp, ho, resolve, invoke, builtin, hd, hs, hrun, Result.andThen]
  exact h _ (show _ = _ by simpa [splice] using setRow_heap w g _ _ t _ hg) (grown_setRow _)
theorem wpList_copyK {w : World} {ops : Array Oper} {rest : List Oper} {o : Oper} {a : Act} {Q : Exit → Act → World → Prop} (hgd : o.guard = none) (d s : Operand) (dT sT : TypeId)
    (ho : o.op = .call { callee := .builtin .copy, args := #[d, s], argTypes := #[dT, sT] }) (elem : TypeId) (k : Nat) (hu : P.underlying dT = some (.slice elem)) (hsz : (P.info? elem).map (·.size) = some k)
    (g off dLen dCap : Nat) (ad : Addr) (sLen sCap m : Nat) (hd : a.eval d = .slice (some ⟨g, off, none⟩) dLen dCap) (hs : a.eval s = .slice (some ad) sLen sCap)
    (cur : List Value) (t : TypeId) (hg : w.heap[g]? = some (.cells cur.toArray t (0, 0))) (cs : List Value) (hm : m = Nat.min sLen dLen) (hn : cs.length = m * k)
    (hsrc : ∀ j v, cs[j]? = some v → w.cell? (ad.add j) = some v) (hfit : off + cs.length ≤ cur.length) (h1 : ∀ v ∈ cs, v.oneCell' = true)
    (h : ∀ w', Hid (w'.heap[g]? = some (.cells (splice cur off cs).toArray t (0, 0))) → w.grownBy w' (some g) → wpList P ops Q rest (a.put o.dst (goInt m)) w') : wpList P ops Q (o :: rest) a w :=
  wpList_plain hgd fun _ hK => wp_copyK d s dT sT ho elem k hu hsz g off dLen dCap ad sLen sCap m hd hs cur t hg cs hm hn hsrc hfit h1 (fun w' h1 h2 => hK _ _ (h w' h1 h2))
theorem step_copyK {ops : Array Oper} {o : Oper} {a : Act} {w : World} {K : Act → World → Prop} {Q : Exit → Act → World → Prop} {E : Prop} (hgd : o.guard = none) (d s : Operand) (dT sT : TypeId)
    (ho : o.op = .call { callee := .builtin .copy, args := #[d, s], argTypes := #[dT, sT] }) (elem : TypeId) (k : Nat) (hu : P.underlying dT = some (.slice elem)) (hsz : (P.info? elem).map (·.size) = some k)
    (g off dLen dCap : Nat) (ad : Addr) (sLen sCap m : Nat) (hd : a.eval d = .slice (some ⟨g, off, none⟩) dLen dCap) (hs : a.eval s = .slice (some ad) sLen sCap)
    (cur : List Value) (t : TypeId) (hg : w.heap[g]? = some (.cells cur.toArray t (0, 0))) (cs : List Value) (hm : m = Nat.min sLen dLen) (hn : cs.length = m * k)
    (hsrc : ∀ j v, cs[j]? = some v → w.cell? (ad.add j) = some v) (hfit : off + cs.length ≤ cur.length) (h1 : ∀ v ∈ cs, v.oneCell' = true)
    (h : ∀ w', Hid (w'.heap[g]? = some (.cells (splice cur off cs).toArray t (0, 0))) → w.grownBy w' (some g) → K (a.put o.dst (goInt m)) w') :
    if Region.wanted o (yielded ops a.tmps) = true then Oper.wp P o a w K Q else E := by
  have hw : Region.wanted o (yielded ops a.tmps) = true := by simp [Region.wanted, hgd]
  rw [if_pos hw]
  exact wp_copyK d s dT sT ho elem k hu hsz g off dLen dCap ad sLen sCap m hd hs cur t hg cs hm hn hsrc hfit h1 h
end

/-! ### what becomes of a row -/
theorem take_shift {cur xs N : List Value} {a b c : Nat} (hx : cur.take c = xs) (ha : a ≤ c) (hN : N.length = b) (hl : c + b ≤ cur.length) :
    (splice (splice cur (a + b) (xs.drop a)) a N).take (c + b) = xs.take a ++ N ++ xs.drop a := by
  have hxl : xs.length = c := by rw [← hx, List.length_take]; omega
  have e1 : splice cur (a + b) (xs.drop a) = cur.take (a + b) ++ (xs.drop a ++ cur.drop (c + b)) := by
    unfold splice
    rw [List.length_drop, hxl, show a + b + (c - a) = c + b by omega]
  have e2 : (splice cur (a + b) (xs.drop a)).take a = xs.take a := by
    rw [e1, List.take_append_of_le_length (by rw [List.length_take]; omega), List.take_take, Nat.min_eq_left (by omega), ← hx, List.take_take, Nat.min_eq_left ha]
  have e3 : (splice cur (a + b) (xs.drop a)).drop (a + N.length) = xs.drop a ++ cur.drop (c + b) := by
    rw [e1, hN, List.drop_append_of_le_length (by rw [List.length_take]; omega), List.drop_eq_nil_of_le (by rw [List.length_take]; omega), List.nil_append]
  have e4 : splice (splice cur (a + b) (xs.drop a)) a N = (xs.take a ++ N ++ xs.drop a) ++ cur.drop (c + b) := by
    show _ ++ (N ++ _) = _
    rw [e2, e3]
    simp
  rw [e4, List.take_append_of_le_length (by simp; omega), List.take_of_length_le (by simp; omega)]
theorem take_grow {ROW X1 N X2 : List Value} {a b c : Nat} (h1 : ROW.take a = X1) (ha : X1.length = a) (hN : N.length = b) (h2 : X2.length = c) :
    (splice (splice ROW a N) (a + b) X2).take (a + b + c) = X1 ++ N ++ X2 := by
  have e1 : splice ROW a N = (X1 ++ N) ++ ROW.drop (a + b) := by
    show _ ++ (N ++ _) = _
    rw [h1, hN]; simp
  have e2 : splice (splice ROW a N) (a + b) X2 = (X1 ++ N ++ X2) ++ (ROW.drop (a + b)).drop c := by
    show _ ++ (X2 ++ _) = _
    rw [e1, h2, List.take_append_of_le_length (by simp; omega), List.take_of_length_le (by simp; omega), List.drop_append, List.drop_eq_nil_of_le (by simp; omega), List.nil_append]
    simp only [List.length_append, ha, hN]
    rw [show a + b + c - (a + b) = c by omega]
    simp
  rw [e2, List.take_append_of_le_length (by simp; omega), List.take_of_length_le (by simp; omega)]
theorem own_of_row {w : World} {base g n cap sz : Nat} {E : TypeId} {cur : List Value} {xs : List Value} (hg : w.heap[g]? = some (.cells cur.toArray E (0, 0))) (hb : base ≤ g) (hn : n ≤ cap) (hm : cap ≤ maxLen) (hl : cur.length = cap * sz) (hx : cur.take (n * sz) = xs) :
    w.ownsRow base E sz (.slice (some ⟨g, 0, none⟩) n cap) n xs := by
  refine ⟨?_, .inr ⟨g, cap, cur.toArray, rfl, hb, hg, hn, hm, by simpa using hl, by simpa using hx⟩⟩
  rw [← hx, List.length_take, hl]
  exact Nat.min_eq_left (Nat.mul_le_mul_right _ hn)
theorem grown_fresh {w W w' : World} {k : Nat} {r : Option Nat} (h : w.grownBy W r) (h2 : W.grownBy w' (some k)) (hk : w.heap.size ≤ k) : w.grownBy w' r :=
  ⟨h2.os.trans h.os, h2.tape.trans h.tape, h2.output.trans h.output, Nat.le_trans h.size h2.size, fun j hj hne => (h2.block j (Nat.lt_of_lt_of_le hj h.size) (by intro e; injection e with e; omega)).trans (h.block j hj hne)⟩
theorem heap_lt {w : World} {g : Nat} {o : Obj} (h : w.heap[g]? = some o) : g < w.heap.size := (Array.getElem?_eq_some_iff.1 h).1
theorem shape_of {w : World} {g : Nat} {cs : Array Value} {t : TypeId} (h : w.heap[g]? = some (.cells cs t (0, 0))) : w.shape? g = some (t, cs.size) := by simp [World.shape?, h]
end Go.Proofs.Ythfjfkjlgdnohaa

/-
  slices.Insert of one element into a row of the call's own, by its contract.
-/
namespace Go.Proofs.Ythfjfkjlgdnohaa
open Go.RowKit

theorem Try.insP_info : (Try.prog.info? 99).map (fun i => (i.zero, i.size, i.bytes)) = some (some (.agg #[.string ByteArray.empty, .string ByteArray.empty]), 2, 32) := by kernel_rfl
theorem Try.insP_size : (Try.prog.info? 99).map (·.size) = some 2 := by kernel_rfl
theorem Try.insP_ov : Try.prog.funcs[114]? = some Try.f114 := by kernel_rfl

section
variable (news : Array Value) (hnl : news.size = 2) (h1n : ∀ u ∈ news.toList, u.oneCell' = true) (xs : List Value) (h1x : ∀ u ∈ xs, u.oneCell' = true) (vb : Nat) (T : TypeId) (base n i : Nat)
set_option maxRecDepth 100000 in
include hnl h1n h1x in
theorem insP_shift (g c0 : Nat) (w : World) (cur : List Value) (hlt : i < n) (hroom : n + 1 ≤ c0) (hcm : c0 ≤ maxLen) (hg : w.heap[g]? = some (.cells cur.toArray 99 (0, 0))) (hcl : cur.length = c0 * 2) (hxs : cur.take (n * 2) = xs) (hbg : base ≤ g) (hv : Blk w vb T news) (hne : g ≠ vb) :
    Calls Try.prog 83 #[.slice (some ⟨g, 0, none⟩) n c0, .int .i64 i, .slice (some ⟨vb, 0, none⟩) 1 1] w fun e w' =>
      ∃ v, e = .returned v ∧ w'.ownsRow base 99 2 v (n + 1) (xs.take (i * 2) ++ news.toList ++ xs.drop (i * 2)) ∧ w.grownBy w' (some g) := by
  have hxl : xs.length = n * 2 := by rw [← hxs, List.length_take, hcl]; omega
  have hsb := shape_of hg
  have hsa := shape_of hv
  have HX2 := Lib.hid (show ∀ (j : Nat) (u : Value), (xs.drop (i * 2))[j]? = some u → w.cell? ((⟨g, i * 2, none⟩ : Addr).add j) = some u from fun j u hj => by
    rw [List.getElem?_drop] at hj
    have e : (⟨g, i * 2, none⟩ : Addr).add j = ⟨g, i * 2 + j, none⟩ := by unfold Addr.add; split <;> simp_all
    rw [e, Blk.cell (t := 99) hg, ← hj, ← hxs, List.getElem?_take, if_pos (by have := (List.getElem?_eq_some_iff.1 hj).1; omega)]
    simp)
  have HV := Lib.hid (show ∀ (w' : World), w.grownBy w' (some g) → ∀ (j : Nat) (u : Value), news.toList[j]? = some u → w'.cell? ((⟨vb, 0, none⟩ : Addr).add j) = some u from fun w' hg' j u hj => by
    rw [addr_add0, (hv.grown hg' (by intro e; injection e with e; exact hne e.symm)).cell j]
    simpa using hj)
  have hov : ∀ lb cb, (callFunc 114 #[.slice (some ⟨vb, 0, none⟩) 1 1, .slice (some ⟨g, (i + 1) * 2, none⟩) lb cb]).run Try.prog w = .ok (.value (.bool false)) w := fun lb cb => by
    rw [run_callFunc_extern Try.insP_ov (by kernel_rfl) (by kernel_rfl) (by kernel_rfl) (e := Extern.SlicesOverlaps.overlaps #[22, 22] #[4]) (by kernel_rfl),
      Lib.run_overlaps_apart w 22 4 99 Try.underlying22 2 (by intro w; exact Try.sizeOf99 w) ⟨vb, 0, none⟩ ⟨g, (i + 1) * 2, none⟩ 1 1 lb cb (fun e => hne e.symm) T 99 news.size cur.toArray.size hsa hsb (by rw [List.size_toArray, hcl]; omega) (hv.frozen 0) (by rw [hnl]; exact hv.frozen 2)]
    rfl
  have HG := Lib.hid hg
  have HXS := Lib.hid hxs
  have HCL := Lib.hid hcl
  have HXL := Lib.hid hxl
  have HN := Lib.hid hnl
  unfold maxLen at hcm
  have hw1 : IntKind.i64.wrap ((i : Int) + 1) = (i : Int) + 1 := by rw [IntKind.wrap_i64]; omega
  have hb1 : (0 : Int) ≤ (i : Int) + 1 := by omega
  have hin : i ≤ n := by omega
  have htn : ((i : Int) + 1).toNat = i + 1 := by omega
  have hb2 : ¬ (c0 = i + 1) := by omega
  have hb3 : (i : Int) ≤ (n : Int) + 1 := by omega
  have hb4 : ¬ (c0 = i) := by omega
  clear hg hxs hcl hxl hsa hsb hnl hv
  go_enter Try.func83, Try.ntmps83
  go_wp2_with (simp only [hov])
  go_region_law (refine step_copyK rfl _ _ 22 22 rfl 99 2 Try.underlying22 Try.insP_size g ((i + 1) * 2) (n - i) (c0 - (i + 1)) ⟨g, i * 2, none⟩ (n + 1 - i) (c0 - i) (n - i) (by simp [Act.eval, Act.put]) (by simp [Act.eval, Act.put]) cur 99 HG.out (xs.drop (i * 2)) (by simp only [Nat.min_def]; split <;> omega) (by rw [List.length_drop, HXL.out]; omega) HX2.out (by rw [List.length_drop, HXL.out, HCL.out]; omega) (fun u hu => h1x u (List.mem_of_mem_drop hu)) ?_; intro w1 hg1 hgr1)
  have hgr1' := grown_drew hgr1
  obtain ⟨cur1, hc1⟩ : ∃ cur1, cur1 = splice cur ((i + 1) * 2) (xs.drop (i * 2)) := ⟨_, rfl⟩
  rw [← hc1] at hg1
  have hl1 : cur1.length = c0 * 2 := by rw [hc1, length_splice _ _ _ (by rw [List.length_drop, HXL.out, HCL.out]; omega)]; exact HCL.out
  have HL1 := Lib.hid hl1
  have HC1 := Lib.hid hc1
  have HGR := Lib.hid hgr1'
  clear hl1 hc1 hgr1 hgr1' hov hw1 htn
  go_wp2_with (with_reducible refine wpList_copyK rfl (.tmp 80) (.tmp 81) 22 22 rfl 99 2 Try.underlying22 Try.insP_size g (i * 2) (n + 1 - i) (c0 - i) ⟨vb, 0, none⟩ 1 1 1 rfl rfl cur1 99 hg1.out news.toList (by simp only [Nat.min_def]; split <;> omega) (by rw [Array.length_toList, HN.out]) (HV.out w1 HGR.out) (by rw [Array.length_toList, HN.out, HL1.out]; omega) h1n ?_; intro w2 hg2 hgr2)
  go_ret
  refine ⟨_, rfl, ?_, HGR.out.trans hgr2⟩
  refine own_of_row hg2.out hbg hroom (by unfold maxLen; exact hcm) ?_ ?_
  · rw [length_splice _ _ _ (by rw [Array.length_toList, HN.out, HL1.out]; omega)]; exact HL1.out
  · rw [HC1.out, show (n + 1) * 2 = n * 2 + 2 by omega, show (i + 1) * 2 = i * 2 + 2 by omega]
    exact take_shift HXS.out (by omega) (by rw [Array.length_toList, HN.out]) (by rw [HCL.out]; omega)
set_option maxRecDepth 100000 in
include hnl h1n h1x in
theorem insP_grow (g : Nat) (w : World) (cur : List Value) (hlt : i < n) (hn : n ≤ 2000000000000) (hg : w.heap[g]? = some (.cells cur.toArray 99 (0, 0))) (hcl : cur.length = n * 2) (hxs : cur.take (n * 2) = xs) (hb : base ≤ w.heap.size) (hv : Blk w vb T news) :
    Calls Try.prog 83 #[.slice (some ⟨g, 0, none⟩) n n, .int .i64 i, .slice (some ⟨vb, 0, none⟩) 1 1] w fun e w' =>
      ∃ v, e = .returned v ∧ w'.ownsRow base 99 2 v (n + 1) (xs.take (i * 2) ++ news.toList ++ xs.drop (i * 2)) ∧ w.grownBy w' none := by
  obtain ⟨i0, hi0, hz0, hzs, hzb⟩ := info_parts Try.insP_info
  have hxl : xs.length = n * 2 := by rw [← hxs, List.length_take, hcl]; omega
  have hgl := heap_lt hg
  have hvl := hv.lt
  have hold : (Builtin.firstCells i0.size i (.slice (some ⟨g, 0, none⟩) i n)).run Try.prog w.drew = .ok (xs.take (i * 2)).toArray w.drew := by
    rw [hzs]
    exact run_firstCells_some w.drew 2 i ⟨g, 0, none⟩ i n (xs.take (i * 2)) (by rw [List.length_take, hxl]; omega) (fun j v hj => by
      rw [addr_add0]
      rw [List.getElem?_take] at hj
      split at hj
      · have : (w.drew).cell? ⟨g, j, none⟩ = cur.toArray[j]? := Blk.cell (t := 99) hg j
        rw [this, ← hj, ← hxs, List.getElem?_take, if_pos (by omega)]
        simp
      · cases hj)
  have hkk : (n : Int) + 1 - (i : Int) = ((n + 1 - i : Nat) : Int) := by omega
  have hik : i + (n + 1 - i) = n + 1 := by omega
  have hrz : ∀ ty, (Builtin.append_ #[22, 3] ty #[.slice (some ⟨g, 0, none⟩) i n, .int .i64 ((n : Int) + 1 - (i : Int))]).run Try.prog w =
      .ok (.slice (some ⟨w.heap.size, 0, none⟩) (n + 1) (grownCap w (n + 1) n 99)) (w.drew.alloc (.cells ((xs.take (i * 2)).toArray ++ Builtin.zeroCells (Value.cells (.agg #[.string ByteArray.empty, .string ByteArray.empty])) (n + 1 - i) ++ Builtin.zeroCells (Value.cells (.agg #[.string ByteArray.empty, .string ByteArray.empty])) (grownCap w (n + 1) n 99 - (n + 1))) 99)) := fun ty => by
    have h := Lib.run_append_grow_zeros w 22 3 ty 99 i0 _ .i64 .i64 Try.underlying22 Try.underlying3 hi0 hz0 (some ⟨g, 0, none⟩) i n (xs.take (i * 2)) hold (n + 1 - i) (by omega) (by rw [hzs]; omega) (by omega) (by omega) (by rw [hzb]; omega) (by rw [hzb, hik]; exact growslice_fits (by omega) (by omega))
    rw [hik] at h
    rw [hkk]
    exact h
  obtain ⟨G, hG⟩ : ∃ G, G = grownCap w (n + 1) n 99 := ⟨_, rfl⟩
  have hGn : n + 1 ≤ G := by rw [hG]; exact grownCap_ge w _ _ _
  have hGm : G ≤ maxLen := by rw [hG]; exact grownCap_le_maxLen w (n + 1) n 99 (by unfold maxLen; omega)
  obtain ⟨ROW, hROW⟩ : ∃ ROW : List Value, ROW = xs.take (i * 2) ++ ((Builtin.zeroCells (Value.cells (.agg #[.string ByteArray.empty, .string ByteArray.empty])) (n + 1 - i)).toList ++ (Builtin.zeroCells (Value.cells (.agg #[.string ByteArray.empty, .string ByteArray.empty])) (G - (n + 1))).toList) := ⟨_, rfl⟩
  have hRA : (xs.take (i * 2)).toArray ++ Builtin.zeroCells (Value.cells (.agg #[.string ByteArray.empty, .string ByteArray.empty])) (n + 1 - i) ++ Builtin.zeroCells (Value.cells (.agg #[.string ByteArray.empty, .string ByteArray.empty])) (G - (n + 1)) = ROW.toArray := by
    rw [hROW]
    apply Array.toList_inj.1
    simp
  rw [← hG, hRA] at hrz
  have hRl : ROW.length = G * 2 := by
    rw [hROW]
    simp [Builtin.zeroCells, Value.cells, hxl]
    omega
  have hRt : ROW.take (i * 2) = xs.take (i * 2) := by
    rw [hROW, List.take_append_of_le_length (by rw [List.length_take, hxl]; omega), List.take_take, Nat.min_self]
  obtain ⟨W1, hW1⟩ : ∃ W1, W1 = w.drew.alloc (.cells ROW.toArray 99) := ⟨_, rfl⟩
  rw [← hW1] at hrz
  have hrow : W1.heap[w.heap.size]? = some (.cells ROW.toArray 99 (0, 0)) := by rw [hW1]; exact heap_alloc_new w.drew _
  have hgr0 : w.grownBy W1 none := by
    rw [hW1]
    exact ⟨rfl, rfl, rfl, by simp, fun k hk _ => Below.heap_alloc w.drew _ k hk⟩
  have HX2 := Lib.hid (show ∀ (W : World), W.heap[g]? = w.heap[g]? → ∀ (j : Nat) (u : Value), (xs.drop (i * 2))[j]? = some u → W.cell? ((⟨g, i * 2, none⟩ : Addr).add j) = some u from fun W hW j u hj => by
    rw [List.getElem?_drop] at hj
    have e : (⟨g, i * 2, none⟩ : Addr).add j = ⟨g, i * 2 + j, none⟩ := by unfold Addr.add; split <;> simp_all
    rw [e, Blk.cell (w := W) (t := 99) (hW.trans hg), ← hj, ← hxs, List.getElem?_take, if_pos (by have := (List.getElem?_eq_some_iff.1 hj).1; omega)]
    simp)
  have HV := Lib.hid (show ∀ (w' : World), w.grownBy w' none → ∀ (j : Nat) (u : Value), news.toList[j]? = some u → w'.cell? ((⟨vb, 0, none⟩ : Addr).add j) = some u from fun w' hg' j u hj => by
    rw [addr_add0, (hv.grown hg' (by simp)).cell j]
    simpa using hj)
  have HXS := Lib.hid hxs
  have HCL := Lib.hid hcl
  have HXL := Lib.hid hxl
  have HN := Lib.hid hnl
  have HROW := Lib.hid hrow
  have HRL := Lib.hid hRl
  have HRT := Lib.hid hRt
  have HGR0 := Lib.hid hgr0
  unfold maxLen at hGm
  have hw1 : IntKind.i64.wrap ((i : Int) + 1) = (i : Int) + 1 := by rw [IntKind.wrap_i64]; omega
  have hb1 : (0 : Int) ≤ (i : Int) + 1 := by omega
  have hin : i ≤ n := by omega
  have htn : ((i : Int) + 1).toNat = i + 1 := by omega
  have hb3 : (i : Int) ≤ (n : Int) := by omega
  have hGi : ¬ (G = i) := by omega
  have hGim : ¬ (G = i + 1) := by omega
  have hci : ¬ (n = i) := by omega
  clear hg hxs hcl hxl hnl hv hold hkk hik hG hRA hROW hRl hRt hrow hgr0 hW1 hi0 hz0 hzs hzb
  go_enter Try.func83, Try.ntmps83
  go_wp2_with (first
    | (at_builtin; refine Lib.wpList_append_run _ rfl _ _ _ _ rfl _ _ rfl rfl _ _ (hrz _) ?_)
    | (with_reducible refine wpList_copyK rfl (.tmp 43) (.tmp 44) 22 22 rfl 99 2 Try.underlying22 Try.insP_size w.heap.size (i * 2) (n + 1 - i) (G - i) ⟨vb, 0, none⟩ 1 1 1 rfl rfl ROW 99 HROW.out news.toList (by simp only [Nat.min_def]; split <;> omega) (by rw [Array.length_toList, HN.out]) (HV.out W1 HGR0.out) (by rw [Array.length_toList, HN.out, HRL.out]; omega) h1n ?_; intro w1 hg1 hgr1))
  clear hrz
  have hgr1' := grown_fresh HGR0.out hgr1 (Nat.le_refl _)
  obtain ⟨row1, hr1⟩ : ∃ row1, row1 = splice ROW (i * 2) news.toList := ⟨_, rfl⟩
  rw [← hr1] at hg1
  have hl1 : row1.length = G * 2 := by rw [hr1, length_splice _ _ _ (by rw [Array.length_toList, HN.out, HRL.out]; omega)]; exact HRL.out
  have HL1 := Lib.hid hl1
  have HR1 := Lib.hid hr1
  have HGR := Lib.hid hgr1'
  clear hl1 hr1 hgr1 hgr1'
  go_region_law (refine step_copyK rfl _ _ 22 22 rfl 99 2 Try.underlying22 Try.insP_size w.heap.size ((i + 1) * 2) (n - i) (G - (i + 1)) ⟨g, i * 2, none⟩ (n - i) (n - i) (n - i) (by simp [Act.eval, Act.put]) (by simp [Act.eval, Act.put]) row1 99 hg1.out (xs.drop (i * 2)) (by simp only [Nat.min_def]; split <;> omega) (by rw [List.length_drop, HXL.out]; omega) (HX2.out w1.drew (HGR.out.block g hgl (by simp))) (by rw [List.length_drop, HXL.out, HL1.out]; omega) (fun u hu => h1x u (List.mem_of_mem_drop hu)) ?_; intro w2 hg2 hgr2)
  go_wp2_with fail
  go_ret
  refine ⟨_, rfl, ?_, grown_fresh HGR.out (grown_drew hgr2) (Nat.le_refl _)⟩
  refine own_of_row hg2.out hb hGn (by unfold maxLen; exact hGm) ?_ ?_
  · rw [length_splice _ _ _ (by rw [List.length_drop, HXL.out, HL1.out]; omega)]; exact HL1.out
  · rw [HR1.out, show (n + 1) * 2 = i * 2 + 2 + (n - i) * 2 by omega, show (i + 1) * 2 = i * 2 + 2 by omega]
    exact take_grow HRT.out (by rw [List.length_take, HXL.out]; omega) (by rw [Array.length_toList, HN.out]) (by rw [List.length_drop, HXL.out]; omega)
set_option maxRecDepth 100000 in
include hnl h1n in
theorem insP_end (A0 : Option Addr) (c0 : Nat) (w : World) (hown : w.ownsRow base 99 2 (.slice A0 n c0) n xs) (hb : base ≤ w.heap.size) (hn : n ≤ 2000000000000) (hv : Blk w vb T news) :
    Calls Try.prog 83 #[.slice A0 n c0, .int .i64 n, .slice (some ⟨vb, 0, none⟩) 1 1] w fun e w' =>
      ∃ v, e = .returned v ∧ w'.ownsRow base 99 2 v (n + 1) (xs ++ news.toList) ∧ w.grownBy w' (Value.slice A0 n c0).ownBlock := by
  obtain ⟨i0, hi0, hz0, hz1, hz2⟩ := info_parts Try.insP_info
  obtain ⟨hc, hm, _⟩ := own_reads hown
  unfold maxLen at hm
  have HN := Lib.hid hnl
  have HNEW := Lib.hid (show ∀ (j : Nat) (u : Value), news.toList[j]? = some u → w.cell? ((⟨vb, 0, none⟩ : Addr).add j) = some u from fun j u hj => by rw [addr_add0, hv.cell j]; simpa using hj)
  clear hnl hv
  by_cases hcn : c0 = n
  · subst hcn
    go_enter Try.func83, Try.ntmps83
    go_wp2_with (at_builtin; refine wpList_append_own _ rfl _ _ 22 rfl base 99 i0 (.agg #[.string ByteArray.empty, .string ByteArray.empty]) 2 32 Try.underlying22 hi0 hz0 hz1 hz2 rfl (by decide) (.slice A0 c0 c0) c0 xs rfl hown ⟨vb, 0, none⟩ 1 1 news.toList rfl (by rw [Array.length_toList, HN.out]) HNEW.out h1n (by unfold maxLen; omega) (by omega) hb ?_)
    intro v1 w1 hown1 hg1 _
    go_wp2_with fail
    go_ret
    exact ⟨v1, rfl, hown1, hg1⟩
  · go_enter Try.func83, Try.ntmps83
    go_wp2_with (at_builtin; refine wpList_append_own _ rfl _ _ 22 rfl base 99 i0 (.agg #[.string ByteArray.empty, .string ByteArray.empty]) 2 32 Try.underlying22 hi0 hz0 hz1 hz2 rfl (by decide) (.slice A0 n c0) n xs rfl hown ⟨vb, 0, none⟩ 1 1 news.toList rfl (by rw [Array.length_toList, HN.out]) HNEW.out h1n (by unfold maxLen; omega) (by omega) hb ?_)
    intro v1 w1 hown1 hg1 _
    go_wp2_with fail
    go_ret
    exact ⟨v1, rfl, hown1, hg1⟩
include hnl h1n h1x in
/-- one element put in at a place -/
theorem insP_any (A0 : Option Addr) (c0 : Nat) (w : World) (hi : i ≤ n) (hown : w.ownsRow base 99 2 (.slice A0 n c0) n xs) (hb : base ≤ w.heap.size) (hn : n ≤ 2000000000000) (hv : Blk w vb T news) (hne : (Value.slice A0 n c0).ownBlock ≠ some vb) :
    Calls Try.prog 83 #[.slice A0 n c0, .int .i64 i, .slice (some ⟨vb, 0, none⟩) 1 1] w fun e w' =>
      ∃ v, e = .returned v ∧ w'.ownsRow base 99 2 v (n + 1) (xs.take (i * 2) ++ news.toList ++ xs.drop (i * 2)) ∧ w.grownBy w' (Value.slice A0 n c0).ownBlock := by
  by_cases hin : i = n
  · subst hin
    rw [List.take_of_length_le (by rw [hown.1]; exact Nat.le_refl _), List.drop_eq_nil_of_le (by rw [hown.1]; exact Nat.le_refl _), List.append_nil]
    exact insP_end news hnl h1n xs vb T base i A0 c0 w hown hb hn hv
  · rcases hown.2 with ⟨_, h0⟩ | ⟨g, cap, cur, hs, hbg, hh, hnc, hcm, hsz, hx⟩
    · omega
    · injection hs with e1 _ e2
      subst e1 e2
      by_cases hroom : n + 1 ≤ c0
      · exact (insP_shift news hnl h1n xs h1x vb T base n i g c0 w cur.toList (by omega) hroom hcm (by simpa using hh) (by simpa using hsz) hx hbg hv (fun e => hne (by rw [e]; rfl))).mono (fun e w' h => h)
      · obtain rfl : c0 = n := by omega
        refine (insP_grow news hnl h1n xs h1x vb T base c0 i g w cur.toList (by omega) hn (by simpa using hh) (by simpa using hsz) hx hb hv).mono ?_
        rintro e w' ⟨v, h1, h2, h3⟩
        exact ⟨v, h1, h2, ⟨h3.os, h3.tape, h3.output, h3.size, fun k hk _ => h3.block k hk (by simp)⟩⟩
end
end Go.Proofs.Ythfjfkjlgdnohaa

/-
  'clear' of a piece of a row that is known whole.
-/
namespace Go.Proofs.Ythfjfkjlgdnohaa
open Go.RowKit

section
variable {P : Program}
theorem run_clear_rowK (w : World) (t ty e : TypeId) (z : Value) (ht : P.underlying t = some (.slice e)) (hv : ∀ w, (zeroValue e).run P w = .ok z w) (h1 : ∀ u ∈ z.cells.toList, u.oneCell' = true)
    (g o n c : Nat) (cur : List Value) (T : TypeId) (hg : w.heap[g]? = some (.cells cur.toArray T (0, 0))) (hn : 0 < n) (hfit : o + n * z.cells.size ≤ cur.length) :
    (Builtin.clear_ #[t] ty #[.slice (some ⟨g, o, none⟩) n c]).run P w = .ok (.tuple #[]) (w.setRow g (splice cur o (Builtin.zeroCells z.cells n).toList).toArray) := by
  have hzl : (Builtin.zeroCells z.cells n).toList.length = n * z.cells.size := by simp [Builtin.zeroCells]
  have hz1 : ∀ u ∈ (Builtin.zeroCells z.cells n).toList, u.oneCell' = true := by
    intro u hu
    simp only [Builtin.zeroCells, Array.toList_map, Array.toList_range, List.mem_map, List.mem_range] at hu
    obtain ⟨i, hi, rfl⟩ := hu
    have hk : 0 < z.cells.size := by
      rcases Nat.eq_zero_or_pos z.cells.size with h | h
      · rw [h] at hi; omega
      · exact h
    have hm := Nat.mod_lt i hk
    rw [getElem!_pos z.cells _ hm]
    exact h1 _ (by simp)
  have hst := run_storeCells_at P g o T (Builtin.zeroCells z.cells n).toList 0 cur.toArray w hg (by rw [hzl]; simpa using hfit) hz1
  obtain ⟨m, rfl⟩ : ∃ m, n = m + 1 := ⟨n - 1, by omega⟩
  simp [Builtin.clear_, run_underlying ht, hv, hst, splice]
theorem wp_clearK {o : Oper} {a : Act} {w : World} {K : Act → World → Prop} {Q : Exit → Act → World → Prop} (d : Operand) (t : TypeId)
    (ho : o.op = .call { callee := .builtin .clear, args := #[d], argTypes := #[t] }) (e : TypeId) (z : Value) (ht : P.underlying t = some (.slice e)) (hv : ∀ w, (zeroValue e).run P w = .ok z w) (h1 : ∀ u ∈ z.cells.toList, u.oneCell' = true)
    (g off n c : Nat) (hd : a.eval d = .slice (some ⟨g, off, none⟩) n c) (cur : List Value) (T : TypeId) (hg : w.heap[g]? = some (.cells cur.toArray T (0, 0))) (hfit : off + n * z.cells.size ≤ cur.length)
    (h : ∀ w' zs, zs.length = n * z.cells.size → Hid (w'.heap[g]? = some (.cells (splice cur off zs).toArray T (0, 0))) → w.grownBy w' (some g) → K (a.put o.dst (.tuple #[])) w') : o.wp P a w K Q := by
  rcases Nat.eq_zero_or_pos n with h0 | h0
  · subst h0
    have hrun : (Builtin.clear_ #[t] o.type #[.slice (some ⟨g, off, none⟩) 0 c]).run P w = .ok (.tuple #[]) w := by simp [Builtin.clear_, run_underlying ht]
    unfold Oper.wp
    simp [execOp, ho, resolve, invoke, builtin, hd, hrun, Result.andThen]
    exact h w [] (by simp) (show _ = _ by simpa [splice] using hg) (World.grownBy.refl _ _)
  · have hrun := run_clear_rowK (P := P) w t o.type e z ht hv h1 g off n c cur T hg h0 hfit
    unfold Oper.wp
    simp [execOp, ho, resolve, invoke, builtin, hd, hrun, Result.andThen]
    exact h _ _ (by simp [Builtin.zeroCells]) (show _ = _ from setRow_heap w g _ _ T _ hg) (grown_setRow _)
theorem wpList_clearK {w : World} {ops : Array Oper} {rest : List Oper} {o : Oper} {a : Act} {Q : Exit → Act → World → Prop} (hgd : o.guard = none) (d : Operand) (t : TypeId)
    (ho : o.op = .call { callee := .builtin .clear, args := #[d], argTypes := #[t] }) (e : TypeId) (z : Value) (ht : P.underlying t = some (.slice e)) (hv : ∀ w, (zeroValue e).run P w = .ok z w) (h1 : ∀ u ∈ z.cells.toList, u.oneCell' = true)
    (g off n c : Nat) (hd : a.eval d = .slice (some ⟨g, off, none⟩) n c) (cur : List Value) (T : TypeId) (hg : w.heap[g]? = some (.cells cur.toArray T (0, 0))) (hfit : off + n * z.cells.size ≤ cur.length)
    (h : ∀ w' zs, zs.length = n * z.cells.size → Hid (w'.heap[g]? = some (.cells (splice cur off zs).toArray T (0, 0))) → w.grownBy w' (some g) → wpList P ops Q rest (a.put o.dst (.tuple #[])) w') : wpList P ops Q (o :: rest) a w :=
  wpList_plain hgd fun _ hK => wp_clearK d t ho e z ht hv h1 g off n c hd cur T hg hfit (fun w' zs h0 h1 h2 => hK _ _ (h w' zs h0 h1 h2))
end
end Go.Proofs.Ythfjfkjlgdnohaa

/-
  'append' into a row that is known whole and has room.
-/
namespace Go.Proofs.Ythfjfkjlgdnohaa
open Go.RowKit

section
variable {P : Program}
theorem run_append_rowK (w : World) (t ty elem : TypeId) (k : Nat) (g sLen sCap : Nat) (a : Addr) (xLen xCap : Nat) (cur : List Value) (T : TypeId) (cs : List Value)
    (hu : P.underlying t = some (.slice elem)) (hs : (P.info? elem).map (·.size) = some k)
    (hg : w.heap[g]? = some (.cells cur.toArray T (0, 0))) (hn : cs.length = xLen * k)
    (hsrc : ∀ j v, cs[j]? = some v → w.cell? (a.add j) = some v) (hfit : sLen * k + cs.length ≤ cur.length) (hroom : sLen + xLen ≤ sCap) (h1 : ∀ v ∈ cs, v.oneCell' = true) :
    (Builtin.append_ #[t, t] ty #[.slice (some ⟨g, 0, none⟩) sLen sCap, .slice (some a) xLen xCap]).run P w =
      .ok (.slice (some ⟨g, 0, none⟩) (sLen + xLen) sCap) (w.setRow g (splice cur (sLen * k) cs).toArray) := by
  have hl := run_loadCells_list (P := P) w a cs hsrc
  have hst := run_storeCells_at P g (sLen * k) T cs 0 cur.toArray w hg (by simpa using hfit) h1
  cases hq : P.info? elem with
  | none => simp [hq] at hs
  | some i =>
    have hi : i.size = k := by simpa [hq] using hs
    simp [Builtin.append_, run_underlying hu, Builtin.lenOf, Builtin.firstCells, sizeOf, typeInfo, hq, hi, ← hn, hl, hroom, addr_add0, hst, splice]
theorem wp_appendK {o : Oper} {a : Act} {w : World} {K : Act → World → Prop} {Q : Exit → Act → World → Prop} (d s : Operand) (t : TypeId)
    (ho : o.op = .call { callee := .builtin .append, args := #[d, s], argTypes := #[t, t] }) (elem : TypeId) (k : Nat) (hu : P.underlying t = some (.slice elem)) (hsz : (P.info? elem).map (·.size) = some k)
    (g sLen sCap : Nat) (ad : Addr) (xLen xCap : Nat) (hd : a.eval d = .slice (some ⟨g, 0, none⟩) sLen sCap) (hs : a.eval s = .slice (some ad) xLen xCap)
    (cur : List Value) (T : TypeId) (hg : w.heap[g]? = some (.cells cur.toArray T (0, 0))) (cs : List Value) (hn : cs.length = xLen * k)
    (hsrc : ∀ j v, cs[j]? = some v → w.cell? (ad.add j) = some v) (hfit : sLen * k + cs.length ≤ cur.length) (hroom : sLen + xLen ≤ sCap) (h1 : ∀ v ∈ cs, v.oneCell' = true)
    (h : ∀ w', Hid (w'.heap[g]? = some (.cells (splice cur (sLen * k) cs).toArray T (0, 0))) → w.grownBy w' (some g) → K (a.put o.dst (.slice (some ⟨g, 0, none⟩) (sLen + xLen) sCap)) w') : o.wp P a w K Q := by
  have hrun := run_append_rowK (P := P) w t o.type elem k g sLen sCap ad xLen xCap cur T cs hu hsz hg hn hsrc hfit hroom h1
  unfold Oper.wp
  simp [execOp, ho, resolve, invoke, builtin, hd, hs, hrun, Result.andThen]
  exact h _ (show _ = _ by simpa [splice] using setRow_heap w g _ _ T _ hg) (grown_setRow _)
theorem step_appendK {ops : Array Oper} {o : Oper} {a : Act} {w : World} {K : Act → World → Prop} {Q : Exit → Act → World → Prop} {E : Prop} (hgd : o.guard = none) (d s : Operand) (t : TypeId)
    (ho : o.op = .call { callee := .builtin .append, args := #[d, s], argTypes := #[t, t] }) (elem : TypeId) (k : Nat) (hu : P.underlying t = some (.slice elem)) (hsz : (P.info? elem).map (·.size) = some k)
    (g sLen sCap : Nat) (ad : Addr) (xLen xCap : Nat) (hd : a.eval d = .slice (some ⟨g, 0, none⟩) sLen sCap) (hs : a.eval s = .slice (some ad) xLen xCap)
    (cur : List Value) (T : TypeId) (hg : w.heap[g]? = some (.cells cur.toArray T (0, 0))) (cs : List Value) (hn : cs.length = xLen * k)
    (hsrc : ∀ j v, cs[j]? = some v → w.cell? (ad.add j) = some v) (hfit : sLen * k + cs.length ≤ cur.length) (hroom : sLen + xLen ≤ sCap) (h1 : ∀ v ∈ cs, v.oneCell' = true)
    (h : ∀ w', Hid (w'.heap[g]? = some (.cells (splice cur (sLen * k) cs).toArray T (0, 0))) → w.grownBy w' (some g) → K (a.put o.dst (.slice (some ⟨g, 0, none⟩) (sLen + xLen) sCap)) w') :
    if Region.wanted o (yielded ops a.tmps) = true then Oper.wp P o a w K Q else E := by
  have hw : Region.wanted o (yielded ops a.tmps) = true := by simp [Region.wanted, hgd]
  rw [if_pos hw]
  exact wp_appendK d s t ho elem k hu hsz g sLen sCap ad xLen xCap hd hs cur T hg cs hn hsrc hfit hroom h1 h
end
end Go.Proofs.Ythfjfkjlgdnohaa

/-
  slices.Delete of one element, at elements of 2 cells, by its contract.
-/
namespace Go.Proofs.Ythfjfkjlgdnohaa
open Go.RowKit

theorem Try.delP_size : (Try.prog.info? 99).map (·.size) = some 2 := by kernel_rfl
theorem Try.delP_zero (w : World) : (zeroValue 99).run Try.prog w = .ok (.agg #[.string ByteArray.empty, .string ByteArray.empty]) w := by kernel_rfl
theorem delP_splice (cur : List Value) (n i c0 : Nat) (xs : List Value) (hx : cur.take (n * 2) = xs) (hi : i < n) (hn : n ≤ c0) (hl : cur.length = c0 * 2) (zs : List Value) (hz : zs.length = 1 * 2) :
    (splice (splice cur (i * 2) (xs.drop ((i + 1) * 2))) ((n - 1) * 2) zs).take ((n - 1) * 2) = xs.take (i * 2) ++ xs.drop ((i + 1) * 2) ∧ (splice (splice cur (i * 2) (xs.drop ((i + 1) * 2))) ((n - 1) * 2) zs).length = c0 * 2 := by
  have hxl : xs.length = n * 2 := by rw [← hx, List.length_take]; omega
  have hdl : (xs.drop ((i + 1) * 2)).length = (n - 1 - i) * 2 := by rw [List.length_drop, hxl]; omega
  have h1 : (splice cur (i * 2) (xs.drop ((i + 1) * 2))).length = c0 * 2 := by
    unfold splice
    simp only [List.length_append, List.length_take, List.length_drop] at hdl ⊢
    omega
  refine ⟨?_, ?_⟩
  · have e1 : (splice (splice cur (i * 2) (xs.drop ((i + 1) * 2))) ((n - 1) * 2) zs).take ((n - 1) * 2) = (splice cur (i * 2) (xs.drop ((i + 1) * 2))).take ((n - 1) * 2) := by
      show List.take _ (List.take _ (splice cur (i * 2) (xs.drop ((i + 1) * 2))) ++ (zs ++ _)) = _
      rw [List.take_append_of_le_length (by rw [List.length_take, h1]; omega), List.take_take, Nat.min_self]
    rw [e1]
    have hc : cur.take (i * 2) = xs.take (i * 2) := by rw [← hx, List.take_take, Nat.min_eq_left (by omega)]
    have hL : (xs.take (i * 2) ++ xs.drop ((i + 1) * 2)).length = (n - 1) * 2 := by rw [List.length_append, List.length_take, hdl, hxl]; omega
    show List.take _ (cur.take (i * 2) ++ (xs.drop ((i + 1) * 2) ++ _)) = _
    rw [hc, ← List.append_assoc, List.take_append_of_le_length (by rw [hL]; exact Nat.le_refl _)]
    exact List.take_of_length_le (by rw [hL]; exact Nat.le_refl _)
  · show (List.take _ (splice cur (i * 2) (xs.drop ((i + 1) * 2))) ++ (zs ++ List.drop _ _)).length = _
    rw [List.length_append, List.length_append, List.length_take, List.length_drop, h1, hz]
    omega
set_option maxRecDepth 100000 in
set_option maxHeartbeats 1000000 in
theorem delP_any (xs : List Value) (h1 : ∀ u ∈ xs, u.oneCell' = true) (n i c0 base : Nat) (A0 : Option Addr) (w : World) (hi : i < n) (hn : n ≤ 5000000000000) (hown : w.ownsRow base 99 2 (.slice A0 n c0) n xs) :
    Calls Try.prog 84 #[.slice A0 n c0, .int .i64 i, .int .i64 ((i : Int) + 1)] w fun e w' => ∃ v, e = .returned v ∧ w'.ownsRow base 99 2 v (n - 1) (xs.take (i * 2) ++ xs.drop ((i + 1) * 2)) ∧ w.grownBy w' (Value.slice A0 n c0).ownBlock := by
  rcases hown.2 with ⟨_, h0⟩ | ⟨g, cap, cur, hs, hbg, hh, hnc, hcm, hsz, hx⟩
  · omega
  injection hs with e1 _ e2
  subst e1 e2
  have hh' : w.heap[g]? = some (.cells cur.toList.toArray 99 (0, 0)) := by simpa using hh
  have hcl : cur.toList.length = c0 * 2 := by simpa using hsz
  obtain ⟨cl, hcl0⟩ : ∃ cl, cl = cur.toList := ⟨_, rfl⟩
  rw [← hcl0] at hh' hcl hx
  have hxl : xs.length = n * 2 := hown.1
  have hdl : (xs.drop ((i + 1) * 2)).length = (n - 1 - i) * 2 := by rw [List.length_drop, hxl]; omega
  have hcells : ∀ (w' : World), w'.heap[g]? = w.heap[g]? → ∀ j v, (xs.drop ((i + 1) * 2))[j]? = some v → w'.cell? ((⟨g, (i + 1) * 2, none⟩ : Addr).add j) = some v := by
    intro w' hw j v hv
    have hv2 : cl[(i + 1) * 2 + j]? = some v := by
      rw [List.getElem?_drop, ← hx] at hv
      obtain ⟨hlt, _⟩ := List.getElem?_eq_some_iff.1 hv
      rw [List.length_take] at hlt
      rwa [List.getElem?_take_of_lt (by omega)] at hv
    have had : (⟨g, (i + 1) * 2, none⟩ : Addr).add j = ⟨g, (i + 1) * 2 + j, none⟩ := by unfold Addr.add; split <;> simp_all
    rw [had, cell_of_row w' g _ _ _ _ (hw.trans hh')]
    simpa using hv2
  have hni : (i : Int) + 1 ≤ (n : Int) := by omega
  have hin : (i : Int) ≤ (n : Int) := by omega
  have hnci : (n : Int) ≤ (c0 : Int) := by omega
  have hcmi : c0 ≤ 9223372036854775807 := by unfold maxLen at hcm; omega
  have hne : (((i : Int)) == (i : Int) + 1) = false := by rw [beq_eq_false_iff_ne]; omega
  have ht1 : ((i : Int) + 1).toNat = i + 1 := by omega
  have hsub : n - (i + 1) = n - 1 - i := by omega
  have hi1c : (i : Int) + 1 ≤ (c0 : Int) := by omega
  have hic : (i : Int) ≤ (c0 : Int) := by omega
  have hi0 : (0 : Int) ≤ (i : Int) + 1 := by omega
  have HC := Lib.hid hcells
  have HH := Lib.hid hh'
  have HDL := Lib.hid hdl
  have HXL := Lib.hid hxl
  have HCL := Lib.hid hcl
  have HX := Lib.hid hx
  have H1 := Lib.hid (fun u hu => h1 u (List.mem_of_mem_drop (i := (i + 1) * 2) hu))
  have HSP := Lib.hid (fun zs hz => delP_splice cl n i c0 xs hx hi hnc hcl zs hz)
  have hgl : g < w.heap.size := heap_lt hh'
  clear hcells hh' hdl hxl hcl hx h1 hown hh hsz hcl0
  go_enter Try.func84, Try.ntmps84
  go_wp2_with fail
  by_cases hlast : c0 = i + 1
  · have hnl : n = i + 1 := by omega
    subst hlast
    subst hnl
    have hic2 : (i : Int) ≤ (i : Int) + 1 := by omega
    have hnil : xs.drop ((i + 1) * 2) = [] := List.drop_eq_nil_of_le (by rw [HXL.out]; exact Nat.le_refl _)
    have HNIL := Lib.hid hnil
    clear hnil
    go_region_law (refine step_appendK rfl _ _ 22 rfl 99 2 Try.underlying22 Try.delP_size g i (i + 1) ⟨g, 0, none⟩ 0 0 (by simp [Act.eval, Act.put]) (by simp [Act.eval, Act.put]) cl 99 HH.out [] (by simp) (by simp) (by rw [HCL.out]; simp; omega) (by omega) (by simp) ?_; intro w1 hg1 hgr1)
    have hgr := grown_drew hgr1
    have HGR := Lib.hid hgr
    have HG1 := hg1
    have hz1 : ∀ u ∈ (.agg #[.string ByteArray.empty, .string ByteArray.empty] : Value).cells.toList, u.oneCell' = true := fun u hu => List.all_eq_true.1 (show ((.agg #[.string ByteArray.empty, .string ByteArray.empty] : Value).cells.toList.all (·.oneCell')) = true from rfl) u hu
    clear hg1 hgr1 hgr
    simp only [Act.put, List.setIfInBounds_toArray]
    go_wp2_with (with_reducible refine wpList_clearK rfl (.tmp 31) 22 rfl 99 (.agg #[.string ByteArray.empty, .string ByteArray.empty]) Try.underlying22 Try.delP_zero hz1 g (i * 2) 1 1 (by simp [Act.eval]) (splice cl (i * 2) ([])) 99 HG1.out (by simp [splice, Value.cells, HCL.out]; omega) ?_; intro w2 zs hzs hg2 hgr2)
    have hzz : zs.length = 1 * 2 := by rw [hzs]; rfl
    have hsp := HSP.out zs hzz
    rw [HNIL.out, Nat.add_sub_cancel] at hsp
    have hrow := own_of_row (base := base) hg2.out hbg (Nat.le_succ i) hcm hsp.2 hsp.1
    have hgr := HGR.out.trans hgr2
    have HROW := Lib.hid hrow
    clear hrow hsp hg2 hgr2 hzs hzz
    go_ret
    exact ⟨_, rfl, by rw [HNIL.out]; exact HROW.out, hgr⟩
  · have hlt2 : i + 1 < c0 := by omega
    obtain ⟨p, hp⟩ : ∃ p, p = n - 1 := ⟨_, rfl⟩
    have hip : i + (n - 1 - i) = p := by omega
    have hnp1 : n - p = 1 := by omega
    have hpn : (p : Int) ≤ (n : Int) := by omega
    have hpc : (p : Int) ≤ (c0 : Int) := by omega
    have hcp : ¬ c0 = p := by omega
    have HIP := Lib.hid hip
    have HP := Lib.hid hp
    clear hip hp
    go_region_law (refine step_appendK rfl _ _ 22 rfl 99 2 Try.underlying22 Try.delP_size g i c0 ⟨g, (i + 1) * 2, none⟩ (n - 1 - i) (c0 - (i + 1)) (by simp [Act.eval, Act.put]) (by simp [Act.eval, Act.put]) cl 99 HH.out (xs.drop ((i + 1) * 2)) HDL.out (HC.out _ rfl) (by rw [HDL.out, HCL.out]; omega) (by omega) H1.out ?_; intro w1 hg1 hgr1)
    have hgr := grown_drew hgr1
    have HGR := Lib.hid hgr
    have HG1 := hg1
    have hz1 : ∀ u ∈ (.agg #[.string ByteArray.empty, .string ByteArray.empty] : Value).cells.toList, u.oneCell' = true := fun u hu => List.all_eq_true.1 (show ((.agg #[.string ByteArray.empty, .string ByteArray.empty] : Value).cells.toList.all (·.oneCell')) = true from rfl) u hu
    clear hg1 hgr1 hgr
    simp only [Act.put, List.setIfInBounds_toArray]
    rw [HIP.out]
    go_wp2_with (with_reducible refine wpList_clearK rfl (.tmp 31) 22 rfl 99 (.agg #[.string ByteArray.empty, .string ByteArray.empty]) Try.underlying22 Try.delP_zero hz1 g (p * 2) 1 (c0 - p) (by simp [Act.eval]) (splice cl (i * 2) (xs.drop ((i + 1) * 2))) 99 HG1.out (by have h2 := (HSP.out (.agg #[.string ByteArray.empty, .string ByteArray.empty] : Value).cells.toList rfl).2; have h3 := HDL.out; have h4 := HCL.out; have h5 := HP.out; unfold splice; simp only [List.length_append, List.length_take, List.length_drop] at h3 ⊢; simp [Value.cells]; omega) ?_; intro w2 zs hzs hg2 hgr2)
    have hzz : zs.length = 1 * 2 := by rw [hzs]; rfl
    have hsp := HSP.out zs hzz
    rw [← HP.out] at hsp
    have hrow := own_of_row (base := base) hg2.out hbg (by have := HP.out; omega) hcm hsp.2 hsp.1
    have hgr := HGR.out.trans hgr2
    have HROW := Lib.hid hrow
    clear hrow hsp hg2 hgr2 hzs hzz
    go_ret
    exact ⟨_, rfl, by rw [← HP.out]; exact HROW.out, hgr⟩
end Go.Proofs.Ythfjfkjlgdnohaa

/-
  slices.BinarySearchFunc at elements of 2 cells, by its contract.
-/
namespace Go.Proofs.Ythfjfkjlgdnohaa
open Go.RowKit

set_option maxRecDepth 100000 in
set_option maxHeartbeats 1000000 in
theorem searchP_any {α : Type} (f0 f1 : α → Value) (cf : α → Int) (l : List α) (hl : SignAsc cf l) (n : Nat) (hnl : n = l.length) (A : Option Addr) (c : Nat) (tgt : Value) (w : World) (B : Nat)
    (hr : Reads w B 2 A n (cellsK (fun x => [f0 x, f1 x]) l)) (hB : B ≤ w.heap.size) (hn : n ≤ 5000000000000)
    (hcmp : ∀ x W, Below w.heap.size w W → Calls Try.prog 79 #[.agg #[f0 x, f1 x], tgt] W fun e W' => e = .returned (.int .i64 (cf x)) ∧ Below W.heap.size W W') :
    Calls Try.prog 78 #[.slice A n c, tgt, .func (.func 79) #[] #[]] w fun e w' => e = .returned (.tuple #[.int .i64 (posF cf l), .bool (atF cf l)]) ∧ Below w.heap.size w w' := by
  have HN := Lib.hid hnl
  have HL := Lib.hid hl
  have HC := Lib.hid hcmp
  clear hnl hl hcmp
  go_enter Try.func78, Try.ntmps78
  go_wp2_with fail
  go_loopw [9, 10] (fun i j wr => ∃ a b : Nat, a ≤ b ∧ b ≤ n ∧ i = .int .i64 (a : Int) ∧ j = .int .i64 (b : Int) ∧ Hid ((∀ (k : Nat) (x : α), k < a → l[k]? = some x → cf x < 0) ∧ ∀ (k : Nat) (x : α), b ≤ k → l[k]? = some x → 0 ≤ cf x) ∧ Below w.heap.size w wr) (fun i j _ => (intOf j).toNat - (intOf i).toNat)
  case atStart => exact ⟨0, n, Nat.zero_le _, Nat.le_refl _, rfl, rfl, ⟨fun k x hk _ => by omega, fun k x hk hx => by have := (List.getElem?_eq_some_iff.1 hx).1; have := HN.out; omega⟩, Below.refl _ _⟩
  case round =>
    obtain ⟨a, b, hab, hbn, rfl, rfl, hI, hbw⟩ := hrel
    by_cases hlt : a < b
    · obtain ⟨h, hh⟩ : ∃ h, h = (a + b) / 2 := ⟨_, rfl⟩
      have hha : a ≤ h := by omega
      have hhb : h < b := by omega
      have hlI : (a : Int) < (b : Int) := by omega
      have hrw := hr.below (hbw.mono hB)
      obtain ⟨ad, rfl, hadB, c0, c1⟩ := hrw.el2 HN.out (show h < n by omega)
      obtain ⟨x, hx⟩ : ∃ x, x = l[h]'(by have := HN.out; omega) := ⟨_, rfl⟩
      rw [← hx] at c0 c1
      have HX := Lib.hid (show l[h]? = some x by rw [hx]; exact List.getElem?_eq_getElem _)
      have HH := Lib.hid hh
      have hcx := HC.out x wr hbw
      obtain ⟨z, hz⟩ : ∃ z, z = cf x := ⟨_, rfl⟩
      rw [← hz] at hcx
      have HZ := Lib.hid hz
      clear hx hr hz
      rw [hh] at c0 c1
      clear hh
      go_wp2_with fail
      refine hcx.mono ?_
      clear hcx
      rintro e w1 ⟨rfl, hb1⟩
      have hbw1 := hbw.trans (hb1.mono hbw.size)
      by_cases hz0 : z < 0
      · go_wp2_with fail
        go_roundw
        case rel =>
          refine ⟨h + 1, b, by omega, hbn, by rw [HH.out]; go_num, rfl, ⟨fun k y hk hy => ?_, hI.out.2⟩, hbw1⟩
          by_cases hkh : k = h
          · subst hkh
            have := HX.out
            rw [hy] at this
            cases this
            have := HZ.out
            omega
          · exact HL.out k h y x (by omega) hy HX.out (by have := HZ.out; omega)
        case measure => simp [intOf]; omega
      · go_wp2_with fail
        go_roundw
        case rel =>
          refine ⟨a, h, by omega, by omega, rfl, by rw [HH.out]; go_num, ⟨hI.out.1, fun k y hk hy => ?_⟩, hbw1⟩
          by_cases hkh : k = h
          · subst hkh
            have := HX.out
            rw [hy] at this
            cases this
            have := HZ.out
            omega
          · have h1 := HL.out h k x y (by omega) HX.out hy
            have := HZ.out
            omega
        case measure => simp [intOf]; omega
    · obtain rfl : a = b := by omega
      have hpos : posF cf l = a := posF_eq cf l a (by have := HN.out; omega) hI.out.1 (fun x hx => hI.out.2 a x (Nat.le_refl _) hx)
      have hrw := hr.below (hbw.mono hB)
      by_cases han : a < n
      · obtain ⟨ad, rfl, hadB, c0, c1⟩ := hrw.el2 HN.out han
        obtain ⟨x, hx⟩ : ∃ x, x = l[a]'(by have := HN.out; omega) := ⟨_, rfl⟩
        rw [← hx] at c0 c1
        have hat : atF cf l = (cf x == 0) := by
          unfold atF
          rw [hpos, List.getElem?_eq_getElem (by have := HN.out; omega), ← hx]
          rfl
        have hcx := HC.out x wr hbw
        obtain ⟨z, hz⟩ : ∃ z, z = cf x := ⟨_, rfl⟩
        rw [← hz] at hcx hat
        have HZ := Lib.hid hz
        have HPOS := Lib.hid hpos
        have HAT := Lib.hid hat
        clear hx hr hrw hpos hat hz
        go_wp2_with fail
        refine hcx.mono ?_
        clear hcx
        rintro e w1 ⟨rfl, hb1⟩
        have hbw1 := hbw.trans (hb1.mono hbw.size)
        go_wp2_with fail
        go_ret2
        exact ⟨by rw [HPOS.out, HAT.out]; rfl, hbw1⟩
      · have hat : atF cf l = false := by
          unfold atF
          rw [hpos, List.getElem?_eq_none (by have := HN.out; omega)]
          rfl
        have HPOS := Lib.hid hpos
        have HAT := Lib.hid hat
        clear hr hrw hpos hat
        go_wp2_with fail
        go_ret2
        exact ⟨by rw [HPOS.out, HAT.out]; rfl, hbw⟩
end Go.Proofs.Ythfjfkjlgdnohaa
