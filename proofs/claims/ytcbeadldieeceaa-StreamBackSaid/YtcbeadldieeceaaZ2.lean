/-
  Arguments opened field by field, to any depth: what a row of cells reads as.
-/
import Derived.Deep.Slices
import Derived.Deep.Fields
import Derived.ChangeSame
import Derived.RangeFuncBox
import Derived.RangeFuncLeaves
import Derived.Shelf.Abstract
import Derived.WalkKit
import Derived.OwnWalkIn
import Derived.TacticsInMore
import Derived.LoopNIn
import Derived.LoopIn
import Derived.Test.YtcbeadldieeceaaRows
import Derived.RangeFuncNested
import Derived.RangeFuncFrom
import Derived.RangeFuncWrites
import Derived.Handy
import Derived.Lib.AppendZerosOnto
import Derived.Lib.SliceRun
import Derived.Test.YtcbeadldieeceaaZ1
namespace Go.Proofs.Ytcbeadldieeceaa
open Go.RowKit Go.ChangeShapes Go.WideShapes Go.Deep Go.ChangeAt

structure CellsIn {H : Type} (enc : TypeId × Value → H) (P : Program) (W : World) (K : Nat) (t : TypeId) (cs : List Value) (d : DataW H) : Prop where
  rd : ∃ fuel p, DataW.trod enc P W 0 (fun _ => true) true fuel t cs = some (d, p)
  wt : ∀ n ∈ d.weights P t, n ≤ reachBytes
  bk : Rows.uptoBulk d ≤ K

section
variable {H : Type} {enc : TypeId × Value → H} {P : Program} {W : World} {K : Nat} {t : TypeId} {cs : List Value} {d : DataW H}
theorem ArgIn.cellsIn {v : Value} (h : ArgIn enc P W t v d) : CellsIn enc P W (Rows.uptoBulk d) t v.cells.toList d := by
  obtain ⟨_, ⟨p, m, hr⟩, hw⟩ := h
  exact ⟨⟨m, p, hr⟩, hw, Nat.le_refl _⟩
theorem ArgIn.agg {v : Value} {fs : Array Field} (h : ArgIn enc P W t v d) (ht : P.underlying t = some (.struct fs)) : ∃ cs, v = .agg cs ∧ CellsIn enc P W (Rows.uptoBulk d) t cs.toList d := by
  have hc := h.cellsIn
  obtain ⟨⟨base, ho⟩, _, _⟩ := h
  obtain ⟨cs, rfl, _⟩ := okWide_struct ht ho
  exact ⟨cs, rfl, hc⟩
theorem ArgIn.slc {v : Value} {e : TypeId} (h : ArgIn enc P W t v d) (ht : P.underlying t = some (.slice e)) : ∃ A n c, v = .slice A n c ∧ CellsIn enc P W (Rows.uptoBulk d) t [.slice A n c] d := by
  have hc := h.cellsIn
  obtain ⟨⟨base, ho⟩, _, _⟩ := h
  obtain ⟨A, n, c, rfl⟩ := okWide_slice ht ho
  exact ⟨A, n, c, rfl, by simpa [Value.cells] using hc⟩
theorem CellsIn.str (h : CellsIn enc P W K t cs d) (ht : P.underlying t = some .string) : ∃ s : List UInt8, cs = [.string ⟨s.toArray⟩] ∧ s.length ≤ 140737488351232 ∧ s.length + 1 ≤ K := by
  obtain ⟨⟨m, p, hr⟩, hw, hb⟩ := h
  obtain ⟨s, rfl, hx, _⟩ := DataW.trod_string ht hr
  simp only [Prod.mk.injEq] at hx
  rw [hx.1] at hw hb
  refine ⟨s.data.toList, by simp, ?_, ?_⟩
  · have := hw s.data.toList.length (by simp [DataW.weights])
    simpa [reachBytes] using this
  · simpa [Rows.uptoBulk] using hb
theorem CellsIn.int {k : IntKind} (h : CellsIn enc P W K t cs d) (ht : P.underlying t = some (.int k)) : ∃ n, cs = [.int k n] ∧ (Lit.int k n).wf = true := by
  obtain ⟨⟨m, p, hr⟩, hw, hb⟩ := h
  obtain ⟨n, hcs, _, hn⟩ := DataW.trod_int ht hr
  exact ⟨n, hcs, hn⟩
theorem CellsIn.i64 (h : CellsIn enc P W K t cs d) (ht : P.underlying t = some (.int .i64)) : ∃ n : Int, cs = [.int .i64 n] ∧ -9223372036854775808 ≤ n ∧ n ≤ 9223372036854775807 := by
  obtain ⟨n, hcs, hn⟩ := h.int ht
  simp [Lit.wf, IntKind.min, IntKind.max, IntKind.signed, IntKind.bits] at hn
  exact ⟨n, hcs, by omega, by omega⟩
theorem CellsIn.u64 (h : CellsIn enc P W K t cs d) (ht : P.underlying t = some (.int .u64)) : ∃ n : Int, cs = [.int .u64 n] ∧ 0 ≤ n ∧ n < 18446744073709551616 := by
  obtain ⟨n, hcs, hn⟩ := h.int ht
  simp [Lit.wf, IntKind.min, IntKind.max, IntKind.signed, IntKind.bits] at hn
  exact ⟨n, hcs, by omega, by omega⟩
theorem CellsIn.u8 (h : CellsIn enc P W K t cs d) (ht : P.underlying t = some (.int .u8)) : ∃ b : UInt8, cs = [.int .u8 (b.toNat : Int)] := by
  obtain ⟨n, hcs, hn⟩ := h.int ht
  simp [Lit.wf, IntKind.min, IntKind.max, IntKind.signed, IntKind.bits] at hn
  refine ⟨UInt8.ofNat n.toNat, ?_⟩
  rw [hcs]
  have : (UInt8.ofNat n.toNat).toNat = n.toNat := by rw [UInt8.toNat_ofNat']; omega
  rw [this, Int.toNat_of_nonneg (by omega)]
theorem CellsIn.bool (h : CellsIn enc P W K t cs d) (ht : P.underlying t = some .bool) : ∃ b, cs = [.bool b] := by
  obtain ⟨⟨m, p, hr⟩, hw, hb⟩ := h
  obtain ⟨b, hcs, _⟩ := DataW.trod_bool ht hr
  exact ⟨b, hcs⟩
theorem weightsEach_get : ∀ (ts : List TypeId) (ds : List (DataW H)) (j : Nat) (u : TypeId) (y : DataW H) (n : Nat), ts[j]? = some u → ds[j]? = some y → n ∈ y.weights P u → n ∈ DataW.weightsEach P ts ds
  | [], _, j, _, _, _, h, _, _ => by simp at h
  | _ :: _, [], j, _, _, _, _, h, _ => by simp at h
  | a :: ts, b :: ds, 0, u, y, n, h, h', hn => by
    simp only [List.getElem?_cons_zero, Option.some.injEq] at h h'
    subst h h'
    simp only [DataW.weightsEach, List.mem_append]
    exact .inl hn
  | a :: ts, b :: ds, j + 1, u, y, n, h, h', hn => by
    simp only [List.getElem?_cons_succ] at h h'
    simp only [DataW.weightsEach, List.mem_append]
    exact .inr (weightsEach_get ts ds j u y n h h' hn)
theorem weightsAll_get {L : List (DataW H)} {e : TypeId} {x : DataW H} {n : Nat} (hx : x ∈ L) (hn : n ∈ x.weights P e) : n ∈ DataW.weightsAll P e L := by
  induction L with
  | nil => cases hx
  | cons y L ih =>
    simp only [DataW.weightsAll, List.mem_append]
    rcases List.mem_cons.1 hx with rfl | hx
    · exact .inl hn
    · exact .inr (ih hx)
theorem bulk_pos (d : DataW H) : 1 ≤ Rows.uptoBulk d := by
  cases d with
  | lit l => cases l <;> simp [Rows.uptoBulk]
  | _ => simp [Rows.uptoBulk]
theorem bulkAll_get {L : List (DataW H)} {x : DataW H} (hx : x ∈ L) : Rows.uptoBulk x ≤ Rows.uptoBulkAll L := by
  induction L with
  | nil => cases hx
  | cons y L ih =>
    simp only [Rows.uptoBulkAll]
    rcases List.mem_cons.1 hx with rfl | hx
    · omega
    · have := ih hx
      omega
theorem bulkAll_len (L : List (DataW H)) : L.length ≤ Rows.uptoBulkAll L := by
  induction L with
  | nil => exact Nat.zero_le _
  | cons x r ih =>
    have := bulk_pos x
    simp only [List.length_cons, Rows.uptoBulkAll]
    omega
theorem CellsIn.fields {fs : Array Field} (h : CellsIn enc P W K t cs d) (ht : P.underlying t = some (.struct fs)) :
    cs.length = P.cellsOf t ∧ ∀ (j : Nat) (f : Field), fs[j]? = some f → ∃ y, CellsIn enc P W K f.type ((cs.drop f.offset).take (P.cellsOf f.type)) y := by
  obtain ⟨⟨m, p, hr⟩, hw, hb⟩ := h
  obtain ⟨xs, n, _, hx, hl, hxl, hj⟩ := DataW.trod_struct ht hr
  simp only [Prod.mk.injEq] at hx
  rw [hx.1] at hw hb
  refine ⟨hl, fun j f hf => ?_⟩
  have hlt : j < fs.size := (Array.getElem?_eq_some_iff.1 hf).1
  have hg : xs[j]? = some (xs[j]'(by omega)) := List.getElem?_eq_getElem (by omega)
  refine ⟨(xs[j]'(by omega)).1, ⟨n, _, (hj j f hf).trans hg⟩, ?_, ?_⟩
  · intro q hq
    refine hw q ?_
    simp only [DataW.weights, ht]
    refine weightsEach_get _ _ j f.type (xs[j]'(by omega)).1 q ?_ (by rw [List.getElem?_map, hg]; rfl) hq
    rw [List.getElem?_map, Array.getElem?_toList, hf]
    rfl
  · have := bulkAll_get (x := (xs[j]'(by omega)).1) (L := xs.map (·.1)) (List.mem_map.2 ⟨xs[j]'(by omega), List.getElem_mem _, rfl⟩)
    simp only [Rows.uptoBulk] at hb
    omega
theorem CellsIn.slice {e : TypeId} (h : CellsIn enc P W K t cs d) (ht : P.underlying t = some (.slice e)) :
    cs = [.slice none 0 0] ∨ ∃ (a : Addr) (n c : Nat) (D : Nat → DataW H), cs = [.slice (some a) n c] ∧ n ≤ c ∧ c ≤ maxLen ∧ c * P.bytesOf e ≤ 140737488351232 ∧ n ≤ K ∧
      ∀ i, i < n → ∃ cs', W.cells? 0 (a.add (i * P.cellsOf e)) (P.cellsOf e) = some cs' ∧ CellsIn enc P W K e cs' (D i) := by
  obtain ⟨⟨m, p, hr⟩, hw, hb⟩ := h
  rcases Go.Deep.open_slice ht hr with ⟨hcs, hx⟩ | ⟨a, l, cc, mm, nn, D, Pl, hcs, _, hl, hm, hmm, hx, hi⟩
  · exact .inl hcs
  · right
    simp only [Prod.mk.injEq] at hx
    rw [hx.1] at hw hb
    have hmc : mm = cc := by rw [hmm]; rfl
    have hw1 := hw ((((List.range l).map D).length + ((List.range (mm - l)).map fun j => D (l + j)).length) * P.bytesOf e) (by simp only [DataW.weights, ht]; exact List.mem_cons_self ..)
    have hl2 : l + (mm - l) = cc := by omega
    simp only [List.length_map, List.length_range, hl2, reachBytes] at hw1
    have hbl := bulkAll_len ((List.range l).map D)
    simp only [Rows.uptoBulk, List.length_map, List.length_range] at hb hbl
    refine ⟨a, l, cc, D, hcs, hl, hm, hw1, by omega, fun i hil => ?_⟩
    obtain ⟨cs', hc, ht'⟩ := hi i (by omega)
    have hmem : D i ∈ (List.range l).map D := List.mem_map.2 ⟨i, List.mem_range.2 hil, rfl⟩
    refine ⟨cs', hc, ⟨_, _, ht'⟩, ?_, ?_⟩
    · intro q hq
      refine hw q ?_
      simp only [DataW.weights, ht, List.mem_cons, List.mem_append]
      exact .inr (.inl (weightsAll_get hmem hq))
    · have := bulkAll_get hmem
      omega
theorem flatMap_len {α : Type} {Enc : α → List Value} {k : Nat} (hE : ∀ x, (Enc x).length = k) (l : List α) : (l.flatMap Enc).length = l.length * k := by
  induction l with
  | nil => simp
  | cons x l ih => rw [List.flatMap_cons, List.length_append, hE, ih, List.length_cons, Nat.add_mul]; omega
theorem flatMap_get {α : Type} {Enc : α → List Value} {k : Nat} (hE : ∀ x, (Enc x).length = k) (l : List α) (i j : Nat) (hi : i < l.length) (hj : j < k) : (l.flatMap Enc)[i * k + j]? = (Enc l[i])[j]? := by
  induction l generalizing i with
  | nil => cases hi
  | cons x l ih =>
    rw [List.flatMap_cons]
    cases i with
    | zero => rw [Nat.zero_mul, Nat.zero_add, List.getElem?_append_left (by rw [hE]; exact hj)]; rfl
    | succ i =>
      rw [List.getElem?_append_right (by rw [hE, Nat.add_mul]; omega), hE, show (i + 1) * k + j - k = i * k + j by rw [Nat.add_mul]; omega, ih i (by simpa using hi)]
      rfl
/-- A LIST: each element by its own law -/
theorem CellsIn.list {α : Type} {e : TypeId} {k : Nat} (Enc : α → List Value) (G : α → Prop) (hE : ∀ x, (Enc x).length = k) (hk : 0 < k) (hC : P.cellsOf e = k) (ht : P.underlying t = some (.slice e))
    (hel : ∀ cs d, CellsIn enc P W K e cs d → ∃ x : α, cs = Enc x ∧ G x) (h : CellsIn enc P W K t cs d) :
    ∃ (A : Option Addr) (l : List α) (n c : Nat), cs = [.slice A n c] ∧ n = l.length ∧ n ≤ c ∧ c ≤ maxLen ∧ c * P.bytesOf e ≤ 140737488351232 ∧ n ≤ K ∧ Reads W W.heap.size k A n (l.flatMap Enc) ∧ ∀ x ∈ l, G x := by
  rcases h.slice ht with rfl | ⟨a, n, c, D, rfl, hn, hm, hb, hK, hi⟩
  · exact ⟨none, [], 0, 0, rfl, rfl, Nat.le_refl _, by unfold maxLen; omega, by omega, Nat.zero_le _, ⟨by simp, fun h => absurd h (by omega)⟩, by simp⟩
  · rw [hC] at hi
    have hq : ∀ i, i < n → ∃ x : α, (∀ j, j < k → W.cell? (a.add (i * k + j)) = (Enc x)[j]?) ∧ G x := by
      intro i hin
      obtain ⟨cs', hc, hcell⟩ := hi i hin
      obtain ⟨x, rfl, hg⟩ := hel _ _ hcell
      obtain ⟨_, hcl, hat⟩ := World.cells?_some hc
      refine ⟨x, fun j hj => ?_, hg⟩
      have := hat j hj
      rwa [add_of_add] at this
    obtain ⟨l, hl, hlx⟩ : ∃ l : List α, l.length = n ∧ ∀ i (h : i < l.length), (∀ j, j < k → W.cell? (a.add (i * k + j)) = (Enc l[i])[j]?) ∧ G l[i] := by
      clear hi hK hb hm hn h
      induction n with
      | zero => exact ⟨[], rfl, fun i h => by simp at h⟩
      | succ n ih =>
        obtain ⟨l, hl, hlx⟩ := ih (fun i hin => hq i (by omega))
        obtain ⟨x, hx, hg⟩ := hq n (by omega)
        refine ⟨l ++ [x], by simp [hl], fun i hin => ?_⟩
        rcases Nat.lt_or_ge i l.length with hlt | hge
        · rw [List.getElem_append_left hlt]
          exact hlx i hlt
        · have : i = l.length := by simp at hin; omega
          subst this
          rw [List.getElem_append_right (Nat.le_refl _)]
          simp only [Nat.sub_self, List.getElem_cons_zero]
          rw [hl]
          exact ⟨hx, hg⟩
    refine ⟨some a, l, n, c, rfl, hl.symm, hn, hm, hb, hK, ⟨by rw [flatMap_len hE, hl], fun h0 => ⟨a, rfl, ?_, fun j u hu => ?_⟩⟩, fun x hx => ?_⟩
    · obtain ⟨h1, _⟩ := hlx 0 (by omega)
      have h2 := h1 0 hk
      rw [List.getElem?_eq_getElem (by rw [hE]; exact hk)] at h2
      have := World.block_lt_of_cell? W _ h2
      rwa [block_of_add] at this
    · have hj : j < n * k := by
        have h3 := (List.getElem?_eq_some_iff.1 hu).1
        rwa [flatMap_len hE, hl] at h3
      have hdm := Nat.div_add_mod j k
      have hmod := Nat.mod_lt j hk
      have hdv : j / k < n := Nat.div_lt_of_lt_mul (by rw [Nat.mul_comm]; exact hj)
      have e1 : j = j / k * k + j % k := by rw [Nat.mul_comm]; exact hdm.symm
      rw [e1, flatMap_get hE l _ _ (by omega) hmod] at hu
      rw [e1, (hlx (j / k) (by omega)).1 (j % k) hmod]
      exact hu
    · obtain ⟨i, hil, rfl⟩ := List.getElem_of_mem hx
      exact (hlx i hil).2
end
end Go.Proofs.Ytcbeadldieeceaa

/-
  slices.Backward over bytes that the loop's body may write: its contract.
-/
namespace Go.Proofs.Ytcbeadldieeceaa
open Go.RowKit Go.Shelf
attribute [local go_sem] Oper.semAt_some

/-- block g is a row of n bytes -/
def RowB (g n : Nat) (W : World) : Prop := ∃ b : List UInt8, b.length = n ∧ W.heap[g]? = some (.cells (bts b).toArray 5 (0, 0))
/-- the iterator's own box is as it was; g, a row of n bytes, is one again -/
def KpB (Bs g n : Nat) (W W' : World) : Prop := W'.heap[Bs]? = W.heap[Bs]? ∧ (RowB g n W → RowB g n W')
theorem KpB.refl (Bs g n : Nat) (W : World) : KpB Bs g n W W := ⟨rfl, id⟩
theorem KpB.trans {Bs g n : Nat} {A B C : World} (h : KpB Bs g n A B) (k : KpB Bs g n B C) : KpB Bs g n A C := ⟨k.1.trans h.1, fun hr => k.2 (h.2 hr)⟩
theorem RowB.cell {g n : Nat} {W : World} (h : RowB g n W) {i : Nat} (hi : i < n) : ∃ x : Int, W.cell? ⟨g, i, none⟩ = some (.int .u8 x) ∧ W.frozen? ⟨g, i, none⟩ = false ∧ 0 ≤ x ∧ x ≤ 255 := by
  obtain ⟨b, hb, hg⟩ := h
  have hi' : i < b.length := by omega
  refine ⟨(b[i].toNat : Int), ?_, frozen_of_row W g i _ _ hg, by omega, by have := b[i].toNat_lt; omega⟩
  rw [cell_of_row W g i _ _ (0, 0) hg]
  simp [bts, hi']

abbrev Bk (n : Nat) := { x : Nat × Int // x.1 < n ∧ 0 ≤ x.2 ∧ x.2 ≤ 255 }
def bkEnc {n : Nat} (x : Bk n) : Array Value := #[.int .i64 (x.1.1 : Int), .int .u8 x.1.2]
/-- what has come when k rounds are over: n - 1, .., n - k -/
def bkDown (n k : Nat) : List Nat := (List.range k).map fun j => n - 1 - j
theorem bkDown_succ (n k : Nat) : bkDown n (k + 1) = bkDown n k ++ [n - 1 - k] := by simp [bkDown, List.range_succ]

set_option maxRecDepth 100000 in
set_option maxHeartbeats 2000000 in
theorem backward1_in (F : Fence) (m : Nat) (hf : F.fn 99) (hro : F.round = none) (hm : 1 ≤ m) (l Bs g n c : Nat) (hn : n ≤ 1000) (J Jx : List (Bk n) → World → Prop)
    (hY : ∀ pre x W, J pre W → pre.length < n → YieldAt F (m - 1) Try.prog l (bkEnc x) W fun e W' =>
      (e = .returned (.bool true) ∧ J (pre ++ [x]) W' ∧ KpB Bs g n W W') ∨ (e = .returned (.bool false) ∧ Jx (pre ++ [x]) W'))
    (W : World) (hBs : W.cell? ⟨Bs, 0, none⟩ = some (.slice (some ⟨g, 0, none⟩) n c)) (hrow : RowB g n W) (h0 : J [] W) :
    CallsIn F m Try.prog 99 #[.func (.yield l) #[] #[], .pointer (some ⟨Bs, 0, none⟩)] W fun e W' => (∃ v, e = .returned v) ∧
      ((∃ ys : List (Bk n), ys.map (·.1.1) = bkDown n n ∧ J ys W') ∨ (∃ pre : List (Bk n), (∃ k, k ≤ n ∧ pre.map (·.1.1) = bkDown n k) ∧ Jx pre W')) := by
  refine callsIn_of_wp Try.func99 rfl hf ?_ hro
  simp only [Try.ntmps99, List.size_toArray, List.length_cons, List.length_nil, Nat.reduceAdd, Nat.reduceSub, Array.replicate_succ, Array.replicate_zero, List.push_toArray, List.append_toArray, List.nil_append, List.cons_append]
  gi_wp2
  gi_loopw [3] (fun i wr => ∃ (k : Nat) (q : Int) (ys : List (Bk n)), k ≤ n ∧ Hid (q = (n : Int) - 1 - k) ∧ -1 ≤ q ∧ q < n ∧ i = .int .i64 q ∧ Hid (ys.map (·.1.1) = bkDown n k) ∧ J ys wr ∧ KpB Bs g n W wr)
    (fun i _ => (intOf i + 1).toNat)
  case atStart => exact ⟨0, (n : Int) - 1, [], Nat.zero_le _, (show _ = _ by simp), by omega, by omega, rfl, (show _ = _ by rfl), h0, KpB.refl _ _ _ _⟩
  case round =>
    obtain ⟨k, q, ys, hk, hq, hq1, hq2, rfl, hys, hJ, hKp⟩ := hrel
    have hcB : wr.cell? ⟨Bs, 0, none⟩ = some (.slice (some ⟨g, 0, none⟩) n c) := (World.cell?_of_block (w := W) (a := ⟨Bs, 0, none⟩) hKp.1).trans hBs
    have hrw := hKp.2 hrow
    by_cases hlt : 0 ≤ q
    · obtain ⟨p, rfl⟩ := Int.eq_ofNat_of_zero_le hlt
      have hpn : p < n := by omega
      have hpk : p = n - 1 - k := by have := hq.out; omega
      have hkn : k < n := by have := hq.out; omega
      obtain ⟨x, hx, _, hx0, hx1⟩ := hrw.cell hpn
      obtain ⟨fn, tmps, assign, body, hy, hR⟩ := hY ys ⟨(p, x), hpn, hx0, hx1⟩ wr hJ (by have := congrArg List.length hys.out; simp [bkDown] at this; omega)
      simp only [bkEnc] at hy
      have HPK := Lib.hid hpk
      clear hpk hrw hBs
      gi_wp2
      refine hR.mono ?_
      rintro e W3 (⟨rfl, hJ3, hk3⟩ | ⟨rfl, hJx3⟩)
      · gi_wp2
        go_roundw
        case rel => exact ⟨k + 1, (p : Int) - 1, ys ++ [⟨(p, x), hpn, hx0, hx1⟩], by omega, (show _ = _ by have := hq.out; omega), by omega, by omega, rfl, (show _ = _ by rw [List.map_append, hys.out, bkDown_succ, ← HPK.out]; rfl), hJ3, hKp.trans hk3⟩
        case measure => simp [intOf]
      · gi_wp2
        refine bodyPost_ret (results_none rfl _ _ _) rfl ?_
        exact ⟨⟨_, rfl⟩, .inr ⟨_, ⟨k + 1, by omega, by rw [List.map_append, hys.out, bkDown_succ, ← HPK.out]; rfl⟩, hJx3⟩⟩
    · obtain rfl : k = n := by have := hq.out; omega
      gi_wp2
      go_end0
      exact ⟨⟨_, rfl⟩, .inl ⟨ys, hys.out, hJ⟩⟩

set_option maxHeartbeats 1000000 in
theorem backward_in (F : Fence) (m : Nat) (hf : F.fn 85) (hro : F.round = none) (a : Option Addr) (len cap : Nat) (w : World) :
    CallsIn F m Try.prog 85 #[.slice a len cap] w fun e w' => e = .returned (.func (.func 99) #[] #[.pointer (some ⟨w.heap.size, 0, none⟩)]) ∧ w' = w.alloc (.cells #[.slice a len cap] 27) := by
  refine callsIn_of_wp Try.func85 rfl hf ?_ hro
  simp only [Try.ntmps85, List.size_toArray, List.length_cons, List.length_nil, Nat.reduceAdd, Nat.reduceSub, Array.replicate_succ, Array.replicate_zero, List.push_toArray, List.append_toArray, List.nil_append, List.cons_append]
  gi_wp2
  go_ret
  exact ⟨rfl, rfl⟩

theorem backward_stops (F : Fence) (m : Nat) (hf : F.fn 99) (hro : F.round = none) (hm : 1 ≤ m) (Bs g n c : Nat) (hn : n ≤ 1000) (w : World) (hb : Bs < w.heap.size) (hg : g < w.heap.size)
    (hBs : w.cell? ⟨Bs, 0, none⟩ = some (.slice (some ⟨g, 0, none⟩) n c)) (hrow : RowB g n w) :
    SeqStopsK F m Try.prog 99 #[.pointer (some ⟨Bs, 0, none⟩)] (fun x : Bk n => #[.int .i64 (x.1.1 : Int), .int .u8 x.1.2]) (KpB Bs g n) (fun ys => ys.map (·.1.1) = bkDown n n) (fun pre => ∃ k, k ≤ n ∧ pre.map (·.1.1) = bkDown n k) n w := fun l J Jx W hW _ _ hY h0 => by
  have hc' := (hW.cell (p := ⟨Bs, 0, none⟩) hb).trans hBs
  have hr' : RowB g n W := by
    obtain ⟨b, h1, h2⟩ := hrow
    exact ⟨b, h1, (hW.block g hg).trans h2⟩
  exact backward1_in F m hf hro hm l Bs g n c hn J Jx hY W hc' hr' h0
end Go.Proofs.Ytcbeadldieeceaa

/-
  octets.Put, by its contract.
-/
namespace Go.Proofs.Ytcbeadldieeceaa
open Go.RowKit Go.Shelf
attribute [local go_sem] Oper.semAt_some

def toByte (v : Int) : UInt8 := UInt8.ofNat (v % 256).toNat
theorem toByte_int (v : Int) : ((toByte v).toNat : Int) = v % 256 := by
  unfold toByte
  rw [UInt8.toNat_ofNat_of_lt' (by show (v % 256).toNat < 256; omega)]
  omega
/-- what the loop makes of a row and a number -/
def putStep (s : List UInt8 × Int) (i : Nat) : List UInt8 × Int := (s.1.set i (toByte s.2), s.2 / 256)
def putF (n : Int) (k : Nat) (l : List Nat) : List UInt8 × Int := l.foldl putStep (List.replicate k 0, n)
/-- a number's octets, the highest first -/
def putL (n : Int) (k : Nat) : List UInt8 := (putF n k (bkDown k k)).1
theorem putF_length (n : Int) (k : Nat) (l : List Nat) : (putF n k l).1.length = k := by
  unfold putF
  suffices h : ∀ (l : List Nat) (s : List UInt8 × Int), (l.foldl putStep s).1.length = s.1.length by rw [h]; simp
  intro l
  induction l with
  | nil => intro s; rfl
  | cons x l ih => intro s; rw [List.foldl_cons, ih]; simp [putStep]
theorem putF_snoc (n : Int) (k : Nat) (l : List Nat) (i : Nat) : putF n k (l ++ [i]) = putStep (putF n k l) i := by simp [putF]
theorem putL_length (n : Int) (k : Nat) : (putL n k).length = k := putF_length _ _ _

theorem Try.infoU8' : (Try.prog.info? 5).map (fun i => (i.zero, i.size, i.bytes)) = some (some (.int .u8 0), 1, 1) := by kernel_rfl

theorem run_make_rowN {P : Program} (t e : TypeId) (i : TypeInfo) (z : Value) (ht : P.underlying t = some (.slice e)) (hi : P.info? e = some i) (hz : i.zero = some z)
    (kl kc : IntKind) (n c : Nat) (hnc : n ≤ c) (hbytes : i.bytes * c ≤ 281474976710656) (h63 : c ≤ 9223372036854775807) (w : World) :
    (Instr.makeSlice t (.int kl (n : Int)) (.int kc (c : Int))).run P w = .ok (.slice (some ⟨w.heap.size, 0, none⟩) n c) (w.alloc (.cells (madeCells z.cells (c * i.size)) e)) := by
  have hb : (i.bytes : Int) * (c : Int) ≤ 281474976710656 := by
    have h : ((i.bytes * c : Nat) : Int) ≤ 281474976710656 := by omega
    rwa [Int.natCast_mul] at h
  have hr := run_make (P := P) w t e i z ht hi hz kl kc n c (by omega) (by omega) hb (by omega)
  simp only [Int.toNat_natCast] at hr
  exact hr
theorem made_bytes (k : Nat) : madeCells (Value.int .u8 0).cells (k * 1) = (bts (List.replicate k 0)).toArray := by
  apply Array.ext
  · simp [madeCells, bts]
  · intro i h1 h2
    have : i % 1 = 0 := by omega
    simp [madeCells, bts, Value.cells, this]

/-- between two rounds -/
def PutI (w : World) (n : Int) (k : Nat) (l : List Nat) (W : World) : Prop :=
  Blk W w.heap.size 3 #[.int .i64 (putF n k l).2] ∧ W.heap[w.heap.size + 1]? = some (.cells (bts (putF n k l).1).toArray 5 (0, 0)) ∧ Blk W (w.heap.size + 1 + 1) 27 #[.slice (some ⟨w.heap.size + 1, 0, none⟩) k k] ∧ Below w.heap.size w W
theorem heap_kept {W W' : World} {row : Option Nat} {k : Nat} {cs : Array Value} {T : TypeId} {fr : Nat × Nat} (h : W.heap[k]? = some (.cells cs T fr)) (hg : W.grownBy W' row) (hr : ∀ r, row = some r → ∃ o : Obj, W.heap[r]? = some o ∧ o.isCells = false) : W'.heap[k]? = some (.cells cs T fr) := by
  rw [hg.block k (Array.getElem?_eq_some_iff.1 h).1 ?_]
  · exact h
  · intro e
    obtain ⟨o, ho, hc⟩ := hr k e.symm
    rw [h] at ho
    cases ho
    cases hc
theorem putI_own {w : World} {n : Int} {k B : Nat} {m : Nat} (hB : w.heap.size ≤ B := by first | omega | (simp; omega)) : OwnFrom B (fun (pre : List (Bk m)) W => PutI w n k (pre.map (·.1.1)) W) := by
  intro s W W' row hs hg hr
  have hr' := fun r e => (hr r e).2
  exact ⟨heap_kept hs.1 hg hr', heap_kept hs.2.1 hg hr', heap_kept hs.2.2.1 hg hr', hs.2.2.2.grown hg (Below.size hs.2.2.2) (fun r e => Nat.le_trans hB (hr r e).1)⟩
theorem kpB_b {w : World} {Bs g n : Nat} (hb : Bs < w.heap.size) (hg : g < w.heap.size) (W : World) (l : Nat) (o o' : Obj) (hl : w.heap.size ≤ l) (_ : W.heap[l]? = some o) (_ : o.isCells = false) (_ : o.isWalk = false) : KpB Bs g n W (W.putObj l o') :=
  ⟨World.putObj_heap_other (by omega), fun ⟨b, h1, h2⟩ => ⟨b, h1, (World.putObj_heap_other (by omega)).trans h2⟩⟩

theorem bts_set (b : List UInt8) (i : Nat) (z : UInt8) : bts (b.set i z) = (bts b).set i (.int .u8 (z.toNat : Int)) := by simp [bts, List.map_set]
/-- where the loop begins -/
theorem put_start (w : World) (n : Int) (k : Nat) (Z : Array Value) (hZ : Z = (bts (List.replicate k 0)).toArray) :
    let W3 := (((w.alloc (.cells #[.int .i64 n] 3)).alloc (.cells Z 5)).alloc (.cells #[.slice (some ⟨w.heap.size + 1, 0, none⟩) k k] 27)).alloc (.cells #[.slice (some ⟨w.heap.size + 1, 0, none⟩) k k] 27)
    Blk W3 w.heap.size 3 #[.int .i64 (putF n k []).2] ∧ W3.heap[w.heap.size + 1]? = some (.cells (bts (putF n k []).1).toArray 5 (0, 0)) ∧ Blk W3 (w.heap.size + 1 + 1) 27 #[.slice (some ⟨w.heap.size + 1, 0, none⟩) k k] ∧
      W3.cell? ⟨w.heap.size + 1 + 1 + 1, 0, none⟩ = some (.slice (some ⟨w.heap.size + 1, 0, none⟩) k k) ∧ Below w.heap.size w W3 := by
  intro W3
  subst hZ
  have s1 : (w.alloc (.cells #[.int .i64 n] 3)).heap.size = w.heap.size + 1 := by simp
  have s2 : ((w.alloc (.cells #[.int .i64 n] 3)).alloc (.cells (bts (List.replicate k 0)).toArray 5)).heap.size = w.heap.size + 1 + 1 := by simp
  have s3 : (((w.alloc (.cells #[.int .i64 n] 3)).alloc (.cells (bts (List.replicate k 0)).toArray 5)).alloc (.cells #[.slice (some ⟨w.heap.size + 1, 0, none⟩) k k] 27)).heap.size = w.heap.size + 1 + 1 + 1 := by simp
  have b1 := (((Blk.new w 3 #[.int .i64 n]).alloc (.cells (bts (List.replicate k 0)).toArray 5)).alloc (.cells #[.slice (some ⟨w.heap.size + 1, 0, none⟩) k k] 27)).alloc (.cells #[.slice (some ⟨w.heap.size + 1, 0, none⟩) k k] 27)
  have b2 := ((Blk.new (w.alloc (.cells #[.int .i64 n] 3)) 5 (bts (List.replicate k 0)).toArray).alloc (.cells #[.slice (some ⟨w.heap.size + 1, 0, none⟩) k k] 27)).alloc (.cells #[.slice (some ⟨w.heap.size + 1, 0, none⟩) k k] 27)
  have b3 := (Blk.new ((w.alloc (.cells #[.int .i64 n] 3)).alloc (.cells (bts (List.replicate k 0)).toArray 5)) 27 #[.slice (some ⟨w.heap.size + 1, 0, none⟩) k k]).alloc (.cells #[.slice (some ⟨w.heap.size + 1, 0, none⟩) k k] 27)
  have b4 := Blk.new (((w.alloc (.cells #[.int .i64 n] 3)).alloc (.cells (bts (List.replicate k 0)).toArray 5)).alloc (.cells #[.slice (some ⟨w.heap.size + 1, 0, none⟩) k k] 27)) 27 #[.slice (some ⟨w.heap.size + 1, 0, none⟩) k k]
  rw [s1] at b2
  rw [s2] at b3
  rw [s3] at b4
  exact ⟨b1, b2, b3, (blk1 b4).1, ((((Below.refl _ w).alloc (Nat.le_refl _) _).alloc (by simp) _).alloc (by simp; omega) _).alloc (by simp; omega) _⟩
theorem putI_step {w W : World} {n : Int} {k i : Nat} {l : List Nat} (h : PutI w n k l W) :
    PutI w n k (l ++ [i]) ((W.setCell ⟨w.heap.size + 1, i, none⟩ (.int .u8 ((putF n k l).2 % 256))).setCell ⟨w.heap.size, 0, none⟩ (.int .i64 ((putF n k l).2 / 256))) ∧
      KpB (w.heap.size + 1 + 1 + 1) (w.heap.size + 1) k W ((W.setCell ⟨w.heap.size + 1, i, none⟩ (.int .u8 ((putF n k l).2 % 256))).setCell ⟨w.heap.size, 0, none⟩ (.int .i64 ((putF n k l).2 / 256))) := by
  obtain ⟨h1, h2, h3, h4⟩ := h
  have e : (.int .u8 ((putF n k l).2 % 256) : Value) = .int .u8 ((toByte (putF n k l).2).toNat : Int) := by rw [toByte_int]
  have hset : ((W.setCell ⟨w.heap.size + 1, i, none⟩ (.int .u8 ((putF n k l).2 % 256))).setCell ⟨w.heap.size, 0, none⟩ (.int .i64 ((putF n k l).2 / 256))).heap[w.heap.size + 1]? = some (.cells (bts (putF n k (l ++ [i])).1).toArray 5 (0, 0)) := by
    rw [Below.heap_setCell _ _ _ _ (by simp)]
    have := Blk.set_ (g := w.heap.size + 1) (t := 5) h2 i (.int .u8 ((putF n k l).2 % 256))
    rw [e] at this ⊢
    rw [putF_snoc]
    unfold Blk at this
    rw [this]
    simp [putStep, bts_set]
  refine ⟨⟨?_, hset, (h3.far (by show (w.heap.size + 1 + 1 : Nat) ≠ w.heap.size + 1; omega) _).far (by show (w.heap.size + 1 + 1 : Nat) ≠ w.heap.size; omega) _, (h4.setCell (by simp) _).setCell (by simp) _⟩, ?_, fun _ => ⟨_, putF_length _ _ _, hset⟩⟩
  · rw [putF_snoc]
    exact (h1.far (p := ⟨w.heap.size + 1, i, none⟩) (by simp) _).set_ 0 _
  · rw [Below.heap_setCell _ _ _ _ (by show (w.heap.size + 1 + 1 + 1 : Nat) ≠ w.heap.size; omega), Below.heap_setCell _ _ _ _ (by show (w.heap.size + 1 + 1 + 1 : Nat) ≠ w.heap.size + 1; omega)]
theorem put_end {w W : World} {n : Int} {k D : Nat} (hD : w.heap.size + 1 + 1 + 1 + 1 ≤ D) (hK : W.heap[D]? = some (.deferred (some []))) (h2 : W.heap[w.heap.size + 1]? = some (.cells (bts (putF n k (bkDown k k)).1).toArray 5 (0, 0))) (h4 : Below w.heap.size w W) (hk : k ≤ maxLen := by simp only [maxLen]; omega) :
    (W.putObj D (.deferred none)).ownsRow w.heap.size 5 1 (.slice (some ⟨w.heap.size + 1, 0, none⟩) k k) k (bts (putL n k)) ∧ Below w.heap.size w (W.putObj D (.deferred none)) := by
  refine ⟨⟨by rw [bts_length, putL_length]; simp, .inr ⟨_, k, _, rfl, by omega, (World.putObj_heap_other (by omega)).trans h2, Nat.le_refl _, hk, ?_, ?_⟩⟩, h4.trans (belowK_b (w := w) (Nat.le_refl _) W D _ _ (by omega) hK rfl rfl)⟩
  · simp [bts_length, putF_length]
  · show ((bts (putF n k (bkDown k k)).1).toArray).toList.take _ = _
    rw [List.toList_toArray]
    exact List.take_of_length_le (by rw [bts_length, putF_length]; omega)


set_option maxRecDepth 100000 in
set_option maxHeartbeats 2000000 in
theorem put_in (n : Int) (size : Int) (k : Nat) (hk : min (max size 0) 8 = (k : Int)) (w : World) :
    CallsIn Fence.wide 9 Try.prog 62 #[.int .i64 n, .int .i64 size] w fun e w' => ∃ v, e = .returned v ∧ w'.ownsRow w.heap.size 5 1 v k (bts (putL n k)) ∧ Below w.heap.size w w' := by
  obtain ⟨i0, hi0, hz0, hz1, hz2⟩ := info_parts Try.infoU8'
  obtain ⟨X, hX, hsz⟩ : ∃ X : Int, X = (k : Int) ∧ ((X = 0 ∧ size < 0) ∨ (X = 8 ∧ 8 < size) ∨ (X = size ∧ 0 ≤ size ∧ size ≤ 8)) := ⟨(k : Int), rfl, by omega⟩
  obtain ⟨Z, hZ⟩ : ∃ Z, Z = (bts (List.replicate k 0)).toArray := ⟨_, rfl⟩
  have hmk : ∀ W : World, Sem.run Try.prog (Instr.makeSlice 27 (.int .i64 X) (.int .i64 X)) W = .ok (.slice (some ⟨W.heap.size, 0, none⟩) k k) (W.alloc (.cells Z 5)) := fun W => by
    rw [hX, hZ, run_make_rowN 27 5 i0 _ Try.underlying27 hi0 hz0 .i64 .i64 k k (Nat.le_refl _) (by rw [hz2]; omega) (by omega) W, hz1, made_bytes]
  have HX := Lib.hid hX
  have HZ := Lib.hid hZ
  have hk8 : k ≤ 8 := by omega
  have hW3 := put_start w n k Z hZ
  clear hX hZ hk
  have hro : (Fence.wide).round = none := rfl
  refine callsIn_of_wp_marks Try.func62 rfl trivial ?_ hro
  simp only [Try.ntmps62, List.size_toArray, List.length_cons, List.length_nil, Nat.reduceAdd, Nat.reduceSub, Array.replicate_succ, Array.replicate_zero, List.push_toArray, List.append_toArray, List.nil_append, List.cons_append]
  rcases hsz with ⟨rfl, hs⟩ | ⟨rfl, hs⟩ | ⟨rfl, hs, hs'⟩
  · gi_wp2_with (refine ⟨trivial, ?_⟩; gi_at_call 85; refine (backward_in Fence.wide 8 trivial rfl _ _ _ _).mono ?_; rintro e w' ⟨rfl, rfl⟩)
    refine wpIn_rangeFunc_ownG rfl (by omega) (gf := 99) (lb := #[.pointer (some ⟨w.heap.size + 1 + 1 + 1, 0, none⟩)]) rfl trivial (enters_of Try.func99 (by kernel_rfl) rfl)
      (backward_stops Fence.wide 8 trivial rfl (by omega) (w.heap.size + 1 + 1 + 1) (w.heap.size + 1) k k (by omega) _ (by first | omega | (simp; omega) | simp) (by first | omega | (simp; omega) | simp) hW3.2.2.2.1 ⟨_, putF_length _ _ _, hW3.2.1⟩) KpB.trans (kpB_b (by first | omega | (simp; omega) | simp) (by first | omega | (simp; omega) | simp)) (Below.refl _ _) (fun _ => rfl)
      (fun pre W => PutI w n k (pre.map (·.1.1)) W) (fun _ _ _ => False) (putI_own (by first | omega | (simp; omega) | simp)) (fun _ _ _ _ _ hs _ _ => hs) ⟨hW3.1, hW3.2.1, hW3.2.2.1, hW3.2.2.2.2⟩
      (fun x => { tmps := #[.int .i64 n, .int .i64 0, .pointer (some ⟨w.heap.size, 0, none⟩), undef, .slice none 0 0, .pointer (some ⟨w.heap.size + 1 + 1, 0, none⟩), .int .i64 (x.1.1 : Int), .int .i64 size, .int .i64 0, .int .i64 0, .int .i64 0, .slice (some ⟨w.heap.size + 1, 0, none⟩) k k, .slice (some ⟨w.heap.size + 1, 0, none⟩) k k, .func (.func 99) #[] #[.pointer (some ⟨w.heap.size + 1 + 1 + 1, 0, none⟩)], .int .i64 (x.1.1 : Int), .int .u8 x.1.2, undef, undef, undef, undef, undef, undef, undef, undef], defers := [] }) ?_ ?_ ?_ ?_
    · intro l x W K hK
      gi_wp2
      exact hK
    · rintro l pre x W hI _
      have hx := x.2.1
      obtain ⟨h1, h2, h3, h4⟩ := hI
      obtain ⟨c1, f1⟩ := blk1 h1
      obtain ⟨c3, f3⟩ := blk1 h3
      obtain ⟨y, hy, fy, _, _⟩ := RowB.cell ⟨_, putF_length _ _ _, h2⟩ hx
      have hxi : ((x.1.1 : Nat) : Int) < (k : Int) := by omega
      generalize hxx : x.1.1 = i at *
      have HXX := Lib.hid hxx
      have H12 := Lib.hid (And.intro h1 (And.intro h2 (And.intro h3 h4)))
      clear hxx h1 h2 h3 h4 hW3 hmk
      gi_wp2
      have hgo := putI_step (i := i) H12.out
      refine ⟨((KeepsOthers.setCell _ _ _).trans (KeepsOthers.setCell _ _ _)).from _, hgo.2, ?_⟩
      show PutI w n k ((pre ++ [x]).map (·.1.1)) _
      rw [List.map_append, List.map_singleton, HXX.out]
      exact hgo.1
    · rintro D ys W hD hS hI hK
      obtain ⟨h1, h2, h3, h4⟩ := hI
      obtain ⟨c3, f3⟩ := blk1 h3
      rw [hS] at h2
      have H2 := Lib.hid h2
      have H4 := Lib.hid h4
      clear h1 h2 h3 h4 hW3 hmk
      gi_wp2
      refine ⟨by simp, .inl ⟨_, _, rfl, run_takeDeferred hK, ?_⟩⟩
      refine ⟨_, results_tmp rfl _ _ _, _, rfl, ?_⟩
      exact put_end (by simpa using hD) hK H2.out H4.out
    · rintro D c pre W _ _ h _
      exact h.elim
  · gi_wp2_with (refine ⟨trivial, ?_⟩; gi_at_call 85; refine (backward_in Fence.wide 8 trivial rfl _ _ _ _).mono ?_; rintro e w' ⟨rfl, rfl⟩)
    refine wpIn_rangeFunc_ownG rfl (by omega) (gf := 99) (lb := #[.pointer (some ⟨w.heap.size + 1 + 1 + 1, 0, none⟩)]) rfl trivial (enters_of Try.func99 (by kernel_rfl) rfl)
      (backward_stops Fence.wide 8 trivial rfl (by omega) (w.heap.size + 1 + 1 + 1) (w.heap.size + 1) k k (by omega) _ (by first | omega | (simp; omega) | simp) (by first | omega | (simp; omega) | simp) hW3.2.2.2.1 ⟨_, putF_length _ _ _, hW3.2.1⟩) KpB.trans (kpB_b (by first | omega | (simp; omega) | simp) (by first | omega | (simp; omega) | simp)) (Below.refl _ _) (fun _ => rfl)
      (fun pre W => PutI w n k (pre.map (·.1.1)) W) (fun _ _ _ => False) (putI_own (by first | omega | (simp; omega) | simp)) (fun _ _ _ _ _ hs _ _ => hs) ⟨hW3.1, hW3.2.1, hW3.2.2.1, hW3.2.2.2.2⟩
      (fun x => { tmps := #[.int .i64 n, .int .i64 8, .pointer (some ⟨w.heap.size, 0, none⟩), undef, .slice none 0 0, .pointer (some ⟨w.heap.size + 1 + 1, 0, none⟩), .int .i64 (x.1.1 : Int), .int .i64 size, .int .i64 size, .int .i64 8, .int .i64 8, .slice (some ⟨w.heap.size + 1, 0, none⟩) k k, .slice (some ⟨w.heap.size + 1, 0, none⟩) k k, .func (.func 99) #[] #[.pointer (some ⟨w.heap.size + 1 + 1 + 1, 0, none⟩)], .int .i64 (x.1.1 : Int), .int .u8 x.1.2, undef, undef, undef, undef, undef, undef, undef, undef], defers := [] }) ?_ ?_ ?_ ?_
    · intro l x W K hK
      gi_wp2
      exact hK
    · rintro l pre x W hI _
      have hx := x.2.1
      obtain ⟨h1, h2, h3, h4⟩ := hI
      obtain ⟨c1, f1⟩ := blk1 h1
      obtain ⟨c3, f3⟩ := blk1 h3
      obtain ⟨y, hy, fy, _, _⟩ := RowB.cell ⟨_, putF_length _ _ _, h2⟩ hx
      have hxi : ((x.1.1 : Nat) : Int) < (k : Int) := by omega
      generalize hxx : x.1.1 = i at *
      have HXX := Lib.hid hxx
      have H12 := Lib.hid (And.intro h1 (And.intro h2 (And.intro h3 h4)))
      clear hxx h1 h2 h3 h4 hW3 hmk
      gi_wp2
      have hgo := putI_step (i := i) H12.out
      refine ⟨((KeepsOthers.setCell _ _ _).trans (KeepsOthers.setCell _ _ _)).from _, hgo.2, ?_⟩
      show PutI w n k ((pre ++ [x]).map (·.1.1)) _
      rw [List.map_append, List.map_singleton, HXX.out]
      exact hgo.1
    · rintro D ys W hD hS hI hK
      obtain ⟨h1, h2, h3, h4⟩ := hI
      obtain ⟨c3, f3⟩ := blk1 h3
      rw [hS] at h2
      have H2 := Lib.hid h2
      have H4 := Lib.hid h4
      clear h1 h2 h3 h4 hW3 hmk
      gi_wp2
      refine ⟨by simp, .inl ⟨_, _, rfl, run_takeDeferred hK, ?_⟩⟩
      refine ⟨_, results_tmp rfl _ _ _, _, rfl, ?_⟩
      exact put_end (by simpa using hD) hK H2.out H4.out
    · rintro D c pre W _ _ h _
      exact h.elim
  · gi_wp2_with (refine ⟨trivial, ?_⟩; gi_at_call 85; refine (backward_in Fence.wide 8 trivial rfl _ _ _ _).mono ?_; rintro e w' ⟨rfl, rfl⟩)
    refine wpIn_rangeFunc_ownG rfl (by omega) (gf := 99) (lb := #[.pointer (some ⟨w.heap.size + 1 + 1 + 1, 0, none⟩)]) rfl trivial (enters_of Try.func99 (by kernel_rfl) rfl)
      (backward_stops Fence.wide 8 trivial rfl (by omega) (w.heap.size + 1 + 1 + 1) (w.heap.size + 1) k k (by omega) _ (by first | omega | (simp; omega) | simp) (by first | omega | (simp; omega) | simp) hW3.2.2.2.1 ⟨_, putF_length _ _ _, hW3.2.1⟩) KpB.trans (kpB_b (by first | omega | (simp; omega) | simp) (by first | omega | (simp; omega) | simp)) (Below.refl _ _) (fun _ => rfl)
      (fun pre W => PutI w n k (pre.map (·.1.1)) W) (fun _ _ _ => False) (putI_own (by first | omega | (simp; omega) | simp)) (fun _ _ _ _ _ hs _ _ => hs) ⟨hW3.1, hW3.2.1, hW3.2.2.1, hW3.2.2.2.2⟩
      (fun x => { tmps := #[.int .i64 n, .int .i64 X, .pointer (some ⟨w.heap.size, 0, none⟩), undef, .slice none 0 0, .pointer (some ⟨w.heap.size + 1 + 1, 0, none⟩), .int .i64 (x.1.1 : Int), .int .i64 X, .int .i64 X, .int .i64 X, .int .i64 X, .slice (some ⟨w.heap.size + 1, 0, none⟩) k k, .slice (some ⟨w.heap.size + 1, 0, none⟩) k k, .func (.func 99) #[] #[.pointer (some ⟨w.heap.size + 1 + 1 + 1, 0, none⟩)], .int .i64 (x.1.1 : Int), .int .u8 x.1.2, undef, undef, undef, undef, undef, undef, undef, undef], defers := [] }) ?_ ?_ ?_ ?_
    · intro l x W K hK
      gi_wp2
      exact hK
    · rintro l pre x W hI _
      have hx := x.2.1
      obtain ⟨h1, h2, h3, h4⟩ := hI
      obtain ⟨c1, f1⟩ := blk1 h1
      obtain ⟨c3, f3⟩ := blk1 h3
      obtain ⟨y, hy, fy, _, _⟩ := RowB.cell ⟨_, putF_length _ _ _, h2⟩ hx
      have hxi : ((x.1.1 : Nat) : Int) < (k : Int) := by omega
      generalize hxx : x.1.1 = i at *
      have HXX := Lib.hid hxx
      have H12 := Lib.hid (And.intro h1 (And.intro h2 (And.intro h3 h4)))
      clear hxx h1 h2 h3 h4 hW3 hmk
      gi_wp2
      have hgo := putI_step (i := i) H12.out
      refine ⟨((KeepsOthers.setCell _ _ _).trans (KeepsOthers.setCell _ _ _)).from _, hgo.2, ?_⟩
      show PutI w n k ((pre ++ [x]).map (·.1.1)) _
      rw [List.map_append, List.map_singleton, HXX.out]
      exact hgo.1
    · rintro D ys W hD hS hI hK
      obtain ⟨h1, h2, h3, h4⟩ := hI
      obtain ⟨c3, f3⟩ := blk1 h3
      rw [hS] at h2
      have H2 := Lib.hid h2
      have H4 := Lib.hid h4
      clear h1 h2 h3 h4 hW3 hmk
      gi_wp2
      refine ⟨by simp, .inl ⟨_, _, rfl, run_takeDeferred hK, ?_⟩⟩
      refine ⟨_, results_tmp rfl _ _ _, _, rfl, ?_⟩
      exact put_end (by simpa using hD) hK H2.out H4.out
    · rintro D c pre W _ _ h _
      exact h.elim

/-- octets.Put -/
theorem put_any (n : Int) (size : Int) (k : Nat) (hk : min (max size 0) 8 = (k : Int)) (w : World) :
    Calls Try.prog 62 #[.int .i64 n, .int .i64 size] w fun e w' => ∃ v, e = .returned v ∧ w'.ownsRow w.heap.size 5 1 v k (bts (putL n k)) ∧ Below w.heap.size w w' :=
  (callsIn_wide (n := 9)).1 (put_in n size k hk w)
end Go.Proofs.Ytcbeadldieeceaa

/-
  octets.Number, by its contract.
-/
namespace Go.Proofs.Ytcbeadldieeceaa
open Go.RowKit

def numN (b : List UInt8) : Nat := b.foldl (fun n c => n * 256 + c.toNat) 0
theorem numN_snoc (b : List UInt8) (c : UInt8) : numN (b ++ [c]) = numN b * 256 + c.toNat := by simp [numN]
theorem numN_take (b : List UInt8) (k : Nat) (h : k < b.length) : numN (b.take (k + 1)) = numN (b.take k) * 256 + (b[k]).toNat := by
  rw [List.take_succ_eq_append_getElem h, numN_snoc]
theorem numN_take_lt (b : List UInt8) (k : Nat) (h : k ≤ b.length) : numN (b.take k) < 256 ^ k := by
  induction k with
  | zero => simp [numN]
  | succ k ih =>
    have h1 := ih (by omega)
    have h2 := (b[k]).toNat_lt
    rw [numN_take b k (by omega), Nat.pow_succ]
    omega
theorem numN_lt (b : List UInt8) : numN b < 256 ^ b.length := by
  have := numN_take_lt b b.length (Nat.le_refl _)
  rwa [List.take_length] at this
theorem pow_le8 {k : Nat} (h : k ≤ 7) : 256 ^ k ≤ 72057594037927936 := by
  have : 256 ^ k ≤ 256 ^ 7 := Nat.pow_le_pow_right (by omega) h
  simpa using this
theorem or_u64 (a c : Nat) (ha : a < 72057594037927936) (hc : c < 256) : bits .or .u64 ((a : Int) * 256) (c : Int) = ((a * 256 + c : Nat) : Int) := by
  have h1 : a * 256 < 18446744073709551616 := by omega
  rw [show ((a : Int) * 256) = ((a * 2 ^ 8 : Nat) : Int) by omega, u64_or_nat _ _ (by omega) (by omega), ← Nat.shiftLeft_eq, Nat.shiftLeft_add_eq_or_of_lt (by omega)]
/-- what Number tells -/
def numV (b : List UInt8) : Int := if b.length = 0 ∨ 8 < b.length ∨ 4611686018427387903 < numN b then 0 else numN b
def numE (b : List UInt8) : Int := if b.length = 0 then 8 else if 8 < b.length then 5 else if 4611686018427387903 < numN b then 4 else 0

set_option maxRecDepth 100000 in
theorem number_any (b : List UInt8) (n : Nat) (hnb : n = b.length) (A : Option Addr) (c : Nat) (w : World) (B : Nat) (hr : Reads w B 1 A n (bts b)) (hn : n ≤ 140737488351232) :
    Calls Try.prog 47 #[.slice A n c] w fun e w' => e = .returned (.tuple #[.int .i64 (numV b), .int .i64 (numE b)]) ∧ w = w' := by
  subst hnb
  by_cases h0 : b.length = 0
  · have e0 : ((b.length : Int) == 0) = true := by simp [h0]
    have ev : numV b = 0 := by simp [numV, h0]
    have ee : numE b = 8 := by simp [numE, h0]
    go_enter Try.func47, Try.ntmps47
    go_wp2_with fail
    go_ret2
    exact ⟨by rw [ev, ee]; rfl, rfl⟩
  by_cases h8 : 8 < b.length
  · have e0 : ((b.length : Int) == 0) = false := by simp [h0]
    have e8 : (8 : Int) < (b.length : Int) := by omega
    have ev : numV b = 0 := by simp [numV, h8]
    have ee : numE b = 5 := by simp [numE, h0, h8]
    have EV := Lib.hid ev
    have EE := Lib.hid ee
    clear ev ee
    go_enter Try.func47, Try.ntmps47
    go_wp2_with fail
    go_ret2
    exact ⟨by rw [EV.out, EE.out]; rfl, rfl⟩
  have e0 : ((b.length : Int) == 0) = false := by simp [h0]
  have e8 : (b.length : Int) ≤ 8 := by omega
  go_enter Try.func47, Try.ntmps47
  go_wp2_with fail
  go_loop [4, 17] (fun n i => ∃ k m : Nat, k ≤ b.length ∧ i = .int .i64 (k : Int) ∧ n = .int .u64 (m : Int) ∧ Hid (m = numN (b.take k))) (fun _ i => b.length - (intOf i).toNat)
  case atStart => exact ⟨0, 0, Nat.zero_le _, rfl, rfl, (show _ = _ by simp [numN])⟩
  case round =>
    obtain ⟨k, m, hk, rfl, rfl, hm⟩ := hrel
    by_cases hlt : k < b.length
    · obtain ⟨ad, u, rfl, _, hu, hcu⟩ := hr.at_ (by omega : k < b.length)
      obtain rfl : u = .int .u8 ((b[k]).toNat : Int) := by rw [bts_get, List.getElem?_eq_getElem hlt] at hu; simpa using hu.symm
      have hm7 : m < 72057594037927936 := by have h1 := numN_take_lt b k hk; have h2 := pow_le8 (k := k) (by omega); rw [← hm.out] at h1; omega
      have hy := (b[k]).toNat_lt
      obtain ⟨y, hyy⟩ : ∃ y, y = (b[k]).toNat := ⟨_, rfl⟩
      rw [← hyy] at hcu hy
      have HY := Lib.hid hyy
      clear hyy hu hr
      go_wp2_with fail
      go_round
      case rel => exact ⟨k + 1, m * 256 + y, by omega, by go_num, by rw [or_u64 m y hm7 hy], (show _ = _ by rw [numN_take b k hlt, hm.out, HY.out])⟩
      case measure => simp [intOf]; omega
    · obtain rfl : k = b.length := by omega
      rw [List.take_length] at hm
      have hml : m < 18446744073709551616 := by
        have h1 := numN_lt b
        have h2 : 256 ^ b.length ≤ 256 ^ 8 := Nat.pow_le_pow_right (by omega) (by omega)
        have h3 : (256 : Nat) ^ 8 = 18446744073709551616 := by decide
        rw [hm.out]; omega
      by_cases hbig : 4611686018427387903 < m
      · have ev : numV b = 0 := by simp only [numV]; rw [if_pos (by rw [← hm.out]; omega)]
        have ee : numE b = 4 := by simp only [numE]; rw [if_neg h0, if_neg h8, if_pos (by rw [← hm.out]; omega)]
        have EV := Lib.hid ev
        have EE := Lib.hid ee
        have hbig' : (4611686018427387903 : Int) < (m : Int) := by omega
        clear ev ee hr
        go_wp2_with fail
        go_ret2
        exact ⟨by rw [EV.out, EE.out]; rfl, rfl⟩
      · have ev : numV b = m := by simp only [numV]; rw [if_neg (by rw [← hm.out]; omega), ← hm.out]
        have ee : numE b = 0 := by simp only [numE]; rw [if_neg h0, if_neg h8, if_neg (by rw [← hm.out]; omega)]
        have EV := Lib.hid ev
        have EE := Lib.hid ee
        have hbig' : (m : Int) ≤ 4611686018427387903 := by omega
        clear ev ee hr
        go_wp2_with fail
        go_ret2
        exact ⟨by rw [EV.out, EE.out]; rfl, rfl⟩
end Go.Proofs.Ytcbeadldieeceaa

/-
  What the texts on joins lean on, where a seat holds no slices.Clone of bytes.
-/
namespace Go.Proofs.Ytcbeadldieeceaa
open Go.RowKit

theorem Try.infoU8c : (Try.prog.info? 5).map (fun i => (i.zero, i.size, i.bytes)) = some (some (.int .u8 0), 1, 1) := by kernel_rfl
end Go.Proofs.Ytcbeadldieeceaa

/-
  slices.Grow(nil, n), slices.Concat and octets.Join at bytes, by their contracts.
-/
namespace Go.Proofs.Ytcbeadldieeceaa
open Go.RowKit

set_option maxRecDepth 100000 in
theorem grow_nil (n : Nat) (hn : n ≤ 140737488351232) (w : World) :
    Calls Try.prog 98 #[.slice none 0 0, .int .i64 n] w fun e w' => ∃ v, e = .returned v ∧ w'.ownsRow w.heap.size 5 1 v 0 [] ∧ Below w.heap.size w w' := by
  obtain ⟨i0, hi0, hz0, hz1, hz2⟩ := info_parts Try.infoU8c
  rcases Nat.eq_zero_or_pos n with rfl | h0
  · go_enter Try.func98, Try.ntmps98
    go_wp2_with fail
    go_ret
    exact ⟨_, rfl, World.ownsRow_nil _ _ _ _, Below.refl _ _⟩
  · have hpos : (0 : Int) < (n : Int) := by omega
    have hn1 : ¬ ((n : Int) < 0) := by omega
    have hrz : ∀ ty, (Builtin.append_ #[27, 3] ty #[.slice none 0 0, .int .i64 (n : Int)]).run Try.prog w =
        .ok (.slice (some ⟨w.heap.size, 0, none⟩) n (grownCap w n 0 5)) (w.drew.alloc (.cells (#[] ++ Builtin.zeroCells (Value.int .u8 0).cells n ++ Builtin.zeroCells (Value.int .u8 0).cells (grownCap w n 0 5 - n)) 5)) := fun ty => by
      have h := Lib.run_append_grow_zeros w 27 3 ty 5 i0 (.int .u8 0) .i64 .i64 Try.underlying27 Try.underlying3 hi0 hz0 none 0 0 [] (run_firstCells_none w.drew i0.size 0 0 0) n (by omega) (by omega) (by omega) (by omega)
        (by rw [hz2]; omega)
        (by
          exact growslice_fits (by omega) (by rw [hz2]; omega))
      simpa using h
    have hGn : n ≤ grownCap w n 0 5 := grownCap_ge w _ _ _
    obtain ⟨G, hG⟩ : ∃ G, G = grownCap w n 0 5 := ⟨_, rfl⟩
    rw [← hG] at hrz hGn
    have hGm : G ≤ maxLen := by rw [hG]; exact grownCap_le_maxLen w n 0 5 (by unfold maxLen; omega)
    have hG63 : G ≤ 9223372036854775807 := by unfold maxLen at hGm; omega
    clear hG
    have hown : (w.alloc (.cells (Builtin.zeroCells (Value.int .u8 0).cells n ++ Builtin.zeroCells (Value.int .u8 0).cells (G - n)) 5)).drew.ownsRow w.heap.size 5 1 (.slice (some ⟨w.heap.size, 0, none⟩) 0 G) 0 [] :=
      own_drew (World.ownsRow_made w _ G (Nat.le_refl _) hGm (by simp [Builtin.zeroCells, Value.cells]; omega))
    go_enter Try.func98, Try.ntmps98
    go_wp2_with (at_builtin; refine Lib.wpList_append_run _ rfl _ _ _ _ rfl _ _ rfl rfl _ _ (hrz _) ?_)
    go_ret
    exact ⟨.slice (some ⟨w.heap.size, 0, none⟩) 0 G, rfl, by simpa [Value.cells] using hown, ((Below.refl _ _).alloc (Nat.le_refl _) _).drew⟩

/-- one piece of what is joined -/
structure Piece where
  A : Option Addr
  c : Nat
  b : List UInt8
def Piece.val (p : Piece) : Value := .slice p.A p.b.length p.c
def Piece.ok (w : World) (B : Nat) (p : Piece) : Prop := Reads w B 1 p.A p.b.length (bts p.b)
def sumL (ps : List Piece) : Nat := (ps.map fun p => p.b.length).sum
def catL (ps : List Piece) : List UInt8 := (ps.map fun p => p.b).flatten
theorem sumL_take (ps : List Piece) (k : Nat) (h : k < ps.length) : sumL (ps.take (k + 1)) = sumL (ps.take k) + (ps[k]).b.length := by
  unfold sumL
  rw [List.take_succ_eq_append_getElem h, List.map_append, List.sum_append]
  simp only [List.map_cons, List.map_nil, List.sum_cons, List.sum_nil, Nat.add_zero]
theorem catL_take (ps : List Piece) (k : Nat) (h : k < ps.length) : catL (ps.take (k + 1)) = catL (ps.take k) ++ (ps[k]).b := by
  unfold catL
  rw [List.take_succ_eq_append_getElem h, List.map_append, List.flatten_append]
  simp only [List.map_cons, List.map_nil, List.flatten_cons, List.flatten_nil, List.append_nil]
theorem sumL_take_le (ps : List Piece) (k : Nat) : sumL (ps.take k) ≤ sumL ps := by
  have : ps = ps.take k ++ ps.drop k := (List.take_append_drop k ps).symm
  have h2 : sumL ps = sumL (ps.take k) + sumL (ps.drop k) := by
    conv => lhs; rw [this]
    unfold sumL
    rw [List.map_append, List.sum_append]
  omega
theorem catL_length (ps : List Piece) : (catL ps).length = sumL ps := by
  induction ps with
  | nil => rfl
  | cons p l ih => unfold catL sumL at ih ⊢; simp only [List.map_cons, List.flatten_cons, List.sum_cons, List.length_append, ih]

theorem Try.infoSl : (Try.prog.info? 27).map (fun i => (i.zero, i.size, i.bytes)) = some (some (.slice none 0 0), 1, 24) := by kernel_rfl

set_option maxHeartbeats 200000 in
set_option maxRecDepth 100000 in
theorem concat_any (ps : List Piece) (n : Nat) (hnp : n = ps.length) (A : Option Addr) (c : Nat) (w : World) (B : Nat) (hr : Reads w B 1 A n (ps.map Piece.val)) (hps : ∀ p ∈ ps, p.ok w B) (hB : B ≤ w.heap.size) (T : Nat) (hT : T = sumL ps) (hn : n ≤ 1048576) (hTn : T ≤ 140737488351232) :
    Calls Try.prog 84 #[.slice A n c] w fun e w' => ∃ v, e = .returned v ∧ w'.ownsRow w.heap.size 5 1 v T (bts (catL ps)) ∧ Below w.heap.size w w' := by
  subst hnp
  obtain ⟨i0, hi0, hz0, hz1, hz2⟩ := info_parts Try.infoU8c
  have hTk : ∀ k, sumL (ps.take k) ≤ T := fun k => by rw [hT]; exact sumL_take_le ps k
  have HT := Lib.hid hT
  clear hT
  go_enter Try.func84, Try.ntmps84
  go_wp2_with fail
  go_loop [3, 11] (fun s i => ∃ k m : Nat, k ≤ ps.length ∧ i = .int .i64 (k : Int) ∧ s = .int .i64 (m : Int) ∧ Hid (m = sumL (ps.take k))) (fun _ i => ps.length - (intOf i).toNat)
  case atStart => exact ⟨0, 0, Nat.zero_le _, rfl, rfl, (show _ = _ by simp [sumL])⟩
  case round =>
    obtain ⟨k, m, hk, rfl, rfl, hm⟩ := hrel
    have hmT : m ≤ T := by rw [hm.out]; exact hTk k
    by_cases hlt : k < ps.length
    · obtain ⟨ad, u, rfl, _, hu, hcu⟩ := hr.at_ (by omega : k < ps.length)
      obtain rfl : u = (ps[k]).val := by simpa [List.getElem?_eq_getElem hlt] using hu.symm
      have hmT2 : m + (ps[k]).b.length ≤ T := by rw [hm.out, ← sumL_take ps k hlt]; exact hTk (k + 1)
      have hs2 := Lib.hid (sumL_take ps k hlt)
      obtain ⟨⟨pA, pc, pb⟩, hp⟩ : ∃ p, p = ps[k] := ⟨_, rfl⟩
      rw [← hp] at hcu hmT2 hs2
      simp only [Piece.val] at hcu
      simp only at hmT2
      obtain ⟨q, hq⟩ : ∃ q, q = pb.length := ⟨_, rfl⟩
      rw [← hq] at hcu hmT2
      have HQ := Lib.hid hq
      clear hq hp hu hr hTk
      have hnn : ¬ ((m : Int) + (q : Int) < 0) := by omega
      go_wp2_with fail
      go_round
      case rel => exact ⟨k + 1, m + q, by omega, by go_num, by go_num, (show _ = _ by rw [hs2.out, hm.out, HQ.out])⟩
      case measure => simp [intOf]; omega
    · obtain rfl : k = ps.length := by omega
      rw [List.take_length] at hm
      obtain rfl : m = T := by rw [hm.out, HT.out]
      go_wp2_with fail
      refine (grow_nil m (by omega) _).mono ?_
      rintro e w1 ⟨v, rfl, hown, hb1⟩
      simp only []
      have hr1 := hr
      have hps1 := hps
      have hsz1 := hb1.size
      clear hr hps hTk
      go_wp2_with fail
      go_loopw [6, 27] (fun v i wr => ∃ k t : Nat, k ≤ ps.length ∧ i = .int .i64 (k : Int) ∧ Hid (t = sumL (ps.take k)) ∧ wr.ownsRow w.heap.size 5 1 v t (bts (catL (ps.take k))) ∧ Below w.heap.size w wr) (fun _ i _ => ps.length - (intOf i).toNat)
      case atStart => exact ⟨0, 0, Nat.zero_le _, rfl, (show _ = _ by simp [sumL]), by simpa [catL, bts] using hown, hb1⟩
      case round =>
        obtain ⟨k, t, hk, rfl, ht, hown, hbw⟩ := hrel
        have hr2 := hr1.below (hbw.mono hB)
        have hTk : ∀ k, sumL (ps.take k) ≤ m := fun k => by rw [HT.out]; exact sumL_take_le ps k
        by_cases hlt : k < ps.length
        · obtain ⟨ad, u, rfl, _, hu, hcu⟩ := hr2.at_ (by omega : k < ps.length)
          obtain rfl : u = (ps[k]).val := by simpa [List.getElem?_eq_getElem hlt] using hu.symm
          have hpk : (ps[k]).ok _ B := (hps1 ps[k] (List.getElem_mem hlt)).below (hbw.mono hB)
          have hs2 := Lib.hid (sumL_take ps k hlt)
          have hc2 := Lib.hid (catL_take ps k hlt)
          have hmT2 : t + (ps[k]).b.length ≤ m := by rw [ht.out, ← sumL_take ps k hlt]; exact hTk (k + 1)
          obtain ⟨⟨pA, pc, pb⟩, hp⟩ : ∃ p, p = ps[k] := ⟨_, rfl⟩
          rw [← hp] at hcu hmT2 hs2 hpk hc2
          simp only [Piece.val] at hcu
          simp only [Piece.ok] at hpk
          simp only at hmT2
          obtain ⟨q, hq⟩ : ∃ q, q = pb.length := ⟨_, rfl⟩
          rw [← hq] at hcu hmT2 hpk
          have HQ := Lib.hid hq
          have hsw := hbw.size
          clear hq hp hu hr1 hr2 hTk hps1
          go_wp2_with (at_builtin; (refine wpList_append_any _ rfl (.tmp 31) (.tmp 32) _ rfl w.heap.size 5 i0 _ 1 1 Try.underlying27 hi0 hz0 hz1 hz2 rfl (by omega) _ t _ rfl hown B pA q pc (bts pb) rfl hpk (bts_one _) (by unfold maxLen; omega) (by omega) hsw ?_); intro v2 w2 hown2 hg2 hat2)
          go_roundw
          case rel => exact ⟨k + 1, t + q, by omega, by go_num, (show _ = _ by rw [hs2.out, ht.out, HQ.out]), by rw [hc2.out, bts_append]; exact hown2, hbw.grown hg2 hsw (fun j hj => (hown.lt j hj).1)⟩
          case measure => simp [intOf]; omega
        · obtain rfl : k = ps.length := by omega
          rw [List.take_length] at ht hown
          obtain rfl : t = m := by rw [ht.out, HT.out]
          go_wp2_with fail
          go_ret
          exact ⟨_, rfl, hown, hbw⟩

set_option maxRecDepth 100000 in
theorem join_any (ps : List Piece) (n : Nat) (hnp : n = ps.length) (A : Option Addr) (c : Nat) (w : World) (B : Nat) (hr : Reads w B 1 A n (ps.map Piece.val)) (hps : ∀ p ∈ ps, p.ok w B) (hB : B ≤ w.heap.size) (T : Nat) (hT : T = sumL ps) (hn : n ≤ 1048576) (hTn : T ≤ 140737488351232) :
    Calls Try.prog 61 #[.slice A n c] w fun e w' => ∃ v, e = .returned v ∧ w'.ownsRow w.heap.size 5 1 v T (bts (catL ps)) ∧ Below w.heap.size w w' := by
  have HT := Lib.hid hT
  have HN := Lib.hid hnp
  clear hT hnp
  go_enter Try.func61, Try.ntmps61
  go_wp2_with fail
  refine (concat_any ps n HN.out A c _ B hr hps hB T HT.out hn hTn).mono ?_
  rintro e w1 ⟨v, rfl, hown, hb1⟩
  go_wp2_with fail
  go_ret
  exact ⟨_, rfl, hown, hb1⟩
end Go.Proofs.Ytcbeadldieeceaa
