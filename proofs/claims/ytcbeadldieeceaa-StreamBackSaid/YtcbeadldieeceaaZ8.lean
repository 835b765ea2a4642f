/-
  An argument that is a record.
-/
import Derived.Test.YtcbeadldieeceaaRows
import Derived.Deep.RegionLaw
import Derived.Handy
import Derived.Lib.AppendStr
import Derived.Test.YtcbeadldieeceaaZ1
import Derived.Test.YtcbeadldieeceaaZ2
import Derived.Test.YtcbeadldieeceaaZ3
import Derived.Test.YtcbeadldieeceaaZ4
import Derived.Test.YtcbeadldieeceaaZ5
import Derived.Test.YtcbeadldieeceaaZ7
namespace Go.Proofs.Ytcbeadldieeceaa
open Go.RowKit

theorem list12 {α : Type} {l : List α} (h : l.length = 12) : ∃ a b c d e f g h i j k m, l = [a, b, c, d, e, f, g, h, i, j, k, m] := by
  match l, h with
  | [a, b, c, d, e, f, g, h, i, j, k, m], _ => exact ⟨a, b, c, d, e, f, g, h, i, j, k, m, rfl⟩
theorem list4 {α : Type} {l : List α} (h : l.length = 4) : ∃ a b c d, l = [a, b, c, d] := by
  match l, h with
  | [a, b, c, d], _ => exact ⟨a, b, c, d, rfl⟩
theorem list2 {α : Type} {l : List α} (h : l.length = 2) : ∃ a b, l = [a, b] := by
  match l, h with
  | [a, b], _ => exact ⟨a, b, rfl⟩
theorem Try.cofInt : Try.prog.cellsOf 3 = 1 := by kernel_rfl
theorem Try.cofStr : Try.prog.cellsOf 9 = 1 := by kernel_rfl
theorem Try.cofProps : Try.prog.cellsOf 24 = 1 := by kernel_rfl
theorem Try.cofProp : Try.prog.cellsOf 91 = 2 := by kernel_rfl
theorem Try.cofU64 : Try.prog.cellsOf 40 = 1 := by kernel_rfl
theorem Try.cofSum : Try.prog.cellsOf 42 = 4 := by kernel_rfl
theorem Try.cofRec : Try.prog.cellsOf 47 = 12 := by kernel_rfl
theorem Try.cofU8 : Try.prog.cellsOf 5 = 1 := by kernel_rfl
theorem Try.bofU8 : Try.prog.bytesOf 5 = 1 := by kernel_rfl
theorem Try.bofProp : Try.prog.bytesOf 91 = 32 := by kernel_rfl
section
variable {H : Type} {enc : TypeId × Value → H} {W : World} {K : Nat} {cs : List Value} {d : DataW H}
theorem CellsIn.prop (h : CellsIn enc Try.prog W K 91 cs d) : ∃ x : BS × BS, cs = [strV x.1, strV x.2] ∧ (x.1.length ≤ 140737488351232 ∧ x.2.length ≤ 140737488351232) := by
  obtain ⟨hl, hf⟩ := h.fields Try.underlying91
  obtain ⟨c0, c1, rfl⟩ := list2 (hl.trans Try.cofProp)
  obtain ⟨y0, q0⟩ := hf 0 _ rfl
  obtain ⟨y1, q1⟩ := hf 1 _ rfl
  obtain ⟨s0, e0, b0, _⟩ := q0.str Try.underlying9
  obtain ⟨s1, e1, b1, _⟩ := q1.str Try.underlying9
  simp [Try.cofStr] at e0 e1
  exact ⟨(s0, s1), by rw [e0, e1]; rfl, b0, b1⟩
theorem CellsIn.props (h : CellsIn enc Try.prog W K 24 cs d) :
    ∃ (A : Option Addr) (l : PL) (n c : Nat), cs = [.slice A n c] ∧ n = l.length ∧ n ≤ c ∧ c ≤ 4398046511104 ∧ n ≤ K ∧ Reads W W.heap.size 2 A n (pcells l) ∧ strOk l := by
  obtain ⟨A, l, n, c, hcs, hn, hc, _, hb, hK, hr, hg⟩ := h.list (fun x : BS × BS => [strV x.1, strV x.2]) (fun x => x.1.length ≤ 140737488351232 ∧ x.2.length ≤ 140737488351232) (fun _ => rfl) (by decide) Try.cofProp Try.underlying24 (fun _ _ h => h.prop)
  rw [Try.bofProp] at hb
  exact ⟨A, l, n, c, hcs, hn, hc, by omega, hK, hr, hg⟩
theorem CellsIn.sum (h : CellsIn enc Try.prog W K 42 cs d) : ∃ s : Sm, cs = [.int .u64 s.a, .int .u64 s.b, .int .u64 s.c, .int .u64 s.d] ∧ s.ok := by
  obtain ⟨hl, hf⟩ := h.fields Try.underlying42
  obtain ⟨c0, c1, c2, c3, rfl⟩ := list4 (hl.trans Try.cofSum)
  obtain ⟨y0, q0⟩ := hf 0 _ rfl
  obtain ⟨y1, q1⟩ := hf 1 _ rfl
  obtain ⟨y2, q2⟩ := hf 2 _ rfl
  obtain ⟨y3, q3⟩ := hf 3 _ rfl
  obtain ⟨n0, e0, b0, b0'⟩ := q0.u64 Try.underlying40
  obtain ⟨n1, e1, b1, b1'⟩ := q1.u64 Try.underlying40
  obtain ⟨n2, e2, b2, b2'⟩ := q2.u64 Try.underlying40
  obtain ⟨n3, e3, b3, b3'⟩ := q3.u64 Try.underlying40
  simp [Try.cofU64] at e0 e1 e2 e3
  exact ⟨⟨n0, n1, n2, n3⟩, by rw [e0, e1, e2, e3], ⟨⟨b0, b0'⟩, ⟨b1, b1'⟩, ⟨b2, b2'⟩, ⟨b3, b3'⟩⟩⟩
/-- a record's cells: the record, where its own properties stand -/
def RcGood (W : World) (r : Rc) (A : Option Addr) (n c : Nat) : Prop :=
  n = r.own.length ∧ n ≤ c ∧ c ≤ 4398046511104 ∧ Reads W W.heap.size 2 A n (pcells r.own) ∧ strOk r.own ∧ r.sm.ok ∧ r.nm.length ≤ 140737488351232 ∧ r.dt.length ≤ 140737488351232 ∧
  (-9223372036854775808 ≤ r.kind ∧ r.kind ≤ 9223372036854775807) ∧ (-9223372036854775808 ≤ r.frm ∧ r.frm ≤ 9223372036854775807) ∧ (-9223372036854775808 ≤ r.gd ∧ r.gd ≤ 9223372036854775807) ∧ (-9223372036854775808 ≤ r.ix ∧ r.ix ≤ 9223372036854775807) ∧ (-9223372036854775808 ≤ r.ct ∧ r.ct ≤ 9223372036854775807)
theorem CellsIn.record (h : CellsIn enc Try.prog W K 47 cs d) : ∃ (r : Rc) (A : Option Addr) (n c : Nat), cs = (rcCells r (.slice A n c)).toList ∧ RcGood W r A n c ∧ n ≤ K := by
  obtain ⟨hl, hf⟩ := h.fields Try.underlying47
  obtain ⟨c0, c1, c2, c3, c4, c5, c6, c7, c8, c9, c10, c11, rfl⟩ := list12 (hl.trans Try.cofRec)
  obtain ⟨y0, q0⟩ := hf 0 _ rfl
  obtain ⟨y1, q1⟩ := hf 1 _ rfl
  obtain ⟨y2, q2⟩ := hf 2 _ rfl
  obtain ⟨y3, q3⟩ := hf 3 _ rfl
  obtain ⟨y4, q4⟩ := hf 4 _ rfl
  obtain ⟨y5, q5⟩ := hf 5 _ rfl
  obtain ⟨y6, q6⟩ := hf 6 _ rfl
  obtain ⟨y7, q7⟩ := hf 7 _ rfl
  obtain ⟨y8, q8⟩ := hf 8 _ rfl
  obtain ⟨n0, e0, b0⟩ := q0.i64 Try.underlying3
  obtain ⟨s1, e1, b1, _⟩ := q1.str Try.underlying9
  obtain ⟨n2, e2, b2⟩ := q2.i64 Try.underlying3
  obtain ⟨n3, e3, b3⟩ := q3.i64 Try.underlying3
  obtain ⟨A, l, n, c, e4, hn, hc, hcm, hK, hr, hg⟩ := q4.props
  obtain ⟨n5, e5, b5⟩ := q5.i64 Try.underlying3
  obtain ⟨n6, e6, b6⟩ := q6.i64 Try.underlying3
  obtain ⟨s7, e7, b7, _⟩ := q7.str Try.underlying9
  obtain ⟨sm, e8, b8⟩ := q8.sum
  simp [Try.cofInt, Try.cofStr, Try.cofProps, Try.cofSum] at e0 e1 e2 e3 e4 e5 e6 e7 e8
  obtain ⟨e8, e9, e10, e11⟩ := e8
  exact ⟨⟨n0, s1, n2, n3, l, n5, n6, s7, sm⟩, A, n, c, by rw [e0, e1, e2, e3, e4, e5, e6, e7, e8, e9, e10, e11]; rfl, ⟨hn, hc, hcm, hr, hg, b8, b1, b7, b0, b2, b3, b5, b6⟩, hK⟩
theorem ArgIn.record {v : Value} (h : ArgIn enc Try.prog W 47 v d) : ∃ (r : Rc) (A : Option Addr) (n c : Nat), v = rcV r (.slice A n c) ∧ RcGood W r A n c ∧ n ≤ Rows.uptoBulk d := by
  obtain ⟨cs, rfl, hc⟩ := h.agg Try.underlying47
  obtain ⟨r, A, n, c, hcs, hg, hK⟩ := hc.record
  refine ⟨r, A, n, c, ?_, hg, hK⟩
  show Value.agg _ = Value.agg _
  congr 1
  exact Array.toList_inj.1 hcs
theorem ArgIn.u8s {v : Value} (h : ArgIn enc Try.prog W 27 v d) :
    ∃ (A : Option Addr) (b : List UInt8) (n c : Nat), v = .slice A n c ∧ n = b.length ∧ n ≤ c ∧ c ≤ 140737488351232 ∧ n ≤ Rows.uptoBulk d ∧ Reads W W.heap.size 1 A n (bts b) := by
  obtain ⟨A0, n0, c0, rfl, hc⟩ := h.slc Try.underlying27
  obtain ⟨A, l, n, c, hcs, hn, hc, _, hb, hK, hr, htr⟩ := hc.list (fun x : UInt8 => [Value.int .u8 (x.toNat : Int)]) (fun _ => True) (fun _ => rfl) (by decide) Try.cofU8 Try.underlying27 (fun cs d h => by
    obtain ⟨b, hb⟩ := h.u8 Try.underlying5
    exact ⟨b, hb, trivial⟩)
  simp at hcs
  obtain ⟨rfl, rfl, rfl⟩ := hcs
  rw [Try.bofU8] at hb
  refine ⟨A0, l, n0, c0, rfl, hn, hc, by omega, hK, ?_⟩
  have e : l.flatMap (fun x : UInt8 => [Value.int .u8 (x.toNat : Int)]) = bts l := by
    unfold bts
    clear hr hn htr
    induction l with
    | nil => rfl
    | cons x l ih => rw [List.flatMap_cons, ih]; rfl
  rwa [e] at hr
end
end Go.Proofs.Ytcbeadldieeceaa

/-
  fletch.Words, by its contract.
-/
namespace Go.Proofs.Ytcbeadldieeceaa
open Go.RowKit

def w4 (a b c d : UInt8) : Nat := a.toNat * 16777216 + b.toNat * 65536 + c.toNat * 256 + d.toNat
def wordAt (b : List UInt8) (k : Nat) : Nat := w4 (b.getD (4 * k) 0) (b.getD (4 * k + 1) 0) (b.getD (4 * k + 2) 0) (b.getD (4 * k + 3) 0)
def wordsN (b : List UInt8) (k : Nat) : List Nat := (List.range k).map (wordAt b)
def words (b : List UInt8) : List Nat := wordsN b ((b.length + 3) / 4)
def u32s (l : List Nat) : List Value := l.map fun (n : Nat) => Value.int .u32 (n : Int)

theorem Try.infoU8 : (Try.prog.info? 5).map (fun i => (i.zero, i.size, i.bytes)) = some (some (.int .u8 0), 1, 1) := by kernel_rfl
theorem Try.infoU32 : (Try.prog.info? 104).map (fun i => (i.zero, i.size, i.bytes)) = some (some (.int .u32 0), 1, 4) := by kernel_rfl

theorem words_cell {w : World} {ad : Addr} {b : List UInt8} {j i : Nat} {u : Value} (hc : ∀ (j : Nat) (u : Value), (bts b)[j]? = some u → w.cell? (ad.add j) = some u)
    (hu : (bts ((b.drop j).take 4))[i]? = some u) : w.cell? (ad.add (j + i)) = some u := by
  apply hc
  rw [bts_take, bts_drop, List.getElem?_take] at hu
  split at hu
  · rw [← hu, List.getElem?_drop]
  · cases hu

theorem pad_get (x : List UInt8) (hx : x.length ≤ 4) (i : Nat) (hi : i < 4) :
    (splice [Value.int .u8 0, .int .u8 0, .int .u8 0, .int .u8 0] 0 (bts x))[i]? = some (.int .u8 ((x.getD i 0).toNat : Int)) := by
  match x, hx with
  | [], _ => match i, hi with | 0, _ | 1, _ | 2, _ | 3, _ => rfl
  | [a], _ => match i, hi with | 0, _ | 1, _ | 2, _ | 3, _ => rfl
  | [a, b], _ => match i, hi with | 0, _ | 1, _ | 2, _ | 3, _ => rfl
  | [a, b, c], _ => match i, hi with | 0, _ | 1, _ | 2, _ | 3, _ => rfl
  | [a, b, c, d], _ => match i, hi with | 0, _ | 1, _ | 2, _ | 3, _ => rfl
def byteAt (b : List UInt8) (i : Nat) : Int := ((b.getD i 0).toNat : Int)
theorem byteAt_bd (b : List UInt8) (i : Nat) : 0 ≤ byteAt b i ∧ byteAt b i ≤ 255 := by
  unfold byteAt
  have := (b.getD i 0).toNat_lt
  omega
theorem word_cells {w : World} {b : List UInt8} {g j : Nat} {T : TypeId}
    (h : w.heap[g]? = some (.cells (splice [Value.int .u8 0, .int .u8 0, .int .u8 0, .int .u8 0] 0 (bts ((b.drop j).take 4))).toArray T (0, 0))) :
    w.cell? ⟨g, 0, none⟩ = some (.int .u8 (byteAt b j)) ∧ w.cell? ⟨g, 1, none⟩ = some (.int .u8 (byteAt b (j + 1))) ∧
    w.cell? ⟨g, 2, none⟩ = some (.int .u8 (byteAt b (j + 2))) ∧ w.cell? ⟨g, 3, none⟩ = some (.int .u8 (byteAt b (j + 3))) := by
  have key : ∀ i, i < 4 → w.cell? ⟨g, i, none⟩ = some (.int .u8 (byteAt b (j + i))) := by
    intro i hi
    rw [cell_of_row w g i _ T (0, 0) h, List.getElem?_toArray, pad_get _ (by simp; omega) i hi]
    simp [byteAt, List.getD_eq_getElem?_getD, hi]
  exact ⟨key 0 (by omega), key 1 (by omega), key 2 (by omega), key 3 (by omega)⟩
theorem or_u32 (A k C : Nat) (hak : A * 2 ^ k < 4294967296) (hck : C < 2 ^ k) (hc : C < 4294967296) : bits .or .u32 ((A * 2 ^ k : Nat) : Int) (C : Int) = ((A * 2 ^ k + C : Nat) : Int) := by
  rw [u32_or_nat _ _ hak hc, ← Nat.shiftLeft_eq, Nat.shiftLeft_add_eq_or_of_lt hck]
theorem or4 (x0 x1 x2 x3 : Int) (h0 : 0 ≤ x0) (g0 : x0 ≤ 255) (h1 : 0 ≤ x1) (g1 : x1 ≤ 255) (h2 : 0 ≤ x2) (g2 : x2 ≤ 255) (h3 : 0 ≤ x3) (g3 : x3 ≤ 255) :
    bits .or .u32 (bits .or .u32 (bits .or .u32 (x0 * 16777216) (x1 * 65536)) (x2 * 256)) x3 = x0 * 16777216 + x1 * 65536 + x2 * 256 + x3 := by
  obtain ⟨a, rfl⟩ := Int.eq_ofNat_of_zero_le h0
  obtain ⟨b, rfl⟩ := Int.eq_ofNat_of_zero_le h1
  obtain ⟨c, rfl⟩ := Int.eq_ofNat_of_zero_le h2
  obtain ⟨d, rfl⟩ := Int.eq_ofNat_of_zero_le h3
  have e1 := or_u32 a 24 (b * 65536) (by omega) (by omega) (by omega)
  have e2 := or_u32 (a * 256 + b) 16 (c * 256) (by omega) (by omega) (by omega)
  have e3 := or_u32 (a * 65536 + b * 256 + c) 8 d (by omega) (by omega) (by omega)
  rw [show ((a : Int) * 16777216) = ((a * 2 ^ 24 : Nat) : Int) from by omega, show ((b : Int) * 65536) = ((b * 65536 : Nat) : Int) from by omega, e1,
    show ((a * 2 ^ 24 + b * 65536 : Nat) : Int) = (((a * 256 + b) * 2 ^ 16 : Nat) : Int) from by omega, show ((c : Int) * 256) = ((c * 256 : Nat) : Int) from by omega, e2,
    show (((a * 256 + b) * 2 ^ 16 + c * 256 : Nat) : Int) = (((a * 65536 + b * 256 + c) * 2 ^ 8 : Nat) : Int) from by omega, e3]
  omega
theorem wordsN_succ (b : List UInt8) (k : Nat) : wordsN b (k + 1) = wordsN b k ++ [wordAt b k] := by simp [wordsN, List.range_succ]
theorem wordsN_length (b : List UInt8) (k : Nat) : (wordsN b k).length = k := by simp [wordsN]
theorem word_step (b : List UInt8) {j k : Nat} (hj : j = 4 * k) {y0 y1 y2 y3 : Int} (e0 : y0 = byteAt b j) (e1 : y1 = byteAt b (j + 1)) (e2 : y2 = byteAt b (j + 2)) (e3 : y3 = byteAt b (j + 3)) :
    u32s (wordsN b (k + 1)) = u32s (wordsN b k) ++ [.int .u32 (bits .or .u32 (bits .or .u32 (bits .or .u32 (y0 * 16777216) (y1 * 65536)) (y2 * 256)) y3)] := by
  subst hj e0 e1 e2 e3
  rw [or4 _ _ _ _ (byteAt_bd _ _).1 (byteAt_bd _ _).2 (byteAt_bd _ _).1 (byteAt_bd _ _).2 (byteAt_bd _ _).1 (byteAt_bd _ _).2 (byteAt_bd _ _).1 (byteAt_bd _ _).2, wordsN_succ]
  simp [u32s, wordAt, w4, byteAt]

set_option maxRecDepth 100000 in
set_option maxHeartbeats 400000 in
theorem words_any (b : List UInt8) (A : Option Addr) (c : Nat) (w : World) (B : Nat) (hr : Reads w B 1 A b.length (bts b)) (hB : B ≤ w.heap.size) (hc : b.length ≤ c) (hn : b.length ≤ 140737488351232) :
    Calls Try.prog 63 #[.slice A b.length c] w fun e w' => ∃ v, e = .returned v ∧ w'.ownsRow w.heap.size 104 1 v (words b).length (u32s (words b)) ∧ Below w.heap.size w w' := by
  obtain ⟨i0, hi0, hz0, hz1, hz2⟩ := info_parts Try.infoU32
  go_enter Try.func63, Try.ntmps63
  go_wp2_with (at_make; (refine wpList_make_own _ rfl _ _ _ rfl w.heap.size 104 i0 _ 1 Try.underlying102 hi0 hz0 hz1 .i64 .i64 _ ((b.length + 3) / 4) rfl rfl (by omega) (by rw [hz2]; omega) (by unfold maxLen; omega) (Nat.le_refl _) ?_); intro w1 hown1 hg1)
  go_loopw [3, 4] (fun o i wr => ∃ j k : Nat, Hid (j = 4 * k) ∧ j ≤ b.length + 3 ∧ i = .int .i64 (j : Int) ∧ wr.ownsRow w.heap.size 104 1 o k (u32s (wordsN b k)) ∧ Below w.heap.size w wr) (fun _ i _ => b.length - (intOf i).toNat)
  case atStart => exact ⟨0, 0, rfl, by omega, rfl, hown1, (Below.refl _ _).grown hg1 (Nat.le_refl _) (fun j hj => by cases hj)⟩
  case round =>
    obtain ⟨j, k, hjk, hj, rfl, hown, hbel⟩ := hrel
    by_cases hlt : j < b.length
    · obtain ⟨ad, rfl, hbA, hcA⟩ := hr.2 (by omega)
      have hne : ¬ c = j := by omega
      have hle : (j : Int) ≤ (b.length : Int) := by omega
      go_wp2_with fail
      go_region_law ((refine step_copy_splice rfl (.tmp 18) (.tmp 21) _ _ rfl 5 Try.underlying27 (by kernel_rfl) _ _ _ _ _ _ rfl rfl wr.heap.size 0 [.int .u8 0, .int .u8 0, .int .u8 0, .int .u8 0] 149 (by exact heap_alloc_new wr _) (bts ((b.drop j).take 4)) (by rw [bts_length, List.length_take, List.length_drop]; exact Nat.min_comm _ _) (by exact fun _ => ⟨rfl, _, rfl, fun i u hu => ((hbel.alloc hbel.size _).drew.cell (by rw [block_of_add, block_of_add]; exact Nat.lt_of_lt_of_le hbA hB)).trans (by rw [add_of_add]; exact words_cell hcA hu)⟩) (by simp [bts_length]; omega) (bts_one _) wr.heap.size wr (by exact ((Below.refl _ _).alloc (Nat.le_refl _) _).drew) (Nat.le_refl _) ?_; intro w2 hg2 hb2))
      have hx := word_cells hg2.out
      clear hg2
      obtain ⟨hx0, hx1, hx2, hx3⟩ := hx
      obtain ⟨y0, e0⟩ : ∃ y, y = byteAt b j := ⟨_, rfl⟩
      obtain ⟨y1, e1⟩ : ∃ y, y = byteAt b (j + 1) := ⟨_, rfl⟩
      obtain ⟨y2, e2⟩ : ∃ y, y = byteAt b (j + 2) := ⟨_, rfl⟩
      obtain ⟨y3, e3⟩ : ∃ y, y = byteAt b (j + 3) := ⟨_, rfl⟩
      have b0 := byteAt_bd b j
      have b1 := byteAt_bd b (j + 1)
      have b2 := byteAt_bd b (j + 2)
      have b3 := byteAt_bd b (j + 3)
      rw [← e0] at hx0 b0
      rw [← e1] at hx1 b1
      rw [← e2] at hx2 b2
      rw [← e3] at hx3 b3
      have H0 := Lib.hid e0
      have H1 := Lib.hid e1
      have H2 := Lib.hid e2
      have H3 := Lib.hid e3
      clear e0 e1 e2 e3
      obtain ⟨l0, m0⟩ := b0
      obtain ⟨l1, m1⟩ := b1
      obtain ⟨l2, m2⟩ := b2
      obtain ⟨l3, m3⟩ := b3
      have hown2 := own_below hown hb2
      have hsz2 := hb2.size
      have hsz := hbel.size
      clear hown hr hcA hg1 hown1
      go_wp2_with (at_builtin; (refine wpList_push _ rfl (.tmp 23) (.tmp 42) _ rfl w.heap.size 104 i0 _ 1 4 Try.underlying102 hi0 hz0 hz1 hz2 rfl (by decide) _ k (u32s (wordsN b k)) rfl hown2 1 _ _ rfl rfl (by intro u hu; simp at hu; subst hu; rfl) (by unfold maxLen; have := hjk.out; omega) (by have := hjk.out; omega) (by omega) ?_); intro v' w3 hown3 hb3 hg3)
      clear hg3
      go_roundw
      case rel => exact ⟨j + 4, k + 1, (by have := hjk.out; show _ = _; omega), by omega, by go_num, by rw [word_step b hjk.out H0.out H1.out H2.out H3.out]; exact hown3, (hbel.trans (hb2.mono hsz)).trans hb3⟩
      case measure => simp [intOf]; omega
    · go_wp2_with fail
      go_ret
      have hk : k = (b.length + 3) / 4 := by have := hjk.out; omega
      subst hk
      exact ⟨_, rfl, by unfold words; rw [wordsN_length]; exact hown, hbel⟩
end Go.Proofs.Ytcbeadldieeceaa

/-
  fletch.Feed, by its contract.
-/
namespace Go.Proofs.Ytcbeadldieeceaa
open Go.RowKit

def wu (n : Int) : Int := IntKind.u64.wrap n
def Sm.step (s : Sm) (w : Nat) : Sm := ⟨wu (s.a + w), wu (s.b + wu (s.a + w)), wu (s.c + wu (s.b + wu (s.a + w))), wu (s.d + wu (s.c + wu (s.b + wu (s.a + w))))⟩
def feedL (s : Sm) (l : List Nat) : Sm := l.foldl Sm.step s

theorem words_lt (b : List UInt8) : ∀ x ∈ words b, x < 4294967296 := by
  intro x hx
  simp only [words, wordsN, List.mem_map, List.mem_range] at hx
  obtain ⟨k, _, rfl⟩ := hx
  have h0 := (b.getD (4 * k) 0).toNat_lt
  have h1 := (b.getD (4 * k + 1) 0).toNat_lt
  have h2 := (b.getD (4 * k + 2) 0).toNat_lt
  have h3 := (b.getD (4 * k + 3) 0).toNat_lt
  unfold wordAt w4
  omega
theorem feedL_take (s : Sm) (l : List Nat) (k : Nat) (x : Nat) (h : l[k]? = some x) : feedL s (l.take (k + 1)) = (feedL s (l.take k)).step x := by
  obtain ⟨hk, rfl⟩ := List.getElem?_eq_some_iff.1 h
  unfold feedL
  rw [List.take_succ_eq_append_getElem hk, List.foldl_append]
  rfl
def FeedRel (s : Sm) (l : List Nat) (k : Nat) (g : Nat) (T : TypeId) (w : World) : Prop :=
  Blk w g T #[.int .u64 (feedL s (l.take k)).a, .int .u64 (feedL s (l.take k)).b, .int .u64 (feedL s (l.take k)).c, .int .u64 (feedL s (l.take k)).d]

theorem feed_rel {s : Sm} {l : List Nat} {k g : Nat} {T : TypeId} {w : World} {ya yb yc yd : Int} {x : Nat} (h : Blk w g T #[.int .u64 ya, .int .u64 yb, .int .u64 yc, .int .u64 yd])
    (hs : feedL s (l.take (k + 1)) = Sm.step ⟨ya, yb, yc, yd⟩ x) :
    FeedRel s l (k + 1) g T ((((w.setCell ⟨g, 0, none⟩ (.int .u64 (IntKind.u64.wrap (ya + x)))).setCell ⟨g, 1, none⟩ (.int .u64 (IntKind.u64.wrap (yb + IntKind.u64.wrap (ya + x))))).setCell ⟨g, 2, none⟩
      (.int .u64 (IntKind.u64.wrap (yc + IntKind.u64.wrap (yb + IntKind.u64.wrap (ya + x)))))).setCell ⟨g, 3, none⟩ (.int .u64 (IntKind.u64.wrap (yd + IntKind.u64.wrap (yc + IntKind.u64.wrap (yb + IntKind.u64.wrap (ya + x))))))) := by
  unfold FeedRel
  rw [hs]
  exact (((h.set_ 0 _).set_ 1 _).set_ 2 _).set_ 3 _

set_option maxRecDepth 100000 in
set_option maxHeartbeats 400000 in
theorem feed_any (s : Sm) (b : List UInt8) (A : Option Addr) (c : Nat) (w : World) (B : Nat) (hr : Reads w B 1 A b.length (bts b)) (hB : B ≤ w.heap.size) (hc : b.length ≤ c) (hn : b.length ≤ 140737488351232) :
    Calls Try.prog 43 #[s.val, .slice A b.length c] w fun e w' => e = .returned (feedL s (words b)).val ∧ Below w.heap.size w w' := by
  obtain ⟨sa, sb, sc, sd⟩ := s
  show Calls _ _ #[.agg #[.int .u64 sa, .int .u64 sb, .int .u64 sc, .int .u64 sd], _] _ _
  go_enter Try.func43, Try.ntmps43
  go_wp2_with fail
  refine (words_any b A c _ B (hr.below (by go_grown)) (by simp; omega) hc hn).mono ?_
  rintro e w1 ⟨v, rfl, hown, hb1⟩
  obtain ⟨A2, c2, rfl, hc2, hm2, hr2⟩ := own_form hown
  simp only []
  have hwl : (words b).length ≤ 140737488351232 := by simp [words, wordsN_length]; omega
  obtain ⟨l, hl⟩ : ∃ l, l = words b := ⟨_, rfl⟩
  rw [← hl] at hc2 hr2 hwl hown ⊢
  have HL := Lib.hid hl
  clear hl hr2 hr
  have hsz := hb1.size
  simp at hsz
  have hk1 : Blk w1 w.heap.size 42 #[.int .u64 sa, .int .u64 sb, .int .u64 sc, .int .u64 sd] := ((Blk.new w _ _).alloc _).below hb1 (by simp; omega)
  have hk2 : Blk w1 (w.heap.size + 1) 42 #[.int .u64 0, .int .u64 0, .int .u64 0, .int .u64 0] := by
    have := (Blk.new (w.alloc (Obj.cells #[.int .u64 sa, .int .u64 sb, .int .u64 sc, .int .u64 sd] 42)) 42 #[.int .u64 0, .int .u64 0, .int .u64 0, .int .u64 0]).below hb1 (by simp)
    simpa using this
  have hbel1 : Below w.heap.size w w1 := (((Below.refl _ _).alloc (Nat.le_refl _) _).alloc (by simp) _).trans (hb1.mono (by simp; omega))
  have hown1 : w1.ownsRow (w.heap.size + 2) 104 1 (.slice A2 l.length c2) l.length (u32s l) := own_mono hown (by simp)
  clear hown hb1
  go_wp2_with fail
  go_loopw [10] (fun i wr => ∃ k : Nat, k ≤ l.length ∧ i = .int .i64 (k : Int) ∧ FeedRel ⟨sa, sb, sc, sd⟩ l k w.heap.size 42 wr ∧ Blk wr (w.heap.size + 1) 42 #[.int .u64 0, .int .u64 0, .int .u64 0, .int .u64 0] ∧ wr.ownsRow (w.heap.size + 2) 104 1 (.slice A2 l.length c2) l.length (u32s l) ∧ Below w.heap.size w wr) (fun i _ => l.length - (intOf i).toNat)
  case atStart => exact ⟨0, Nat.zero_le _, rfl, hk1, hk2, hown1, hbel1⟩
  case round =>
    obtain ⟨k, hk, rfl, hF, hK2, hO, hB1⟩ := hrel
    unfold FeedRel at hF
    have hst := feedL_take ⟨sa, sb, sc, sd⟩ l k
    obtain ⟨st, est⟩ : ∃ st, st = feedL ⟨sa, sb, sc, sd⟩ (l.take k) := ⟨_, rfl⟩
    rw [← est] at hF hst
    have EST := Lib.hid est
    have HST := Lib.hid hst
    clear est hst
    obtain ⟨ya, yb, yc, yd⟩ := st
    obtain ⟨c0, c1, c3, c4, f0, f1, f3, f4⟩ := blk4 hF
    by_cases hlt : k < l.length
    · obtain ⟨_, _, hv, _, _, hR⟩ := own_form hO
      obtain ⟨rfl, rfl⟩ : _ = A2 ∧ _ = c2 := by injection hv with h1 _ h2; exact ⟨h1.symm, h2.symm⟩
      obtain ⟨ad, u, rfl, _, hu, hcu⟩ := hR.at_ hlt
      obtain ⟨x, hx⟩ : ∃ x, l[k]? = some x := ⟨_, List.getElem?_eq_getElem hlt⟩
      have hxl : x < 4294967296 := words_lt b x (by rw [← HL.out]; exact List.mem_of_getElem? hx)
      obtain rfl : u = .int .u32 (x : Int) := by simp [u32s, hx] at hu; exact hu.symm
      have HX := Lib.hid hx
      clear hv hR hu hx
      go_wp2_with fail
      go_roundw
      case rel => exact ⟨k + 1, by omega, by go_num, feed_rel hF (HST.out x HX.out), (((hK2.far (by simp) _).far (by simp) _).far (by simp) _).far (by simp) _, own_setCell_below (own_setCell_below (own_setCell_below (own_setCell_below hO (by simp) _) (by simp) _) (by simp) _) (by simp) _, (((hB1.setCell (by simp) _).setCell (by simp) _).setCell (by simp) _).setCell (by simp) _⟩
      case measure => simp [intOf]; omega
    · obtain ⟨d0, d1, d3, d4, g0, g1, g3, g4⟩ := blk4 hK2
      clear hF hK2 hO
      go_wp2_with fail
      refine bodyPost_ret (v := .agg #[.int .u64 ya, .int .u64 yb, .int .u64 yc, .int .u64 yd]) (by simp [results, Try.results43, go_sem, d0, d1, d3, d4]) rfl ⟨?_, ?_⟩
      · have hk' : k = l.length := by omega
        have := EST.out
        rw [hk', List.take_length, HL.out] at this
        rw [← this]; rfl
      · exact (((hB1.setCell (by simp) _).setCell (by simp) _).setCell (by simp) _).setCell (by simp) _
theorem feed_n (s : Sm) (b : List UInt8) (n : Nat) (hnb : n = b.length) (A : Option Addr) (c : Nat) (w : World) (B : Nat) (hr : Reads w B 1 A n (bts b)) (hB : B ≤ w.heap.size) (hc : n ≤ c) (hn : n ≤ 140737488351232) :
    Calls Try.prog 43 #[.agg #[.int .u64 s.a, .int .u64 s.b, .int .u64 s.c, .int .u64 s.d], .slice A n c] w fun e w' =>
      e = .returned (.agg #[.int .u64 (feedL s (words b)).a, .int .u64 (feedL s (words b)).b, .int .u64 (feedL s (words b)).c, .int .u64 (feedL s (words b)).d]) ∧ Below w.heap.size w w' := by
  subst hnb
  exact feed_any s b A c w B hr hB hc hn
end Go.Proofs.Ytcbeadldieeceaa

/-
  Records in slices: as they lie and as they read; what many records sum up to.
-/
namespace Go.Proofs.Ytcbeadldieeceaa
open Go.RowKit

/-- a record, and where its own properties lie -/
structure RcR where
  r : Rc
  A : Option Addr
  n : Nat
  c : Nat
def RcR.cs (x : RcR) : List Value := (rcCells x.r (.slice x.A x.n x.c)).toList
def RcR.rd (w : World) (B : Nat) (x : RcR) : Prop := x.n = x.r.own.length ∧ Reads w B 2 x.A x.n (pcells x.r.own)
structure RcR.sz (x : RcR) : Prop where
  n : x.n ≤ 5000000000000
  c : x.n ≤ x.c ∧ x.c ≤ 4398046511104
  ps : strOk x.r.own
  sm : x.r.sm.ok
  nm : x.r.nm.length ≤ 140737488351232
  dt : x.r.dt.length ≤ 140737488351232
  kind : -9223372036854775808 ≤ x.r.kind ∧ x.r.kind ≤ 9223372036854775807
theorem RcR.cs_len (x : RcR) : x.cs.length = 12 := rfl
theorem RcR.cs_one (x : RcR) : ∀ u ∈ x.cs, u.oneCell' = true := by
  intro u hu
  simp [RcR.cs, rcCells] at hu
  rcases hu with rfl | rfl | rfl | rfl | rfl | rfl | rfl | rfl | rfl | rfl | rfl | rfl <;> rfl
theorem RcR.rd.below {w w' : World} {B : Nat} {x : RcR} (h : x.rd w B) (hb : Below B w w') : x.rd w' B := ⟨h.1, h.2.below hb⟩
theorem RcR.rd.more {w : World} {B B' : Nat} {x : RcR} (h : x.rd w B) (hb : B ≤ B') : x.rd w B' := ⟨h.1, h.2.more hb⟩
theorem RcGood.sz {W : World} {r : Rc} {A : Option Addr} {n c : Nat} (h : RcGood W r A n c) : (RcR.mk r A n c).rd W W.heap.size ∧ (RcR.mk r A n c).sz := by
  obtain ⟨h1, h2, h3, h4, h5, h6, h7, h8, h9, _⟩ := h
  exact ⟨⟨h1, h4⟩, ⟨by simp only; omega, ⟨h2, h3⟩, h5, h6, h7, h8, h9⟩⟩

/-- the fault of the first record that may not be; the sum of all; the octets of all -/
def sumE : List Rc → Int
  | [] => 0
  | r :: l => if recE r = 0 then sumE l else recE r
def sumS (s : Sm) (l : List Rc) : Sm := l.foldl (fun s r => feedL s (words (encL r))) s
def encAll (l : List Rc) : BS := l.flatMap encL
theorem encAll_snoc (l : List Rc) (r : Rc) : encAll (l ++ [r]) = encAll l ++ encL r := by simp [encAll]
theorem sumS_snoc (s : Sm) (l : List Rc) (r : Rc) : sumS s (l ++ [r]) = feedL (sumS s l) (words (encL r)) := by simp [sumS]
theorem sumE_take (l : List Rc) (k : Nat) (hk : k < l.length) (h : sumE (l.take k) = 0) : (recE l[k] = 0 → sumE (l.take (k + 1)) = 0) ∧ (recE l[k] ≠ 0 → sumE l = recE l[k]) := by
  induction l generalizing k with
  | nil => simp at hk
  | cons r l ih =>
    cases k with
    | zero =>
      simp only [List.getElem_cons_zero, List.take_succ_cons, List.take_zero, sumE]
      exact ⟨fun h => by rw [if_pos h], fun h => by rw [if_neg h]⟩
    | succ k =>
      simp only [List.take_succ_cons, sumE, List.getElem_cons_succ] at h ⊢
      split at h
      · rename_i hr
        rw [if_pos hr, if_pos hr]
        exact ih k (by simpa using hk) h
      · rename_i hr
        exact absurd h hr
theorem sumE_all (l : List Rc) : sumE l = 0 ↔ ∀ r ∈ l, recE r = 0 := by
  induction l with
  | nil => simp [sumE]
  | cons r l ih =>
    simp only [sumE, List.mem_cons, forall_eq_or_imp]
    split
    · rename_i h; rw [ih]; simp [h]
    · rename_i h; simp [h]
theorem encL_len (r : Rc) (h : recE r = 0) : (encL r).length ≤ 703 ∧ 3 ≤ (encL r).length := by
  have := fwrite_len r h
  have h2 : (putL ((fwrite (rtexts r)).length : Int) 2).length = 2 := putL_length _ _
  unfold encL
  simp only [List.length_cons, List.length_append, h2]
  omega
theorem encAll_len (l : List Rc) (h : sumE l = 0) : (encAll l).length ≤ 703 * l.length := by
  rw [sumE_all] at h
  induction l with
  | nil => simp [encAll]
  | cons r l ih =>
    have h1 := (encL_len r (h r (by simp))).1
    have h2 := ih (fun x hx => h x (by simp [hx]))
    unfold encAll at h2 ⊢
    rw [List.flatMap_cons, List.length_append, List.length_cons]
    omega
end Go.Proofs.Ytcbeadldieeceaa

/-
  A region that draws its order, with calls that make rows (of one-cell elements, of any type) and appends that may write in them.
-/
namespace Go.Proofs.Ytcbeadldieeceaa
open Go.RowKit

def LiveK (user : Nat → Option Nat) (m : Nat → Option Value) (j : Nat) : Prop := ∀ u, user j = some u → m u = none
structure RowsK (w : World) (val : Nat → Option Value) (row : Nat → Option (TypeId × Nat × List Value)) (user : Nat → Option Nat) (m : Nat → Option Value) (W : World) : Prop where
  bel : Below w.heap.size w W
  det : Det val m
  own : ∀ i v r, m i = some v → row i = some r → LiveK user m i → W.ownsRow w.heap.size r.1 1 v r.2.1 r.2.2
  sep : ∀ i j vi vj ri rj, i ≠ j → m i = some vi → m j = some vj → row i = some ri → row j = some rj → LiveK user m i → LiveK user m j → ∀ k, vi.ownBlock = some k → vj.ownBlock ≠ some k
section
variable {w W W' : World} {val : Nat → Option Value} {row : Nat → Option (TypeId × Nat × List Value)} {user : Nat → Option Nat} {m : Nat → Option Value}
theorem LiveK.of_upd {i j : Nat} {v : Value} (h : LiveK user (upd m i v) j) : LiveK user m j ∧ user j ≠ some i := by
  refine ⟨fun u hu => ?_, fun hu => ?_⟩
  · have := h u hu
    by_cases he : u = i
    · subst he; rw [upd_self] at this; cases this
    · rwa [upd_ne m v he] at this
  · have := h i hu
    rw [upd_self] at this
    cases this
theorem RowsK.start : RowsK w val row user (fun _ => none) w.drew := ⟨(Below.refl _ _).drew, Det.start _, fun _ _ _ h => (by cases h), fun _ _ _ _ _ _ _ h => (by cases h)⟩
theorem RowsK.pure (h : RowsK w val row user m W) (hb : Below W.heap.size W W') {i : Nat} {v : Value} (hi : row i = none) (hv : ∀ x, val i = some x → v = x) : RowsK w val row user (upd m i v) W' := by
  refine ⟨below_step h.bel hb, h.det.up hv, ?_, ?_⟩
  · intro j u r hm hr hl
    have hj : j ≠ i := by rintro rfl; rw [hi] at hr; cases hr
    rw [upd_ne m v hj] at hm
    exact own_below (h.own j u r hm hr hl.of_upd.1) hb
  · intro j k vj vk rj rk hne hmj hmk hrj hrk hlj hlk
    have h1 : j ≠ i := by rintro rfl; rw [hi] at hrj; cases hrj
    have h2 : k ≠ i := by rintro rfl; rw [hi] at hrk; cases hrk
    rw [upd_ne m v h1] at hmj
    rw [upd_ne m v h2] at hmk
    exact h.sep j k vj vk rj rk hne hmj hmk hrj hrk hlj.of_upd.1 hlk.of_upd.1
theorem RowsK.new (h : RowsK w val row user m W) (hb : Below W.heap.size W W') {i : Nat} {v : Value} {r : TypeId × Nat × List Value} (hi : row i = some r) (hv : val i = none) (ho : W'.ownsRow W.heap.size r.1 1 v r.2.1 r.2.2) : RowsK w val row user (upd m i v) W' := by
  have hfar : ∀ j vj rj, m j = some vj → row j = some rj → LiveK user m j → ∀ k, vj.ownBlock = some k → k < W.heap.size := fun j vj rj h1 h2 h3 k hk => ((h.own j vj rj h1 h2 h3).lt k hk).2
  refine ⟨below_step h.bel hb, h.det.up (fun x hx => by rw [hv] at hx; cases hx), ?_, ?_⟩
  · intro j u rj hm hr hl
    by_cases hj : j = i
    · subst hj
      rw [upd_self] at hm
      cases hm
      rw [hi] at hr
      cases hr
      exact own_mono ho h.bel.size
    · rw [upd_ne m v hj] at hm
      exact own_below (h.own j u rj hm hr hl.of_upd.1) hb
  · intro j k vj vk rj rk hne hmj hmk hrj hrk hlj hlk x hx hx2
    by_cases hj : j = i
    · subst hj
      rw [upd_self] at hmj
      cases hmj
      rw [upd_ne m _ (fun e => hne e.symm)] at hmk
      have h1 := (ho.lt x hx).1
      have h2 := hfar k vk rk hmk hrk hlk.of_upd.1 x hx2
      omega
    · rw [upd_ne m v hj] at hmj
      by_cases hk : k = i
      · subst hk
        rw [upd_self] at hmk
        cases hmk
        have h1 := (ho.lt x hx2).1
        have h2 := hfar j vj rj hmj hrj hlj.of_upd.1 x hx
        omega
      · rw [upd_ne m v hk] at hmk
        exact h.sep j k vj vk rj rk hne hmj hmk hrj hrk hlj.of_upd.1 hlk.of_upd.1 x hx hx2
theorem LiveK.of {p i : Nat} (hu : user p = some i) (hmi : m i = none) : LiveK user m p := by
  intro u hp
  rw [hu] at hp
  cases hp
  exact hmi
theorem RowsK.take (h : RowsK w val row user m W) {p i : Nat} {vp v : Value} {rp r : TypeId × Nat × List Value} (hu : user p = some i) (hrp : row p = some rp) (hri : row i = some r) (hmp : m p = some vp) (hmi : m i = none) (hv : val i = none)
    (hg : W.grownBy W' vp.ownBlock) (ho : W'.ownsRow w.heap.size r.1 1 v r.2.1 r.2.2) (hat : v.ownBlock = vp.ownBlock ∨ v.ownBlock = some W.heap.size) : RowsK w val row user (upd m i v) W' := by
  have hlp := LiveK.of hu hmi
  have hop := h.own p vp rp hmp hrp hlp
  have hfar : ∀ j vj rj, m j = some vj → row j = some rj → LiveK user m j → ∀ k, vj.ownBlock = some k → k < W.heap.size := fun j vj rj h1 h2 h3 k hk => ((h.own j vj rj h1 h2 h3).lt k hk).2
  have hap : ∀ j vj rj, j ≠ i → m j = some vj → row j = some rj → LiveK user (upd m i v) j → ∀ x, vj.ownBlock = some x → v.ownBlock ≠ some x := by
    intro j vj rj hj hm hr hl x hx hx2
    have hjp : j ≠ p := by rintro rfl; exact hl.of_upd.2 hu
    rcases hat with e | e
    · rw [e] at hx2
      exact h.sep j p vj vp rj rp hjp hm hmp hr hrp hl.of_upd.1 hlp x hx hx2
    · rw [e] at hx2
      cases hx2
      have := hfar j vj rj hm hr hl.of_upd.1 _ hx
      omega
  refine ⟨h.bel.grown hg h.bel.size (fun k hk => (hop.lt k hk).1), h.det.up (fun x hx => by rw [hv] at hx; cases hx), ?_, ?_⟩
  · intro j u rj hm hr hl
    by_cases hj : j = i
    · subst hj
      rw [upd_self] at hm
      cases hm
      rw [hri] at hr
      cases hr
      exact ho
    · rw [upd_ne m v hj] at hm
      have hjp : j ≠ p := by rintro rfl; exact hl.of_upd.2 hu
      refine (h.own j u rj hm hr hl.of_upd.1).kept hg ?_
      cases hub : u.ownBlock with
      | none => exact .inl rfl
      | some x =>
        refine .inr fun e => ?_
        exact h.sep j p u vp rj rp hjp hm hmp hr hrp hl.of_upd.1 hlp x hub e.symm
  · intro j k vj vk rj rk hne hmj hmk hrj hrk hlj hlk x hx hx2
    by_cases hj : j = i
    · subst hj
      rw [upd_self] at hmj
      cases hmj
      rw [upd_ne m _ (fun e => hne e.symm)] at hmk
      exact hap k vk rk (fun e => hne e.symm) hmk hrk hlk x hx2 hx
    · rw [upd_ne m v hj] at hmj
      by_cases hk : k = i
      · subst hk
        rw [upd_self] at hmk
        cases hmk
        exact hap j vj rj hj hmj hrj hlj x hx hx2
      · rw [upd_ne m v hk] at hmk
        exact h.sep j k vj vk rj rk hne hmj hmk hrj hrk hlj.of_upd.1 hlk.of_upd.1 x hx hx2
end
end Go.Proofs.Ytcbeadldieeceaa

/-
  fields.Number, Numbers, Write: by their contracts.
-/
namespace Go.Proofs.Ytcbeadldieeceaa
open Go.RowKit

theorem strCells_bts (xs : List UInt8) : Lib.strCells ⟨xs.toArray⟩ = bts xs := by
  simp [Lib.strCells, bts]
section
variable {P : Program}
theorem wpList_append_str {ops : Array Oper} {rest : List Oper} {o : Oper} {a : Act} {w : World} {Q : Exit → Act → World → Prop} (hgd : o.guard = none) (sl x : Operand) (t u : TypeId)
    (ho : o.op = .call { callee := .builtin .append, args := #[sl, x], argTypes := #[t, u] })
    (base : Nat) (e : TypeId) (i : TypeInfo) (ht : P.underlying t = some (.slice e)) (hu : P.underlying u = some .string) (hi : P.info? e = some i) (hz : i.zero = some (.int .u8 0))
    (hsize : i.size = 1) (hby : i.bytes = 1)
    (v : Value) (n : Nat) (xs : List Value) (hs : a.eval sl = v) (hown : w.ownsRow base e 1 v n xs) (s : ByteArray) (hx : a.eval x = .string s)
    (h63 : n + s.size ≤ maxLen) (hbytes : n + s.size ≤ 140737488355328) (hbase : base ≤ w.heap.size)
    (h : ∀ v' w', w'.ownsRow base e 1 v' (n + s.size) (xs ++ Lib.strCells s) → w.grownBy w' v.ownBlock → wpList P ops Q rest (a.put o.dst v') w') : wpList P ops Q (o :: rest) a w := by
  obtain ⟨v', w', hr, h2, h3, h4⟩ := Lib.run_append_own_string (P := P) w base t u o.type e i ht hu hi hz hsize hby v n xs hown s h63 hbytes hbase
  refine wpList_plain hgd fun _ hK => ?_
  unfold Oper.wp execOp
  simp only [ho, resolve, invoke, builtin, Sem.run_bind, Sem.run_pure, Result.andThen_ok, List.map_toArray, List.map_cons, List.map_nil, hs, hx, hr]
  exact hK _ _ (h v' w' h2 h3)
end

/-! ### Number -/
def fnE (s : BS) : Int := if s.length < 8 then 8 else if 8 < s.length then 5 else numE s
def fnV (s : BS) : Int := if s.length = 8 then numV s else 0
theorem fnE_num8 (s : BS) : num8 s = if fnE s = 0 then some (fnV s) else none := by
  unfold num8 fnE fnV numE numV
  by_cases h : s.length = 8
  · by_cases h2 : 4611686018427387903 < numN s
    · have h3 : ¬ numN s ≤ 4611686018427387903 := by omega
      simp [h, h2, h3]
    · have h3 : numN s ≤ 4611686018427387903 := by omega
      simp [h, h2, h3]
  · by_cases h3 : s.length < 8
    · simp [h, h3]
    · have h4 : 8 < s.length := by omega
      simp [h, h3, h4]
set_option maxRecDepth 100000 in
set_option maxHeartbeats 1000000 in
theorem fnumber_any (s : BS) (w : World) : Calls Try.prog 87 #[.string ⟨s.toArray⟩] w fun e w' => e = .returned (.tuple #[.int .i64 (fnV s), .int .i64 (fnE s)]) ∧ Below w.heap.size w w' := by
  by_cases h8 : s.length < 8
  · have HE : Hid (fnE s = 8 ∧ fnV s = 0) := ⟨by unfold fnE; rw [if_pos h8], by unfold fnV; rw [if_neg (by omega)]⟩
    go_enter Try.func87, Try.ntmps87
    go_wp2_with fail
    go_ret2
    exact ⟨by rw [HE.out.1, HE.out.2]; rfl, Below.refl _ _⟩
  · by_cases h9 : 8 < s.length
    · have HE : Hid (fnE s = 5 ∧ fnV s = 0) := ⟨by unfold fnE; rw [if_neg h8, if_pos h9], by unfold fnV; rw [if_neg (by omega)]⟩
      go_enter Try.func87, Try.ntmps87
      go_wp2_with fail
      go_ret2
      exact ⟨by rw [HE.out.1, HE.out.2]; rfl, Below.refl _ _⟩
    · have HE : Hid (fnE s = numE s ∧ fnV s = numV s) := ⟨by unfold fnE; rw [if_neg h8, if_neg h9], by unfold fnV; rw [if_pos (by omega)]⟩
      have hcv := Lib.hid (Lib.run_convert_string_bytes (P := Try.prog) w 9 27 5 ⟨s.toArray⟩ Try.underlying9 Try.underlying27 Try.underlying5)
      have hb := Lib.hid (bytesWorld_below w 5 ⟨s.toArray⟩)
      have hr := bytesWorld_reads w 5 ⟨s.toArray⟩
      have hsz : (⟨s.toArray⟩ : ByteArray).size = s.length := by show s.toArray.size = _; simp
      have hnum := Lib.hid (number_any s (⟨s.toArray⟩ : ByteArray).size hsz (some ⟨w.heap.size, 0, none⟩) (grownCap w (⟨s.toArray⟩ : ByteArray).size 0 5) (Lib.bytesWorld w 5 ⟨s.toArray⟩) _ (by simpa using hr) (by omega))
      clear hr
      go_enter Try.func87, Try.ntmps87
      go_wp2_with fail
      rw [hcv.out]
      go_wp2_with fail
      refine hnum.out.mono ?_
      rintro e w2 ⟨rfl, hw⟩
      rw [← hw]
      clear hw w2
      go_wp2_with fail
      go_ret2
      exact ⟨by rw [HE.out.1, HE.out.2]; rfl, hb.out⟩

/-! ### Numbers -/
def icells (l : List Int) : List Value := l.map (.int .i64 ·)
set_option maxRecDepth 100000 in
set_option maxHeartbeats 1000000 in
theorem numbers_any (l : List Int) (n : Nat) (hnl : n = l.length) (A : Option Addr) (c : Nat) (w : World) (B : Nat) (hr : Reads w B 1 A n (icells l)) (hB : B ≤ w.heap.size) (hn : n ≤ 100) :
    Calls Try.prog 81 #[.slice A n c] w fun e w' => ∃ v, e = .returned v ∧ w'.ownsRow w.heap.size 9 1 v n (scells (l.map n8)) ∧ Below w.heap.size w w' := by
  obtain ⟨i0, hi0, hz0, hz1, hz2⟩ := info_parts Try.infoS
  have HN := Lib.hid hnl
  clear hnl
  go_enter Try.func81, Try.ntmps81
  go_wp2_with fail
  go_loopw [3, 8] (fun o i wr => ∃ (k : Nat) (A1 : Option Addr) (c1 : Nat), k ≤ n ∧ i = .int .i64 (k : Int) ∧ o = .slice A1 k c1 ∧ wr.ownsRow w.heap.size 9 1 (.slice A1 k c1) k (scells ((l.take k).map n8)) ∧ Below w.heap.size w wr) (fun _ i _ => n - (intOf i).toNat)
  case atStart => exact ⟨0, none, 0, Nat.zero_le _, rfl, rfl, ⟨rfl, .inl ⟨rfl, rfl⟩⟩, Below.refl _ _⟩
  case round =>
    obtain ⟨k, A1, c1, hk, rfl, rfl, hown, hbw⟩ := hrel
    by_cases hlt : k < n
    · have hki : (k : Int) < (n : Int) := by omega
      have hkl : k < l.length := by have := HN.out; omega
      obtain ⟨ad, u, rfl, hadB, hxu, hcell⟩ := (hr.below (hbw.mono hB)).at_ hlt
      obtain ⟨x, hx⟩ : ∃ x, x = l[k]'hkl := ⟨_, rfl⟩
      have hux : u = .int .i64 x := by
        unfold icells at hxu
        rw [List.getElem?_map, List.getElem?_eq_getElem hkl, ← hx] at hxu
        exact (Option.some.inj hxu).symm
      subst hux
      have htk := List.take_succ_eq_append_getElem hkl
      rw [← hx] at htk
      have HT : Hid (scells ((l.take (k + 1)).map n8) = scells ((l.take k).map n8) ++ [.string ⟨(putL x 8).toArray⟩]) := by show _ = _; rw [htk, List.map_append, scells_append]; rfl
      have HOWN := Lib.hid hown
      have HBW := Lib.hid hbw
      clear hx htk hr hown hbw hxu
      go_wp2_with fail
      refine (put_any x 8 8 (by decide) wr).mono ?_
      rintro e w2 ⟨v2, rfl, hown2, hb2⟩
      obtain ⟨A2, c2, rfl, _, _, hr2⟩ := own_form hown2
      have hst := str_of (P := Try.prog) (c := c2) hr2 (putL_length x 8).symm Try.underlying27 Try.underlying5 Try.underlying9
      have hown3 := own_below HOWN.out hb2
      have hb3 := HBW.out.trans (hb2.mono HBW.out.size)
      have hsz3 := hb3.size
      clear hown2 hr2 hb2
      go_wp2_with (at_builtin; (refine wpList_push _ rfl (.tmp 12) (.tmp 16) 23 rfl w.heap.size 9 i0 (.string ByteArray.empty) 1 16 Try.underlying23 hi0 hz0 hz1 hz2 rfl (by decide) (.slice A1 k c1) k _ rfl hown3 1 #[.string ⟨(putL x 8).toArray⟩] 9 (by simp [Act.eval]) rfl (by simp [Value.oneCell']) (by unfold maxLen; omega) (by omega) hsz3 ?_); intro v4 w4 hown4 hb4 _)
      obtain ⟨A4, c4, rfl, _, _, _⟩ := own_form hown4
      have HB5 := Lib.hid (hb3.trans hb4)
      have HO : Hid (w4.ownsRow w.heap.size 9 1 (.slice A4 (k + 1) c4) (k + 1) (scells ((l.take (k + 1)).map n8))) := by show World.ownsRow _ _ _ _ _ _ _; rw [HT.out]; exact hown4
      clear hown3 hown4 hb3 hb4 hcell
      go_wp2_with fail
      go_roundw
      case rel => exact ⟨k + 1, A4, c4, by omega, by go_num, rfl, HO.out, HB5.out⟩
      case measure => simp [intOf]; omega
    · have hkn : k = n := by omega
      have HO : Hid (wr.ownsRow w.heap.size 9 1 (.slice A1 k c1) n (scells (l.map n8))) := by
        show World.ownsRow _ _ _ _ _ _ _
        rw [List.take_of_length_le (by have := HN.out; omega)] at hown
        rw [← hkn]
        exact hown
      clear hr hown hkn
      go_wp2_with fail
      go_ret
      exact ⟨_, rfl, HO.out, hbw⟩

/-! ### Write -/
set_option maxRecDepth 100000 in
theorem long_any (s : BS) (hs : s.length ≤ 65536) (w : World) : Calls Try.prog 80 #[.string ⟨s.toArray⟩] w fun e w' => e = .returned (.bool false) ∧ w' = w := by
  go_enter Try.func80, Try.ntmps80
  have hd : ¬ (65536 : Int) < (s.length : Int) := by omega
  go_wp2_with fail
  go_ret
  exact ⟨rfl, by trivial⟩
set_option maxRecDepth 100000 in
theorem idxLong_any (l : List BS) (hl : ∀ s ∈ l, s.length ≤ 65536) (n : Nat) (hnl : n = l.length) (A : Option Addr) (c : Nat) (w : World) (B : Nat) (hr : Reads w B 1 A n (scells l)) (hn : n ≤ 1024) :
    Calls Try.prog 97 #[.slice A n c, .func (.func 80) #[] #[]] w fun e w' => e = .returned (.int .i64 (-1)) ∧ w' = w := by
  have HN := Lib.hid hnl
  have HL := Lib.hid hl
  clear hnl hl
  go_enter Try.func97, Try.ntmps97
  go_wp2_with fail
  go_loopw [8] (fun i wr => ∃ k : Nat, k ≤ n ∧ i = .int .i64 (k : Int) ∧ wr = w) (fun i _ => n - (intOf i).toNat)
  case atStart => exact ⟨0, Nat.zero_le _, rfl, rfl⟩
  case round =>
    obtain ⟨k, hk, rfl, rfl⟩ := hrel
    by_cases hlt : k < n
    · have hki : (k : Int) < (n : Int) := by omega
      have hkl : k < l.length := by have := HN.out; omega
      obtain ⟨ad, rfl, hadB, hcell⟩ := strs_at hr HN.out hlt
      obtain ⟨x, hx⟩ : ∃ x, x = l[k]'hkl := ⟨_, rfl⟩
      rw [← hx] at hcell
      have HX := Lib.hid (HL.out x (by rw [hx]; exact List.getElem_mem _))
      simp only [strV] at hcell
      clear hx
      go_wp2_with fail
      refine (long_any x HX.out _).mono ?_
      rintro e w2 ⟨rfl, hw⟩
      rw [hw]
      clear hw w2
      go_wp2_with fail
      go_roundw
      case rel => exact ⟨k + 1, by omega, by go_num, by trivial⟩
      case measure => simp [intOf]; omega
    · clear hr
      go_wp2_with fail
      go_ret
      exact ⟨rfl, by trivial⟩
set_option maxRecDepth 100000 in
theorem contLong_any (l : List BS) (hl : ∀ s ∈ l, s.length ≤ 65536) (n : Nat) (hnl : n = l.length) (A : Option Addr) (c : Nat) (w : World) (B : Nat) (hr : Reads w B 1 A n (scells l)) (hn : n ≤ 1024) :
    Calls Try.prog 79 #[.slice A n c, .func (.func 80) #[] #[]] w fun e w' => e = .returned (.bool false) ∧ w' = w := by
  have hcall := Lib.hid (idxLong_any l hl n hnl A c w B hr hn)
  clear hnl hr hl
  go_enter Try.func79, Try.ntmps79
  go_wp2_with fail
  refine hcall.out.mono ?_
  rintro e w2 ⟨rfl, hw⟩
  rw [hw]
  clear hw w2
  go_wp2_with fail
  go_ret
  exact ⟨rfl, by trivial⟩
def fsum (l : List BS) : Nat := (l.flatMap fone).length
theorem fone_len (s : BS) : (fone s).length = 3 + s.length := by unfold fone; rw [List.length_append, putL_length]
theorem fsum_le (l : List BS) (h : ∀ s ∈ l, s.length ≤ 1000) : (l.flatMap fone).length ≤ 1003 * l.length := by
  induction l with
  | nil => simp
  | cons s l ih =>
    have h1 := ih (fun x hx => h x (List.mem_cons_of_mem _ hx))
    have h2 := h s (List.mem_cons_self ..)
    rw [List.flatMap_cons, List.length_append, fone_len, List.length_cons]
    omega
set_option maxRecDepth 100000 in
set_option maxHeartbeats 2000000 in
theorem fwrite_any (l : List BS) (hl : ∀ s ∈ l, s.length ≤ 1000) (n : Nat) (hnl : n = l.length) (A : Option Addr) (c : Nat) (w : World) (B : Nat) (hr : Reads w B 1 A n (scells l)) (hB : B ≤ w.heap.size) (hn : n ≤ 100) :
    Calls Try.prog 59 #[.slice A n c] w fun e w' => ∃ v, e = .returned (.tuple #[v, .int .i64 0]) ∧ w'.ownsRow w.heap.size 5 1 v (fwrite l).length (bts (fwrite l)) ∧ Below w.heap.size w w' := by
  obtain ⟨i0, hi0, hz0, hz1, hz2⟩ := info_parts Try.infoU8c
  have hct := contLong_any l (fun s hs => Nat.le_trans (hl s hs) (by omega)) n hnl A c w B hr (by omega)
  have HN := Lib.hid hnl
  have HL := Lib.hid hl
  have HW : Hid (fwrite l = putL (n : Int) 2 ++ l.flatMap fone) := by show _ = _; rw [hnl]; rfl
  have hn1 : ¬ (1024 : Int) < (n : Int) := by omega
  clear hnl hl
  go_enter Try.func59, Try.ntmps59
  go_wp2_with fail
  refine hct.mono ?_
  rintro e w1 ⟨rfl, hw⟩
  rw [hw]
  clear hw w1 hct
  go_wp2_with fail
  refine (put_any (n : Int) 2 2 (by decide) w).mono ?_
  rintro e w1 ⟨v1, rfl, hown1, hb1⟩
  have HO1 := Lib.hid hown1
  clear hown1
  go_wp2_with fail
  go_loopw [4, 19] (fun v i wr => ∃ k q : Nat, k ≤ n ∧ i = .int .i64 (k : Int) ∧ Hid (q = (putL (n : Int) 2 ++ (l.take k).flatMap fone).length) ∧ q ≤ 2 + 1003 * k ∧ wr.ownsRow w.heap.size 5 1 v q (bts (putL (n : Int) 2 ++ (l.take k).flatMap fone)) ∧ Below w.heap.size w wr) (fun _ i _ => n - (intOf i).toNat)
  case atStart => exact ⟨0, 2, Nat.zero_le _, rfl, (show 2 = _ by simp [putL_length]), by omega, by simpa using HO1.out, hb1⟩
  case round =>
    obtain ⟨k, q, hk, rfl, hq, hqb, hown, hbw⟩ := hrel
    obtain ⟨A1, c1, rfl, _, _, _⟩ := own_form hown
    by_cases hlt : k < n
    · have hki : (k : Int) < (n : Int) := by omega
      have hkl : k < l.length := by have := HN.out; omega
      obtain ⟨ad, rfl, hadB, hcell⟩ := strs_at (hr.below (hbw.mono hB)) HN.out hlt
      obtain ⟨x, hx⟩ : ∃ x, x = l[k]'hkl := ⟨_, rfl⟩
      rw [← hx] at hcell
      have hxl := HL.out x (by rw [hx]; exact List.getElem_mem _)
      have htk := List.take_succ_eq_append_getElem hkl
      rw [← hx] at htk
      simp only [strV] at hcell
      have HT : Hid (bts (putL (n : Int) 2 ++ (l.take (k + 1)).flatMap fone) = bts (putL (n : Int) 2 ++ (l.take k).flatMap fone) ++ bts (putL (x.length : Int) 3) ++ bts x) := by
        show _ = _
        rw [htk, List.flatMap_append]
        simp [fone, bts_append]
      have HQ : Hid (q + 3 + x.length = (putL (n : Int) 2 ++ (l.take (k + 1)).flatMap fone).length) := by
        show _ = _
        rw [htk, List.flatMap_append, ← List.append_assoc, List.length_append, ← hq.out]
        simp [fone_len]
        omega
      have HXL := Lib.hid hxl
      have HOWN := Lib.hid hown
      have HBW := Lib.hid hbw
      generalize bts (putL (n : Int) 2 ++ (l.take k).flatMap fone) = ob at HT HOWN
      clear hx htk hr hown hbw hxl HO1 hq
      go_wp2_with fail
      refine (put_any (x.length : Int) 3 3 (by decide) wr).mono ?_
      rintro e w2 ⟨v2, rfl, hown2, hb2⟩
      obtain ⟨A2, c2, rfl, _, _, hr2⟩ := own_form hown2
      have hown3 := own_below HOWN.out hb2
      have hb3 := HBW.out.trans (hb2.mono HBW.out.size)
      have hsz3 := hb3.size
      clear hown2 hb2
      have hxs : (⟨x.toArray⟩ : ByteArray).size = x.length := by show x.toArray.size = _; simp
      have HXS := Lib.hid hxs
      clear hxs
      have HO3 := Lib.hid hown3
      have HB3 := Lib.hid hb3
      have HR2 := Lib.hid hr2
      have hq3 := Lib.hid (show q + 3 + (⟨x.toArray⟩ : ByteArray).size ≤ maxLen by unfold maxLen; have := HXS.out; have := HXL.out; omega)
      have hq4 := Lib.hid (show q + 3 + (⟨x.toArray⟩ : ByteArray).size ≤ 140737488355328 by have := HXS.out; have := HXL.out; omega)
      clear hown3 hb3 hr2
      go_wp2_with (at_builtin; first
        | (refine wpList_append_any w2 rfl (.tmp 23) (.tmp 26) 27 rfl w.heap.size 5 i0 (.int .u8 0) 1 1 Try.underlying27 hi0 hz0 hz1 hz2 rfl (by decide) (.slice A1 q c1) q ob rfl HO3.out _ A2 3 c2 _ (by simp [Act.eval]) HR2.out (bts_one _) (by unfold maxLen; omega) (by omega) hsz3 ?_; intro v4 w4 hown4 hg4 _; obtain ⟨A4, c4, rfl, _, _, _⟩ := own_form hown4; have HB5 := Lib.hid (HB3.out.grown hg4 hsz3 (fun r hr => (HO3.out.lt r hr).1)); have hsz5 := HB5.out.size; have HO4 := Lib.hid hown4; clear hown4 hg4)
        | (refine wpList_append_str rfl (.tmp 28) (.tmp 29) 27 9 rfl w.heap.size 5 i0 Try.underlying27 Try.underlying9 hi0 hz0 hz1 hz2 (.slice A4 (q + 3) c4) (q + 3) _ (by simp [Act.eval]) HO4.out ⟨x.toArray⟩ (by simp [Act.eval]) hq3.out hq4.out hsz5 ?_; intro v6 w6 hown6 hg6))
      have HO6 : Hid (w6.ownsRow w.heap.size 5 1 v6 (q + 3 + x.length) (bts (putL (n : Int) 2 ++ (l.take (k + 1)).flatMap fone))) := by
        show World.ownsRow _ _ _ _ _ _ _
        rw [HT.out, ← strCells_bts x, ← HXS.out]
        exact hown6
      have HB7 := Lib.hid (HB5.out.grown hg6 hsz5 (fun r hr => (HO4.out.lt r hr).1))
      clear hown6 hg6 hcell hq3 hq4
      go_wp2_with fail
      go_roundw
      case rel => exact ⟨k + 1, q + 3 + x.length, by omega, by go_num, HQ.out, by have := HXL.out; omega, HO6.out, HB7.out⟩
      case measure => simp [intOf]; omega
    · have HO : Hid (wr.ownsRow w.heap.size 5 1 (.slice A1 q c1) (fwrite l).length (bts (fwrite l))) := by
        show World.ownsRow _ _ _ _ _ _ _
        have hq2 := hq.out
        rw [List.take_of_length_le (by have := HN.out; omega), ← HW.out] at hown hq2
        rw [← hq2]
        exact hown
      clear hr hown hq
      go_wp2_with fail
      go_ret2
      exact ⟨_, rfl, HO.out, hbw⟩
end Go.Proofs.Ytcbeadldieeceaa
