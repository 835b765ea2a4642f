/-
  fletch.Words, by its contract.
-/
import Derived.Test.YtcchnoadclidcaaBase
import Derived.Test.YtcchnoadclidcaaRows
import Derived.Deep.RegionLaw
import Derived.Handy
namespace Go.Proofs.Ytcchnoadclidcaa
open Go.RowKit

def w4 (a b c d : UInt8) : Nat := a.toNat * 16777216 + b.toNat * 65536 + c.toNat * 256 + d.toNat
def wordAt (b : List UInt8) (k : Nat) : Nat := w4 (b.getD (4 * k) 0) (b.getD (4 * k + 1) 0) (b.getD (4 * k + 2) 0) (b.getD (4 * k + 3) 0)
def wordsN (b : List UInt8) (k : Nat) : List Nat := (List.range k).map (wordAt b)
def words (b : List UInt8) : List Nat := wordsN b ((b.length + 3) / 4)
def u32s (l : List Nat) : List Value := l.map fun (n : Nat) => Value.int .u32 (n : Int)

theorem Try.infoU8 : (Try.prog.info? 5).map (fun i => (i.zero, i.size, i.bytes)) = some (some (.int .u8 0), 1, 1) := by kernel_rfl
theorem Try.infoU32 : (Try.prog.info? 29).map (fun i => (i.zero, i.size, i.bytes)) = some (some (.int .u32 0), 1, 4) := by kernel_rfl

theorem words_cell {w : World} {ad : Addr} {b : List UInt8} {j i : Nat} {u : Value} (hc : ∀ (j : Nat) (u : Value), (bts b)[j]? = some u → w.cell? (ad.add j) = some u)
    (hu : (bts ((b.drop j).take 4))[i]? = some u) : w.cell? (ad.add (j + i)) = some u := by
  apply hc
  rw [bts_take, bts_drop, List.getElem?_take] at hu
  split at hu
  · rw [← hu, List.getElem?_drop]
  · cases hu

theorem pad_get (x : List UInt8) (hx : x.length ≤ 4) (i : Nat) (hi : i < 4) :
    (splice [Value.int .u8 0, .int .u8 0, .int .u8 0, .int .u8 0] 0 (bts x))[i]? = some (.int .u8 ((x.getD i 0).toNat : Int)) := by
  match x, hx with
  | [], _ => match i, hi with | 0, _ | 1, _ | 2, _ | 3, _ => rfl
  | [a], _ => match i, hi with | 0, _ | 1, _ | 2, _ | 3, _ => rfl
  | [a, b], _ => match i, hi with | 0, _ | 1, _ | 2, _ | 3, _ => rfl
  | [a, b, c], _ => match i, hi with | 0, _ | 1, _ | 2, _ | 3, _ => rfl
  | [a, b, c, d], _ => match i, hi with | 0, _ | 1, _ | 2, _ | 3, _ => rfl
def byteAt (b : List UInt8) (i : Nat) : Int := ((b.getD i 0).toNat : Int)
theorem byteAt_bd (b : List UInt8) (i : Nat) : 0 ≤ byteAt b i ∧ byteAt b i ≤ 255 := by
  unfold byteAt
  have := (b.getD i 0).toNat_lt
  omega
theorem word_cells {w : World} {b : List UInt8} {g j : Nat} {T : TypeId}
    (h : w.heap[g]? = some (.cells (splice [Value.int .u8 0, .int .u8 0, .int .u8 0, .int .u8 0] 0 (bts ((b.drop j).take 4))).toArray T (0, 0))) :
    w.cell? ⟨g, 0, none⟩ = some (.int .u8 (byteAt b j)) ∧ w.cell? ⟨g, 1, none⟩ = some (.int .u8 (byteAt b (j + 1))) ∧
    w.cell? ⟨g, 2, none⟩ = some (.int .u8 (byteAt b (j + 2))) ∧ w.cell? ⟨g, 3, none⟩ = some (.int .u8 (byteAt b (j + 3))) := by
  have key : ∀ i, i < 4 → w.cell? ⟨g, i, none⟩ = some (.int .u8 (byteAt b (j + i))) := by
    intro i hi
    rw [cell_of_row w g i _ T (0, 0) h, List.getElem?_toArray, pad_get _ (by simp; omega) i hi]
    simp [byteAt, List.getD_eq_getElem?_getD, hi]
  exact ⟨key 0 (by omega), key 1 (by omega), key 2 (by omega), key 3 (by omega)⟩
theorem or_u32 (A k C : Nat) (hak : A * 2 ^ k < 4294967296) (hck : C < 2 ^ k) (hc : C < 4294967296) : bits .or .u32 ((A * 2 ^ k : Nat) : Int) (C : Int) = ((A * 2 ^ k + C : Nat) : Int) := by
  rw [u32_or_nat _ _ hak hc, ← Nat.shiftLeft_eq, Nat.shiftLeft_add_eq_or_of_lt hck]
theorem or4 (x0 x1 x2 x3 : Int) (h0 : 0 ≤ x0) (g0 : x0 ≤ 255) (h1 : 0 ≤ x1) (g1 : x1 ≤ 255) (h2 : 0 ≤ x2) (g2 : x2 ≤ 255) (h3 : 0 ≤ x3) (g3 : x3 ≤ 255) :
    bits .or .u32 (bits .or .u32 (bits .or .u32 (x0 * 16777216) (x1 * 65536)) (x2 * 256)) x3 = x0 * 16777216 + x1 * 65536 + x2 * 256 + x3 := by
  obtain ⟨a, rfl⟩ := Int.eq_ofNat_of_zero_le h0
  obtain ⟨b, rfl⟩ := Int.eq_ofNat_of_zero_le h1
  obtain ⟨c, rfl⟩ := Int.eq_ofNat_of_zero_le h2
  obtain ⟨d, rfl⟩ := Int.eq_ofNat_of_zero_le h3
  have e1 := or_u32 a 24 (b * 65536) (by omega) (by omega) (by omega)
  have e2 := or_u32 (a * 256 + b) 16 (c * 256) (by omega) (by omega) (by omega)
  have e3 := or_u32 (a * 65536 + b * 256 + c) 8 d (by omega) (by omega) (by omega)
  rw [show ((a : Int) * 16777216) = ((a * 2 ^ 24 : Nat) : Int) from by omega, show ((b : Int) * 65536) = ((b * 65536 : Nat) : Int) from by omega, e1,
    show ((a * 2 ^ 24 + b * 65536 : Nat) : Int) = (((a * 256 + b) * 2 ^ 16 : Nat) : Int) from by omega, show ((c : Int) * 256) = ((c * 256 : Nat) : Int) from by omega, e2,
    show (((a * 256 + b) * 2 ^ 16 + c * 256 : Nat) : Int) = (((a * 65536 + b * 256 + c) * 2 ^ 8 : Nat) : Int) from by omega, e3]
  omega
theorem wordsN_succ (b : List UInt8) (k : Nat) : wordsN b (k + 1) = wordsN b k ++ [wordAt b k] := by simp [wordsN, List.range_succ]
theorem wordsN_length (b : List UInt8) (k : Nat) : (wordsN b k).length = k := by simp [wordsN]
theorem word_step (b : List UInt8) {j k : Nat} (hj : j = 4 * k) {y0 y1 y2 y3 : Int} (e0 : y0 = byteAt b j) (e1 : y1 = byteAt b (j + 1)) (e2 : y2 = byteAt b (j + 2)) (e3 : y3 = byteAt b (j + 3)) :
    u32s (wordsN b (k + 1)) = u32s (wordsN b k) ++ [.int .u32 (bits .or .u32 (bits .or .u32 (bits .or .u32 (y0 * 16777216) (y1 * 65536)) (y2 * 256)) y3)] := by
  subst hj e0 e1 e2 e3
  rw [or4 _ _ _ _ (byteAt_bd _ _).1 (byteAt_bd _ _).2 (byteAt_bd _ _).1 (byteAt_bd _ _).2 (byteAt_bd _ _).1 (byteAt_bd _ _).2 (byteAt_bd _ _).1 (byteAt_bd _ _).2, wordsN_succ]
  simp [u32s, wordAt, w4, byteAt]

set_option maxRecDepth 100000 in
set_option maxHeartbeats 400000 in
theorem words_any (b : List UInt8) (A : Option Addr) (c : Nat) (w : World) (B : Nat) (hr : Reads w B 1 A b.length (bts b)) (hB : B ≤ w.heap.size) (hc : b.length ≤ c) (hn : b.length ≤ 140737488351232) :
    Calls Try.prog 27 #[.slice A b.length c] w fun e w' => ∃ v, e = .returned v ∧ w'.ownsRow w.heap.size 29 1 v (words b).length (u32s (words b)) ∧ Below w.heap.size w w' := by
  obtain ⟨i0, hi0, hz0, hz1, hz2⟩ := info_parts Try.infoU32
  go_enter Try.func27, Try.ntmps27
  go_wp2_with (at_make; (refine wpList_make_own _ rfl _ _ _ rfl w.heap.size 29 i0 _ 1 Try.underlying44 hi0 hz0 hz1 .i64 .i64 _ ((b.length + 3) / 4) rfl rfl (by omega) (by rw [hz2]; omega) (by unfold maxLen; omega) (Nat.le_refl _) ?_); intro w1 hown1 hg1)
  go_loopw [3, 4] (fun o i wr => ∃ j k : Nat, Hid (j = 4 * k) ∧ j ≤ b.length + 3 ∧ i = .int .i64 (j : Int) ∧ wr.ownsRow w.heap.size 29 1 o k (u32s (wordsN b k)) ∧ Below w.heap.size w wr) (fun _ i _ => b.length - (intOf i).toNat)
  case atStart => exact ⟨0, 0, rfl, by omega, rfl, hown1, (Below.refl _ _).grown hg1 (Nat.le_refl _) (fun j hj => by cases hj)⟩
  case round =>
    obtain ⟨j, k, hjk, hj, rfl, hown, hbel⟩ := hrel
    by_cases hlt : j < b.length
    · obtain ⟨ad, rfl, hbA, hcA⟩ := hr.2 (by omega)
      have hne : ¬ c = j := by omega
      have hle : (j : Int) ≤ (b.length : Int) := by omega
      go_wp2_with fail
      go_region_law ((refine step_copy_splice rfl (.tmp 18) (.tmp 21) _ _ rfl 5 Try.underlying25 (by kernel_rfl) _ _ _ _ _ _ rfl rfl wr.heap.size 0 [.int .u8 0, .int .u8 0, .int .u8 0, .int .u8 0] 98 (by exact heap_alloc_new wr _) (bts ((b.drop j).take 4)) (by rw [bts_length, List.length_take, List.length_drop]; exact Nat.min_comm _ _) (by exact fun _ => ⟨rfl, _, rfl, fun i u hu => ((hbel.alloc hbel.size _).drew.cell (by rw [block_of_add, block_of_add]; exact Nat.lt_of_lt_of_le hbA hB)).trans (by rw [add_of_add]; exact words_cell hcA hu)⟩) (by simp [bts_length]; omega) (bts_one _) wr.heap.size wr (by exact ((Below.refl _ _).alloc (Nat.le_refl _) _).drew) (Nat.le_refl _) ?_; intro w2 hg2 hb2))
      have hx := word_cells hg2.out
      clear hg2
      obtain ⟨hx0, hx1, hx2, hx3⟩ := hx
      obtain ⟨y0, e0⟩ : ∃ y, y = byteAt b j := ⟨_, rfl⟩
      obtain ⟨y1, e1⟩ : ∃ y, y = byteAt b (j + 1) := ⟨_, rfl⟩
      obtain ⟨y2, e2⟩ : ∃ y, y = byteAt b (j + 2) := ⟨_, rfl⟩
      obtain ⟨y3, e3⟩ : ∃ y, y = byteAt b (j + 3) := ⟨_, rfl⟩
      have b0 := byteAt_bd b j
      have b1 := byteAt_bd b (j + 1)
      have b2 := byteAt_bd b (j + 2)
      have b3 := byteAt_bd b (j + 3)
      rw [← e0] at hx0 b0
      rw [← e1] at hx1 b1
      rw [← e2] at hx2 b2
      rw [← e3] at hx3 b3
      have H0 := Lib.hid e0
      have H1 := Lib.hid e1
      have H2 := Lib.hid e2
      have H3 := Lib.hid e3
      clear e0 e1 e2 e3
      obtain ⟨l0, m0⟩ := b0
      obtain ⟨l1, m1⟩ := b1
      obtain ⟨l2, m2⟩ := b2
      obtain ⟨l3, m3⟩ := b3
      have hown2 := own_below hown hb2
      have hsz2 := hb2.size
      have hsz := hbel.size
      clear hown hr hcA hg1 hown1
      go_wp2_with (at_builtin; (refine wpList_push _ rfl (.tmp 23) (.tmp 42) _ rfl w.heap.size 29 i0 _ 1 4 Try.underlying44 hi0 hz0 hz1 hz2 rfl (by decide) _ k (u32s (wordsN b k)) rfl hown2 1 _ _ rfl rfl (by intro u hu; simp at hu; subst hu; rfl) (by unfold maxLen; have := hjk.out; omega) (by have := hjk.out; omega) (by omega) ?_); intro v' w3 hown3 hb3 hg3)
      clear hg3
      go_roundw
      case rel => exact ⟨j + 4, k + 1, (by have := hjk.out; show _ = _; omega), by omega, by go_num, by rw [word_step b hjk.out H0.out H1.out H2.out H3.out]; exact hown3, (hbel.trans (hb2.mono hsz)).trans hb3⟩
      case measure => simp [intOf]; omega
    · go_wp2_with fail
      go_ret
      have hk : k = (b.length + 3) / 4 := by have := hjk.out; omega
      subst hk
      exact ⟨_, rfl, by unfold words; rw [wordsN_length]; exact hown, hbel⟩
end Go.Proofs.Ytcchnoadclidcaa
