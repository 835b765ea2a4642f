/-
  octets.Hex, by its contract: the digits of any octets.
-/
import Derived.Test.YtcchnoadclidcaaBuilder
import Derived.Lib.Hide
import Derived.Laws.BitsLemmas
namespace Go.Proofs.Ytcchnoadclidcaa
open Go.RowKit

def digL : List UInt8 := [48, 49, 50, 51, 52, 53, 54, 55, 56, 57, 97, 98, 99, 100, 101, 102]
def hexL (b : List UInt8) : List UInt8 := b.flatMap fun c => [digL.getD (c.toNat / 16) 0, digL.getD (c.toNat % 16) 0]
theorem hexL_length (b : List UInt8) : (hexL b).length = 2 * b.length := by
  induction b with
  | nil => rfl
  | cons x l ih => simp only [hexL, List.flatMap_cons, List.length_append, List.length_cons, List.length_nil] at ih ⊢; omega
theorem hexL_take (b : List UInt8) (k : Nat) (h : k < b.length) : hexL (b.take (k + 1)) = hexL (b.take k) ++ [digL.getD ((b[k]).toNat / 16) 0] ++ [digL.getD ((b[k]).toNat % 16) 0] := by
  rw [List.take_succ_eq_append_getElem h]
  simp only [hexL, List.flatMap_append, List.flatMap_cons, List.flatMap_nil, List.append_nil, List.append_assoc, List.cons_append, List.nil_append]
theorem dig_at (i : Nat) (h : i < (⟨#[48, 49, 50, 51, 52, 53, 54, 55, 56, 57, 97, 98, 99, 100, 101, 102]⟩ : ByteArray).size) : (⟨#[48, 49, 50, 51, 52, 53, 54, 55, 56, 57, 97, 98, 99, 100, 101, 102]⟩ : ByteArray)[i]'h = digL.getD i 0 := by
  rw [List.getD_eq_getElem?_getD, List.getElem?_eq_getElem (by exact h)]
  rfl
theorem byteCells_snoc (l : List UInt8) (x : UInt8) : Lib.byteCells (l ++ [x]) = Lib.byteCells l ++ [.int .u8 (x.toNat : Int)] := by simp [Lib.byteCells]

set_option maxRecDepth 100000 in
set_option maxHeartbeats 1000000 in
theorem hex_any (b : List UInt8) (n : Nat) (hnb : n = b.length) (A : Option Addr) (c : Nat) (w : World) (B : Nat) (hr : Reads w B 1 A n (bts b)) (hB : B ≤ w.heap.size) (hn : n ≤ 35184372088832) :
    Calls Try.prog 21 #[.slice A n c] w fun e w' => e = .returned (.string ⟨(hexL b).toArray⟩) ∧ Below w.heap.size w w' := by
  have HL := Lib.hid hnb
  clear hnb
  go_enter Try.func21, Try.ntmps21
  go_wp2_with fail
  go_loopw [8] (fun i wr => ∃ k : Nat, k ≤ n ∧ i = .int .i64 (k : Int) ∧ Lib.IsBuilder 88 5 w.heap.size w.heap.size (Lib.byteCells (hexL (b.take k))) wr ∧ Below w.heap.size w wr ∧ (k = 0 → wr.heap[w.heap.size]? = some (.cells #[.pointer none, .slice none 0 0] 88 (0, 0)))) (fun i _ => n - (intOf i).toNat)
  case atStart => exact ⟨0, Nat.zero_le _, rfl, Lib.fresh_isBuilder 88 5 w, (Below.refl _ _).alloc (Nat.le_refl _) _, fun _ => heap_alloc_new w _⟩
  case round =>
    obtain ⟨k, hk, rfl, hI, hbw, hz⟩ := hrel
    by_cases hlt : k < n
    · have hlb : k < b.length := by rw [← HL.out]; exact hlt
      obtain ⟨ad, u, rfl, _, hu, hcu⟩ := (hr.below (hbw.mono hB)).at_ hlt
      obtain rfl : u = .int .u8 ((b[k]).toNat : Int) := by rw [bts_get, List.getElem?_eq_getElem hlb] at hu; simpa using hu.symm
      have hy := (b[k]).toNat_lt
      have hst := hexL_take b k hlb
      obtain ⟨y, hyy⟩ : ∃ y, y = (b[k]).toNat := ⟨_, rfl⟩
      rw [← hyy] at hcu hy hst
      have HST := Lib.hid hst
      have hlen := hexL_length (b.take k)
      rw [List.length_take] at hlen
      have hlen2 : (hexL (b.take k)).length ≤ 2 * n := by rw [hlen]; omega
      clear hyy hu hr hst hz hlen
      have hd1 := Lib.hid (dig_at (y / 16) (by show y / 16 < 16; omega))
      have hd2 := Lib.hid (dig_at (y % 16) (by show y % 16 < 16; omega))
      go_wp2_with fail
      rw [hd1.out]
      refine (sbWriteByte_any w.heap.size w.heap.size _ _ _ hI (by rw [Lib.byteCells_length]; omega) hbw.size).mono ?_
      rintro e w1 ⟨rfl, hA, hb1⟩
      rw [← byteCells_snoc] at hA
      have hbw1 := hbw.trans hb1
      clear hI hbw hb1
      go_wp2_with fail
      rw [hd2.out]
      refine (sbWriteByte_any w.heap.size w.heap.size _ _ _ (.inr hA) (by rw [Lib.byteCells_length, List.length_append, List.length_singleton]; omega) hbw1.size).mono ?_
      rintro e w2 ⟨rfl, hA2, hb2⟩
      rw [← byteCells_snoc] at hA2
      have hbw2 := hbw1.trans hb2
      clear hA hbw1 hb2
      go_wp2_with fail
      go_roundw
      case rel => exact ⟨k + 1, by omega, by go_num, .inr (by rw [HST.out]; exact hA2), hbw2, by omega⟩
      case measure => simp [intOf]; omega
    · obtain rfl : k = n := by omega
      rw [HL.out, List.take_length] at hI
      by_cases h0 : k = 0
      · have hb0 : b = [] := List.eq_nil_of_length_eq_zero (by rw [← HL.out]; exact h0)
        have hz0 := hz h0
        have Hb0 := Lib.hid hb0
        clear hI hr hb0 h0
        go_wp2_with fail
        refine (sbString_nil _ _ _ hz0).mono ?_
        rintro e w1 ⟨rfl, hb1⟩
        have hbw1 := hbw.trans (hb1.mono hbw.size)
        clear hz hz0 hbw hb1
        go_wp2_with fail
        go_ret
        exact ⟨by rw [Hb0.out]; rfl, hbw1⟩
      · have hne : hexL b ≠ [] := by
          intro e
          have := hexL_length b
          rw [e, List.length_nil] at this
          rw [HL.out] at h0
          omega
        clear hr hz
        go_wp2_with fail
        refine (sbString_any _ _ (hexL b) _ hI hne).mono ?_
        rintro e w1 ⟨rfl, hb1⟩
        have hbw1 := hbw.trans hb1
        clear hbw hb1 hI
        go_wp2_with fail
        go_ret
        exact ⟨rfl, hbw1⟩
end Go.Proofs.Ytcchnoadclidcaa
