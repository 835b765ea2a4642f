/-
  The page's ReadSum, by its contract.
-/
import Derived.Test.YthfjfkjlgdnohaaZ3
import Derived.BigRegion
namespace Go.Proofs.Ythfjfkjlgdnohaa
open Go.RowKit

def oct (b : List UInt8) (j k : Nat) : Nat := numN ((b.drop (8 * j)).take (min (k - 8 * j) 8))
theorem oct_lt (b : List UInt8) (j k : Nat) (h : k < 8 * j + 8) : oct b j k < 72057594037927936 := by
  have h1 := numN_lt ((b.drop (8 * j)).take (min (k - 8 * j) 8))
  have h2 := pow_le8 (k := ((b.drop (8 * j)).take (min (k - 8 * j) 8)).length) (by simp; omega)
  unfold oct
  omega
theorem oct_in (b : List UInt8) (j k : Nat) (hk : k < b.length) (h1 : 8 * j ≤ k) (h2 : k < 8 * j + 8) : oct b j k * 256 + (b[k]).toNat = oct b j (k + 1) := by
  unfold oct
  rw [show min (k - 8 * j) 8 = k - 8 * j by omega, show min (k + 1 - 8 * j) 8 = (k - 8 * j) + 1 by omega, numN_take _ _ (by simp; omega)]
  simp [show 8 * j + (k - 8 * j) = k by omega]
theorem oct_out (b : List UInt8) (j k : Nat) (h : k < 8 * j ∨ 8 * j + 8 ≤ k) : oct b j k = oct b j (k + 1) := by
  unfold oct
  rw [show min (k - 8 * j) 8 = min (k + 1 - 8 * j) 8 by omega]

set_option maxRecDepth 100000 in
set_option maxHeartbeats 1000000 in
theorem rsum_any (b : List UInt8) (n : Nat) (hnb : n = b.length) (A : Option Addr) (c : Nat) (w : World) (B : Nat) (hr : Reads w B 1 A n (bts b)) (hB : B ≤ w.heap.size) :
    Calls Try.prog 99 #[.slice A n c] w fun e w' => e = .returned (.tuple #[(readS b).val, .int .i64 (readE b)]) ∧ Below w.heap.size w w' := by
  subst hnb
  by_cases h1 : b.length < 32
  · have hi : (b.length : Int) < 32 := by omega
    have ev : (readS b).val = .agg #[.int .u64 0, .int .u64 0, .int .u64 0, .int .u64 0] := by simp only [readS]; rw [if_neg (by omega)]; rfl
    have ee : readE b = 8 := by simp [readE, h1]
    rw [ev, ee]
    go_enter Try.func99, Try.ntmps99
    go_wp2_with fail
    refine bodyPost_ret (v := .tuple #[.agg #[.int .u64 0, .int .u64 0, .int .u64 0, .int .u64 0], .int .i64 8]) (by simp [results, Try.results99, go_sem]) rfl ⟨rfl, (Below.refl _ _).alloc (Nat.le_refl _) _⟩
  by_cases h2 : 32 < b.length
  · have hi : ¬ (b.length : Int) < 32 := by omega
    have hi2 : (32 : Int) < (b.length : Int) := by omega
    have ev : (readS b).val = .agg #[.int .u64 0, .int .u64 0, .int .u64 0, .int .u64 0] := by simp only [readS]; rw [if_neg (by omega)]; rfl
    have ee : readE b = 5 := by simp [readE, h1, h2]
    rw [ev, ee]
    go_enter Try.func99, Try.ntmps99
    go_wp2_with fail
    refine bodyPost_ret (v := .tuple #[.agg #[.int .u64 0, .int .u64 0, .int .u64 0, .int .u64 0], .int .i64 5]) (by simp [results, Try.results99, go_sem]) rfl ⟨rfl, (Below.refl _ _).alloc (Nat.le_refl _) _⟩
  obtain hb : b.length = 32 := by omega
  have HFIN := Lib.hid (show ∀ n0 n1 n2 n3 : Nat, n0 = oct b 0 32 → n1 = oct b 1 32 → n2 = oct b 2 32 → n3 = oct b 3 32 → (readS b).val = .agg #[.int .u64 (n0 : Int), .int .u64 (n1 : Int), .int .u64 (n2 : Int), .int .u64 (n3 : Int)] from by
    rintro n0 n1 n2 n3 rfl rfl rfl rfl
    simp only [readS]; rw [if_pos hb]; rfl)
  have ee : readE b = 0 := by simp [readE, hb]
  rw [ee]
  rw [hb] at hr
  have HB := Lib.hid hb
  rw [hb]
  clear hb ee h1 h2
  go_enter Try.func99, Try.ntmps99
  go_wp2_with fail
  have k0 : Blk ((w.alloc (.cells #[.int .u64 0, .int .u64 0, .int .u64 0, .int .u64 0] 25)).alloc (.cells #[.int .u64 0, .int .u64 0, .int .u64 0, .int .u64 0] 162)) (w.heap.size + 1) 162 #[.int .u64 0, .int .u64 0, .int .u64 0, .int .u64 0] := by
    have := Blk.new (w.alloc (.cells #[.int .u64 0, .int .u64 0, .int .u64 0, .int .u64 0] 25)) 162 #[.int .u64 0, .int .u64 0, .int .u64 0, .int .u64 0]
    simpa using this
  have k1 : Blk ((w.alloc (.cells #[.int .u64 0, .int .u64 0, .int .u64 0, .int .u64 0] 25)).alloc (.cells #[.int .u64 0, .int .u64 0, .int .u64 0, .int .u64 0] 162)) w.heap.size 25 #[.int .u64 0, .int .u64 0, .int .u64 0, .int .u64 0] := (Blk.new w _ _).alloc _
  go_loopw [5] (fun i wr => ∃ k n0 n1 n2 n3 : Nat, k ≤ 32 ∧ i = .int .i64 (k : Int) ∧ Blk wr (w.heap.size + 1) 162 #[.int .u64 (n0 : Int), .int .u64 (n1 : Int), .int .u64 (n2 : Int), .int .u64 (n3 : Int)] ∧ Blk wr w.heap.size 25 #[.int .u64 0, .int .u64 0, .int .u64 0, .int .u64 0] ∧ Hid (n0 = oct b 0 k ∧ n1 = oct b 1 k ∧ n2 = oct b 2 k ∧ n3 = oct b 3 k) ∧ Below w.heap.size w wr) (fun i _ => 32 - (intOf i).toNat)
  case atStart => exact ⟨0, 0, 0, 0, 0, by omega, rfl, k0, k1, ⟨by simp [oct, numN], by simp [oct, numN], by simp [oct, numN], by simp [oct, numN]⟩, ((Below.refl _ _).alloc (Nat.le_refl _) _).alloc (by simp) _⟩
  case round =>
    obtain ⟨k, n0, n1, n2, n3, hk, rfl, hkA, hkB, HN, hbw⟩ := hrel
    obtain ⟨c0, c1, c2, c3, f0, f1, f2, f3⟩ := blk4 hkA
    by_cases hlt : k < 32
    · obtain ⟨ad, u, rfl, _, hu, hcu⟩ := (hr.below (hbw.mono hB)).at_ (by omega : k < 32)
      have hkb : k < b.length := by rw [HB.out]; omega
      obtain rfl : u = .int .u8 ((b[k]).toNat : Int) := by rw [bts_get, List.getElem?_eq_getElem hkb] at hu; simpa using hu.symm
      have hy := (b[k]).toNat_lt
      obtain ⟨y, hyy⟩ : ∃ y, y = (b[k]).toNat := ⟨_, rfl⟩
      rw [← hyy] at hcu hy
      have HY := Lib.hid hyy
      have hki : (k : Int) < 32 := by omega
      clear hyy hu hr k0 k1
      have hqq : k / 8 = 0 ∨ k / 8 = 1 ∨ k / 8 = 2 ∨ k / 8 = 3 := by omega
      rcases hqq with hqn | hqn | hqn | hqn
      · have hq : (k : Int) / 8 = 0 := by omega
        have hm7 : n0 < 72057594037927936 := by rw [HN.out.1]; exact oct_lt b 0 k (by omega)
        have hst := hkA.set_ 0 (.int .u64 ((n0 : Int) * 256 + (y : Int)))
        have HN2 := Lib.hid (show n0 * 256 + y = oct b 0 (k + 1) ∧ n1 = oct b 1 (k + 1) ∧ n2 = oct b 2 (k + 1) ∧ n3 = oct b 3 (k + 1) from ⟨(by rw [HN.out.1, HY.out]; exact oct_in b 0 k hkb (by omega) (by omega)), HN.out.2.1.trans (oct_out b 1 k (by omega)), HN.out.2.2.1.trans (oct_out b 2 k (by omega)), HN.out.2.2.2.trans (oct_out b 3 k (by omega))⟩)
        go_wp2_with fail
        go_region
        go_wp2_with fail
        go_roundw
        case rel => exact ⟨k + 1, n0 * 256 + y, n1, n2, n3, by omega, by go_num, Blk.drew hst, (hkB.far (by simp) _).drew, HN2, (hbw.setCell (by simp) _).drew⟩
        case measure => simp [intOf]; omega
      · have hq : (k : Int) / 8 = 1 := by omega
        have hm7 : n1 < 72057594037927936 := by rw [HN.out.2.1]; exact oct_lt b 1 k (by omega)
        have hst := hkA.set_ 1 (.int .u64 ((n1 : Int) * 256 + (y : Int)))
        have HN2 := Lib.hid (show n0 = oct b 0 (k + 1) ∧ n1 * 256 + y = oct b 1 (k + 1) ∧ n2 = oct b 2 (k + 1) ∧ n3 = oct b 3 (k + 1) from ⟨HN.out.1.trans (oct_out b 0 k (by omega)), (by rw [HN.out.2.1, HY.out]; exact oct_in b 1 k hkb (by omega) (by omega)), HN.out.2.2.1.trans (oct_out b 2 k (by omega)), HN.out.2.2.2.trans (oct_out b 3 k (by omega))⟩)
        go_wp2_with fail
        go_region
        go_wp2_with fail
        go_roundw
        case rel => exact ⟨k + 1, n0, n1 * 256 + y, n2, n3, by omega, by go_num, Blk.drew hst, (hkB.far (by simp) _).drew, HN2, (hbw.setCell (by simp) _).drew⟩
        case measure => simp [intOf]; omega
      · have hq : (k : Int) / 8 = 2 := by omega
        have hm7 : n2 < 72057594037927936 := by rw [HN.out.2.2.1]; exact oct_lt b 2 k (by omega)
        have hst := hkA.set_ 2 (.int .u64 ((n2 : Int) * 256 + (y : Int)))
        have HN2 := Lib.hid (show n0 = oct b 0 (k + 1) ∧ n1 = oct b 1 (k + 1) ∧ n2 * 256 + y = oct b 2 (k + 1) ∧ n3 = oct b 3 (k + 1) from ⟨HN.out.1.trans (oct_out b 0 k (by omega)), HN.out.2.1.trans (oct_out b 1 k (by omega)), (by rw [HN.out.2.2.1, HY.out]; exact oct_in b 2 k hkb (by omega) (by omega)), HN.out.2.2.2.trans (oct_out b 3 k (by omega))⟩)
        go_wp2_with fail
        go_region
        go_wp2_with fail
        go_roundw
        case rel => exact ⟨k + 1, n0, n1, n2 * 256 + y, n3, by omega, by go_num, Blk.drew hst, (hkB.far (by simp) _).drew, HN2, (hbw.setCell (by simp) _).drew⟩
        case measure => simp [intOf]; omega
      · have hq : (k : Int) / 8 = 3 := by omega
        have hm7 : n3 < 72057594037927936 := by rw [HN.out.2.2.2]; exact oct_lt b 3 k (by omega)
        have hst := hkA.set_ 3 (.int .u64 ((n3 : Int) * 256 + (y : Int)))
        have HN2 := Lib.hid (show n0 = oct b 0 (k + 1) ∧ n1 = oct b 1 (k + 1) ∧ n2 = oct b 2 (k + 1) ∧ n3 * 256 + y = oct b 3 (k + 1) from ⟨HN.out.1.trans (oct_out b 0 k (by omega)), HN.out.2.1.trans (oct_out b 1 k (by omega)), HN.out.2.2.1.trans (oct_out b 2 k (by omega)), (by rw [HN.out.2.2.2, HY.out]; exact oct_in b 3 k hkb (by omega) (by omega))⟩)
        go_wp2_with fail
        go_region
        go_wp2_with fail
        go_roundw
        case rel => exact ⟨k + 1, n0, n1, n2, n3 * 256 + y, by omega, by go_num, Blk.drew hst, (hkB.far (by simp) _).drew, HN2, (hbw.setCell (by simp) _).drew⟩
        case measure => simp [intOf]; omega
    · obtain rfl : k = 32 := by omega
      obtain ⟨d0, d1, d2, d3, g0, g1, g2, g3⟩ := blk4 hkB
      have hv := Lib.hid (HFIN.out n0 n1 n2 n3 HN.out.1 HN.out.2.1 HN.out.2.2.1 HN.out.2.2.2)
      clear hr k0 k1 hkA hkB f0 f1 f2 f3
      go_wp2_with fail
      refine bodyPost_ret (v := .tuple #[.agg #[.int .u64 n0, .int .u64 n1, .int .u64 n2, .int .u64 n3], .int .i64 0]) (by simp [results, Try.results99, go_sem, d0, d1, d2, d3]) rfl ⟨by rw [hv.out], (((hbw.setCell (by simp) _).setCell (by simp) _).setCell (by simp) _).setCell (by simp) _⟩
end Go.Proofs.Ythfjfkjlgdnohaa
