/-
  octets.Number, by its contract.
-/
import Derived.Test.YthfjfkjlgdnohaaBase
import Derived.Test.YthfjfkjlgdnohaaRows
import Derived.Handy
namespace Go.Proofs.Ythfjfkjlgdnohaa
open Go.RowKit

def numN (b : List UInt8) : Nat := b.foldl (fun n c => n * 256 + c.toNat) 0
theorem numN_snoc (b : List UInt8) (c : UInt8) : numN (b ++ [c]) = numN b * 256 + c.toNat := by simp [numN]
theorem numN_take (b : List UInt8) (k : Nat) (h : k < b.length) : numN (b.take (k + 1)) = numN (b.take k) * 256 + (b[k]).toNat := by
  rw [List.take_succ_eq_append_getElem h, numN_snoc]
theorem numN_take_lt (b : List UInt8) (k : Nat) (h : k ≤ b.length) : numN (b.take k) < 256 ^ k := by
  induction k with
  | zero => simp [numN]
  | succ k ih =>
    have h1 := ih (by omega)
    have h2 := (b[k]).toNat_lt
    rw [numN_take b k (by omega), Nat.pow_succ]
    omega
theorem numN_lt (b : List UInt8) : numN b < 256 ^ b.length := by
  have := numN_take_lt b b.length (Nat.le_refl _)
  rwa [List.take_length] at this
theorem pow_le8 {k : Nat} (h : k ≤ 7) : 256 ^ k ≤ 72057594037927936 := by
  have : 256 ^ k ≤ 256 ^ 7 := Nat.pow_le_pow_right (by omega) h
  simpa using this
theorem or_u64 (a c : Nat) (ha : a < 72057594037927936) (hc : c < 256) : bits .or .u64 ((a : Int) * 256) (c : Int) = ((a * 256 + c : Nat) : Int) := by
  have h1 : a * 256 < 18446744073709551616 := by omega
  rw [show ((a : Int) * 256) = ((a * 2 ^ 8 : Nat) : Int) by omega, u64_or_nat _ _ (by omega) (by omega), ← Nat.shiftLeft_eq, Nat.shiftLeft_add_eq_or_of_lt (by omega)]
/-- what Number tells -/
def numV (b : List UInt8) : Int := if b.length = 0 ∨ 8 < b.length ∨ 4611686018427387903 < numN b then 0 else numN b
def numE (b : List UInt8) : Int := if b.length = 0 then 8 else if 8 < b.length then 5 else if 4611686018427387903 < numN b then 4 else 0

set_option maxRecDepth 100000 in
theorem number_any (b : List UInt8) (n : Nat) (hnb : n = b.length) (A : Option Addr) (c : Nat) (w : World) (B : Nat) (hr : Reads w B 1 A n (bts b)) (hn : n ≤ 140737488351232) :
    Calls Try.prog 59 #[.slice A n c] w fun e w' => e = .returned (.tuple #[.int .i64 (numV b), .int .i64 (numE b)]) ∧ w = w' := by
  subst hnb
  by_cases h0 : b.length = 0
  · have e0 : ((b.length : Int) == 0) = true := by simp [h0]
    have ev : numV b = 0 := by simp [numV, h0]
    have ee : numE b = 8 := by simp [numE, h0]
    go_enter Try.func59, Try.ntmps59
    go_wp2_with fail
    go_ret2
    exact ⟨by rw [ev, ee]; rfl, rfl⟩
  by_cases h8 : 8 < b.length
  · have e0 : ((b.length : Int) == 0) = false := by simp [h0]
    have e8 : (8 : Int) < (b.length : Int) := by omega
    have ev : numV b = 0 := by simp [numV, h8]
    have ee : numE b = 5 := by simp [numE, h0, h8]
    have EV := Lib.hid ev
    have EE := Lib.hid ee
    clear ev ee
    go_enter Try.func59, Try.ntmps59
    go_wp2_with fail
    go_ret2
    exact ⟨by rw [EV.out, EE.out]; rfl, rfl⟩
  have e0 : ((b.length : Int) == 0) = false := by simp [h0]
  have e8 : (b.length : Int) ≤ 8 := by omega
  go_enter Try.func59, Try.ntmps59
  go_wp2_with fail
  go_loop [4, 17] (fun n i => ∃ k m : Nat, k ≤ b.length ∧ i = .int .i64 (k : Int) ∧ n = .int .u64 (m : Int) ∧ Hid (m = numN (b.take k))) (fun _ i => b.length - (intOf i).toNat)
  case atStart => exact ⟨0, 0, Nat.zero_le _, rfl, rfl, (show _ = _ by simp [numN])⟩
  case round =>
    obtain ⟨k, m, hk, rfl, rfl, hm⟩ := hrel
    by_cases hlt : k < b.length
    · obtain ⟨ad, u, rfl, _, hu, hcu⟩ := hr.at_ (by omega : k < b.length)
      obtain rfl : u = .int .u8 ((b[k]).toNat : Int) := by rw [bts_get, List.getElem?_eq_getElem hlt] at hu; simpa using hu.symm
      have hm7 : m < 72057594037927936 := by have h1 := numN_take_lt b k hk; have h2 := pow_le8 (k := k) (by omega); rw [← hm.out] at h1; omega
      have hy := (b[k]).toNat_lt
      obtain ⟨y, hyy⟩ : ∃ y, y = (b[k]).toNat := ⟨_, rfl⟩
      rw [← hyy] at hcu hy
      have HY := Lib.hid hyy
      clear hyy hu hr
      go_wp2_with fail
      go_round
      case rel => exact ⟨k + 1, m * 256 + y, by omega, by go_num, by rw [or_u64 m y hm7 hy], (show _ = _ by rw [numN_take b k hlt, hm.out, HY.out])⟩
      case measure => simp [intOf]; omega
    · obtain rfl : k = b.length := by omega
      rw [List.take_length] at hm
      have hml : m < 18446744073709551616 := by
        have h1 := numN_lt b
        have h2 : 256 ^ b.length ≤ 256 ^ 8 := Nat.pow_le_pow_right (by omega) (by omega)
        have h3 : (256 : Nat) ^ 8 = 18446744073709551616 := by decide
        rw [hm.out]; omega
      by_cases hbig : 4611686018427387903 < m
      · have ev : numV b = 0 := by simp only [numV]; rw [if_pos (by rw [← hm.out]; omega)]
        have ee : numE b = 4 := by simp only [numE]; rw [if_neg h0, if_neg h8, if_pos (by rw [← hm.out]; omega)]
        have EV := Lib.hid ev
        have EE := Lib.hid ee
        have hbig' : (4611686018427387903 : Int) < (m : Int) := by omega
        clear ev ee hr
        go_wp2_with fail
        go_ret2
        exact ⟨by rw [EV.out, EE.out]; rfl, rfl⟩
      · have ev : numV b = m := by simp only [numV]; rw [if_neg (by rw [← hm.out]; omega), ← hm.out]
        have ee : numE b = 0 := by simp only [numE]; rw [if_neg h0, if_neg h8, if_neg (by rw [← hm.out]; omega)]
        have EV := Lib.hid ev
        have EE := Lib.hid ee
        have hbig' : (m : Int) ≤ 4611686018427387903 := by omega
        clear ev ee hr
        go_wp2_with fail
        go_ret2
        exact ⟨by rw [EV.out, EE.out]; rfl, rfl⟩
end Go.Proofs.Ythfjfkjlgdnohaa
