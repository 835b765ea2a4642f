/-
  The page's Number, by its contract.
-/
import Derived.Test.YtfknlijbphoceaaNumber
namespace Go.Proofs.Ytfknlijbphoceaa
open Go.RowKit

theorem numN_mono (b : List UInt8) (k j : Nat) (hkj : k ≤ j) (hj : j ≤ b.length) : numN (b.take k) ≤ numN (b.take j) := by
  induction j with
  | zero => obtain rfl : k = 0 := by omega
            exact Nat.le_refl _
  | succ j ih =>
    by_cases h : k = j + 1
    · subst h; exact Nat.le_refl _
    · have h1 := ih (by omega) (by omega)
      rw [numN_take b j (by omega)]
      omega

set_option maxRecDepth 100000 in
set_option maxHeartbeats 1000000 in
theorem rnumber_any (b : List UInt8) (n : Nat) (hnb : n = b.length) (A : Option Addr) (c : Nat) (w : World) (B : Nat) (hr : Reads w B 1 A n (bts b)) (hn : n ≤ 140737488351232) :
    Calls Try.prog 40 #[.slice A n c] w fun e w' => e = .returned (.tuple #[.int .i64 (numV b), .int .i64 (numE b)]) ∧ w = w' := by
  subst hnb
  by_cases h0 : b.length = 0
  · have e0 : ((b.length : Int) == 0) = true := by simp [h0]
    have ev : numV b = 0 := by simp [numV, h0]
    have ee : numE b = 8 := by simp [numE, h0]
    have EV := Lib.hid ev
    have EE := Lib.hid ee
    clear ev ee
    go_enter Try.func40, Try.ntmps40
    go_wp2_with fail
    go_ret2
    exact ⟨by rw [EV.out, EE.out]; rfl, rfl⟩
  by_cases h8 : 8 < b.length
  · have e0 : ((b.length : Int) == 0) = false := by simp [h0]
    have e8 : (8 : Int) < (b.length : Int) := by omega
    have ev : numV b = 0 := by simp [numV, h8]
    have ee : numE b = 5 := by simp [numE, h0, h8]
    have EV := Lib.hid ev
    have EE := Lib.hid ee
    clear ev ee
    go_enter Try.func40, Try.ntmps40
    go_wp2_with fail
    go_ret2
    exact ⟨by rw [EV.out, EE.out]; rfl, rfl⟩
  have e0 : ((b.length : Int) == 0) = false := by simp [h0]
  have e8 : (b.length : Int) ≤ 8 := by omega
  go_enter Try.func40, Try.ntmps40
  go_wp2_with fail
  go_loop [4, 5] (fun n i => ∃ k m : Nat, k ≤ b.length ∧ i = .int .i64 (k : Int) ∧ n = .int .i64 (m : Int) ∧ m ≤ 4611686018427387903 ∧ Hid (m = numN (b.take k))) (fun _ i => b.length - (intOf i).toNat)
  case atStart => exact ⟨0, 0, Nat.zero_le _, rfl, rfl, by omega, (show _ = _ by simp [numN])⟩
  case round =>
    obtain ⟨k, m, hk, rfl, rfl, hmm, hm⟩ := hrel
    by_cases hlt : k < b.length
    · obtain ⟨ad, u, rfl, _, hu, hcu⟩ := hr.at_ (by omega : k < b.length)
      obtain rfl : u = .int .u8 ((b[k]).toNat : Int) := by rw [bts_get, List.getElem?_eq_getElem hlt] at hu; simpa using hu.symm
      have hy := (b[k]).toNat_lt
      have hst := numN_take b k hlt
      rw [← hm.out] at hst
      have hle := numN_mono b (k + 1) b.length hlt (Nat.le_refl _)
      rw [List.take_length] at hle
      obtain ⟨y, hyy⟩ : ∃ y, y = (b[k]).toNat := ⟨_, rfl⟩
      rw [← hyy] at hcu hy hst
      have HST := Lib.hid hst
      have HLE := Lib.hid hle
      clear hyy hu hr hst hle
      by_cases hbig : 4611686018427387903 < m * 256 + y
      · have hgt : (4611686018427387903 - (y : Int)) / 256 < (m : Int) := by omega
        have hbN : 4611686018427387903 < numN b := by have := HST.out; have := HLE.out; omega
        have EV := Lib.hid (show numV b = 0 by simp only [numV]; rw [if_pos (by omega)])
        have EE := Lib.hid (show numE b = 4 by simp only [numE]; rw [if_neg h0, if_neg h8, if_pos hbN])
        clear hbN hbig
        go_wp2_with fail
        go_ret2
        exact ⟨by rw [EV.out, EE.out]; rfl, rfl⟩
      · have hgt : (m : Int) ≤ (4611686018427387903 - (y : Int)) / 256 := by omega
        go_wp2_with fail
        go_round
        case rel => exact ⟨k + 1, m * 256 + y, by omega, by go_num, by go_num, by omega, HST.out.symm⟩
        case measure => simp [intOf]; omega
    · obtain rfl : k = b.length := by omega
      rw [List.take_length] at hm
      have EV := Lib.hid (show numV b = m by simp only [numV]; rw [if_neg (by rw [← hm.out]; omega), ← hm.out])
      have EE := Lib.hid (show numE b = 0 by simp only [numE]; rw [if_neg h0, if_neg h8, if_neg (by rw [← hm.out]; omega)])
      clear hr
      go_wp2_with fail
      go_ret2
      exact ⟨by rw [EV.out, EE.out]; rfl, rfl⟩
end Go.Proofs.Ytfknlijbphoceaa
