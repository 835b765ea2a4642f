/-
  fletch.Read, by its contract.
-/
import Derived.Test.YthfjfkjlgdnohaaNumber
import Derived.Test.YthfjfkjlgdnohaaSm
namespace Go.Proofs.Ythfjfkjlgdnohaa
open Go.RowKit

set_option maxRecDepth 100000 in
theorem big_any (b : List UInt8) (n : Nat) (hnb : n = b.length) (h8 : n ≤ 8) (A : Option Addr) (c : Nat) (w : World) (B : Nat) (hr : Reads w B 1 A n (bts b)) :
    Calls Try.prog 121 #[.slice A n c] w fun e w' => e = .returned (.int .u64 (numN b : Int)) ∧ w = w' := by
  subst hnb
  have e8 : (b.length : Int) ≤ 8 := by omega
  go_enter Try.func121, Try.ntmps121
  go_wp2_with fail
  go_loop [3, 8] (fun n i => ∃ k m : Nat, k ≤ b.length ∧ i = .int .i64 (k : Int) ∧ n = .int .u64 (m : Int) ∧ Hid (m = numN (b.take k))) (fun _ i => b.length - (intOf i).toNat)
  case atStart => exact ⟨0, 0, Nat.zero_le _, rfl, rfl, (show _ = _ by simp [numN])⟩
  case round =>
    obtain ⟨k, m, hk, rfl, rfl, hm⟩ := hrel
    by_cases hlt : k < b.length
    · obtain ⟨ad, u, rfl, _, hu, hcu⟩ := hr.at_ (by omega : k < b.length)
      obtain rfl : u = .int .u8 ((b[k]).toNat : Int) := by rw [bts_get, List.getElem?_eq_getElem hlt] at hu; simpa using hu.symm
      have hm7 : m < 72057594037927936 := by have h1 := numN_take_lt b k hk; have h2 := pow_le8 (k := k) (by omega); rw [← hm.out] at h1; omega
      have hy := (b[k]).toNat_lt
      obtain ⟨y, hyy⟩ : ∃ y, y = (b[k]).toNat := ⟨_, rfl⟩
      rw [← hyy] at hcu hy
      have HY := Lib.hid hyy
      clear hyy hu hr
      go_wp2_with fail
      go_round
      case rel => exact ⟨k + 1, m * 256 + y, by omega, by go_num, by rw [or_u64 m y hm7 hy], (show _ = _ by rw [numN_take b k hlt, hm.out, HY.out])⟩
      case measure => simp [intOf]; omega
    · obtain rfl : k = b.length := by omega
      rw [List.take_length] at hm
      have hml : m < 18446744073709551616 := by
        have h1 := numN_lt b
        have h2 : 256 ^ b.length ≤ 256 ^ 8 := Nat.pow_le_pow_right (by omega) (by omega)
        have h3 : (256 : Nat) ^ 8 = 18446744073709551616 := by decide
        rw [hm.out]; omega
      clear hr
      go_wp2_with fail
      go_ret
      exact ⟨by rw [hm.out]; rfl, rfl⟩

/-- the eight octets at place k -/
def octAt (b : List UInt8) (k : Nat) : Nat := numN ((b.drop (8 * k)).take 8)
def readS (b : List UInt8) : Sm := if b.length = 32 then ⟨octAt b 0, octAt b 1, octAt b 2, octAt b 3⟩ else ⟨0, 0, 0, 0⟩
def readE (b : List UInt8) : Int := if b.length < 32 then 8 else if 32 < b.length then 5 else 0

set_option maxRecDepth 100000 in
theorem read_any (b : List UInt8) (n : Nat) (hnb : n = b.length) (A : Option Addr) (c : Nat) (w : World) (B : Nat) (hr : Reads w B 1 A n (bts b)) (hB : B ≤ w.heap.size) (hc : n ≤ c) (hn : c ≤ 9223372036854775807) :
    Calls Try.prog 96 #[.slice A n c] w fun e w' => e = .returned (.tuple #[(readS b).val, .int .i64 (readE b)]) ∧ Below w.heap.size w w' := by
  subst hnb
  by_cases h1 : b.length < 32
  · have hi : (b.length : Int) < 32 := by omega
    have ev : (readS b).val = .agg #[.int .u64 0, .int .u64 0, .int .u64 0, .int .u64 0] := by simp only [readS]; rw [if_neg (by omega)]; rfl
    have ee : readE b = 8 := by simp [readE, h1]
    rw [ev, ee]
    go_enter Try.func96, Try.ntmps96
    go_wp2_with fail
    refine bodyPost_ret (v := .tuple #[.agg #[.int .u64 0, .int .u64 0, .int .u64 0, .int .u64 0], .int .i64 8]) (by simp [results, Try.results96, go_sem]) rfl ⟨rfl, (Below.refl _ _).alloc (Nat.le_refl _) _⟩
  by_cases h2 : 32 < b.length
  · have hi : ¬ (b.length : Int) < 32 := by omega
    have hi2 : (32 : Int) < (b.length : Int) := by omega
    have ev : (readS b).val = .agg #[.int .u64 0, .int .u64 0, .int .u64 0, .int .u64 0] := by simp only [readS]; rw [if_neg (by omega)]; rfl
    have ee : readE b = 5 := by simp [readE, h1, h2]
    rw [ev, ee]
    go_enter Try.func96, Try.ntmps96
    go_wp2_with fail
    refine bodyPost_ret (v := .tuple #[.agg #[.int .u64 0, .int .u64 0, .int .u64 0, .int .u64 0], .int .i64 5]) (by simp [results, Try.results96, go_sem]) rfl ⟨rfl, (Below.refl _ _).alloc (Nat.le_refl _) _⟩
  obtain hb : b.length = 32 := by omega
  obtain ⟨ad, rfl, _, _⟩ := hr.2 (by omega)
  have hget : ∀ k, k < 4 → Reads w B 1 (some (ad.add (8 * k))) 8 (bts ((b.drop (8 * k)).take 8)) := fun k hk => by
    have h1 := hr.cut (k := 8 * k) (cap := c) (by omega) hc
    rw [if_neg (by omega), ← Nat.mul_one (8 * k)] at h1
    simp only [Nat.mul_one, Option.map_some] at h1
    have h2 := h1.pre (k := 8) (by omega)
    rw [Nat.mul_one, ← bts_drop, ← bts_take] at h2
    exact h2
  have hlen : ∀ k, k < 4 → 8 = ((b.drop (8 * k)).take 8).length := fun k hk => by simp; omega
  obtain ⟨n0, hn0⟩ : ∃ n : Nat, n = octAt b 0 := ⟨_, rfl⟩
  obtain ⟨n1, hn1⟩ : ∃ n : Nat, n = octAt b 1 := ⟨_, rfl⟩
  obtain ⟨n2, hn2⟩ : ∃ n : Nat, n = octAt b 2 := ⟨_, rfl⟩
  obtain ⟨n3, hn3⟩ : ∃ n : Nat, n = octAt b 3 := ⟨_, rfl⟩
  have k0 : ∀ (W : World) (c' : Nat), Below w.heap.size w W → Calls Try.prog 121 #[.slice (some ad) 8 c'] W fun e w' => e = .returned (.int .u64 (n0 : Int)) ∧ W = w' := fun W c' hb => by
    have := big_any _ 8 (hlen 0 (by omega)) (by omega) _ c' W B ((hget 0 (by omega)).below (hb.mono hB))
    rw [hn0]; simpa [add_zero, octAt] using this
  have k1 : ∀ (W : World) (c' : Nat), Below w.heap.size w W → Calls Try.prog 121 #[.slice (some (ad.add 8)) 8 c'] W fun e w' => e = .returned (.int .u64 (n1 : Int)) ∧ W = w' := fun W c' hb => by
    rw [hn1]; exact big_any _ 8 (hlen 1 (by omega)) (by omega) _ c' W B ((hget 1 (by omega)).below (hb.mono hB))
  have k2 : ∀ (W : World) (c' : Nat), Below w.heap.size w W → Calls Try.prog 121 #[.slice (some (ad.add 16)) 8 c'] W fun e w' => e = .returned (.int .u64 (n2 : Int)) ∧ W = w' := fun W c' hb => by
    rw [hn2]; exact big_any _ 8 (hlen 2 (by omega)) (by omega) _ c' W B ((hget 2 (by omega)).below (hb.mono hB))
  have k3 : ∀ (W : World) (c' : Nat), Below w.heap.size w W → Calls Try.prog 121 #[.slice (some (ad.add 24)) 8 c'] W fun e w' => e = .returned (.int .u64 (n3 : Int)) ∧ W = w' := fun W c' hb => by
    rw [hn3]; exact big_any _ 8 (hlen 3 (by omega)) (by omega) _ c' W B ((hget 3 (by omega)).below (hb.mono hB))
  have ev : (readS b).val = .agg #[.int .u64 n0, .int .u64 n1, .int .u64 n2, .int .u64 n3] := by simp only [readS]; rw [if_pos hb, hn0, hn1, hn2, hn3]; rfl
  have ee : readE b = 0 := by simp [readE, hb]
  rw [ev, ee]
  rw [hb] at hc
  have hcc : (32 : Int) ≤ (c : Int) := by omega
  rw [hb]
  clear hb ev ee h1 h2 hn0 hn1 hn2 hn3 hget hlen hr
  go_enter Try.func96, Try.ntmps96
  go_wp2_with fail
  refine wp_loop_rounds 5 ?_
  rw [rounds_succ]; go_wp2_with fail
  refine (k0 _ _ (by go_grown)).mono ?_
  rintro e w1 ⟨rfl, rfl⟩
  go_wp2_with fail
  rw [rounds_succ]; go_wp2_with fail
  refine (k1 _ _ (by go_grown)).mono ?_
  rintro e w1 ⟨rfl, rfl⟩
  go_wp2_with fail
  rw [rounds_succ]; go_wp2_with fail
  refine (k2 _ _ (by go_grown)).mono ?_
  rintro e w1 ⟨rfl, rfl⟩
  go_wp2_with fail
  rw [rounds_succ]; go_wp2_with fail
  refine (k3 _ _ (by go_grown)).mono ?_
  rintro e w1 ⟨rfl, rfl⟩
  go_wp2_with fail
  rw [rounds_succ]; go_wp2_with fail
  refine bodyPost_ret (v := .tuple #[.agg #[.int .u64 n0, .int .u64 n1, .int .u64 n2, .int .u64 n3], .int .i64 0]) (by simp [results, Try.results96, go_sem]) rfl ⟨rfl, by go_grown⟩
end Go.Proofs.Ythfjfkjlgdnohaa
