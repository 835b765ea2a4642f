/-
  The page's Words and Feed, by their contracts.
-/
import Derived.Test.YtcchnoadclidcaaFl2
import Derived.Handy
namespace Go.Proofs.Ytcchnoadclidcaa
open Go.RowKit

def part (b : List UInt8) (j : Nat) : Nat → Nat
  | 0 => 0
  | t + 1 => part b j t * 256 + (b.getD (j + t) 0).toNat
theorem part_lt (b : List UInt8) (j t : Nat) : part b j t < 256 ^ t := by
  induction t with
  | zero => simp [part]
  | succ t ih =>
    have := (b.getD (j + t) 0).toNat_lt
    simp only [part, Nat.pow_succ]
    omega
theorem part4 (b : List UInt8) (k : Nat) : part b (4 * k) 4 = wordAt b k := by
  simp only [part, wordAt, w4, Nat.add_zero]
  omega

set_option maxRecDepth 100000 in
set_option maxHeartbeats 1000000 in
theorem rwords_any (b : List UInt8) (n : Nat) (hnb : n = b.length) (A : Option Addr) (c : Nat) (w : World) (B : Nat) (hr : Reads w B 1 A n (bts b)) (hB : B ≤ w.heap.size) (hn : n ≤ 140737488351232) :
    Calls Try.prog 28 #[.slice A n c] w fun e w' => ∃ v, e = .returned v ∧ w'.ownsRow w.heap.size 29 1 v (words b).length (u32s (words b)) ∧ Below w.heap.size w w' := by
  subst hnb
  obtain ⟨i0, hi0, hz0, hz1, hz2⟩ := info_parts Try.infoU32
  go_enter Try.func28, Try.ntmps28
  go_wp2_with fail
  go_loopw [3, 4] (fun v i wr => ∃ k j : Nat, Hid (j = 4 * k) ∧ j < b.length + 4 ∧ i = .int .i64 (j : Int) ∧ wr.ownsRow w.heap.size 29 1 v k (u32s (wordsN b k)) ∧ Below w.heap.size w wr) (fun _ i _ => b.length + 4 - (intOf i).toNat)
  case atStart => exact ⟨0, 0, (show _ = _ by simp), by omega, rfl, by simpa [wordsN, u32s] using World.ownsRow_nil _ _ _ _, Below.refl _ _⟩
  case round =>
    obtain ⟨k, j, hj, hjl, rfl, hown, hbw⟩ := hrel
    have hr2 := hr.below (hbw.mono hB)
    by_cases hlt : j < b.length
    · go_wp2_with fail
      go_loop [5, 6] (fun p x => ∃ t m s : Nat, t ≤ 4 ∧ Hid (s = j + t) ∧ j ≤ s ∧ s ≤ j + 4 ∧ x = .int .i64 (s : Int) ∧ p = .int .u32 (m : Int) ∧ Hid (m = part b j t)) (fun _ x => j + 4 - (intOf x).toNat)
      case atStart => exact ⟨0, 0, j, by omega, (show _ = _ by simp), by omega, by omega, rfl, rfl, (show _ = _ by simp [part])⟩
      case round =>
        obtain ⟨t, m, s, ht, hs, hs1, hs2, rfl, rfl, hm⟩ := hrel
        have hst := hs.out
        by_cases ht4 : s < j + 4
        · have hm3 : m < 16777216 := by
            have h1 := part_lt b j t
            have h2 : 256 ^ t ≤ 256 ^ 3 := Nat.pow_le_pow_right (by omega) (by omega)
            have h3 : (256 : Nat) ^ 3 = 16777216 := by decide
            rw [hm.out]; omega
          clear hst
          by_cases hsl : s < b.length
          · obtain ⟨ad, u, rfl, _, hu, hcu⟩ := hr2.at_ (by omega : s < b.length)
            obtain rfl : u = .int .u8 ((b[s]).toNat : Int) := by rw [bts_get, List.getElem?_eq_getElem hsl] at hu; simpa using hu.symm
            have hy := (b[s]).toNat_lt
            have hgd : (b.getD (j + t) 0).toNat = (b[s]).toNat := by rw [← hs.out]; simp [List.getD_eq_getElem?_getD, List.getElem?_eq_getElem hsl]
            obtain ⟨y, hyy⟩ : ∃ y, y = (b[s]).toNat := ⟨_, rfl⟩
            rw [← hyy] at hcu hy hgd
            have HG := Lib.hid hgd
            clear hyy hu hr hr2 hgd
            go_wp2_with fail
            go_round
            case rel => exact ⟨t + 1, m * 256 + y, s + 1, by have := hs.out; omega, (show _ = _ by rw [hs.out]; omega), by omega, by omega, by go_num, by go_num, (show _ = _ by simp only [part]; rw [HG.out, hm.out])⟩
            case measure => simp [intOf]; omega
          · have HG := Lib.hid (show (b.getD (j + t) 0).toNat = 0 by rw [← hs.out]; simp [List.getD_eq_getElem?_getD, List.getElem?_eq_none (show b.length ≤ s by omega)])
            clear hr hr2
            go_wp2_with fail
            go_round
            case rel => exact ⟨t + 1, m * 256, s + 1, by have := hs.out; omega, (show _ = _ by rw [hs.out]; omega), by omega, by omega, by go_num, by go_num, (show _ = _ by simp only [part]; rw [HG.out, hm.out]; omega)⟩
            case measure => simp [intOf]; omega
        · obtain rfl : t = 4 := by omega
          obtain rfl : s = j + 4 := by omega
          have hmw := Lib.hid (show m = wordAt b k by rw [hm.out, hj.out, part4])
          have hk : k < b.length := by have := hj.out; omega
          clear hst hr hr2
          go_wp2_with (at_builtin; (refine wpList_push _ rfl (.tmp 33) (.tmp 35) _ rfl w.heap.size 29 i0 _ 1 4 Try.underlying44 hi0 hz0 hz1 hz2 rfl (by omega) _ k _ rfl hown 1 _ _ rfl rfl (by simp [Value.oneCell']) (by unfold maxLen; omega) (by have := hj.out; omega) hbw.size ?_); intro v2 w2 hown2 hb2 _)
          go_roundw
          case rel => exact ⟨k + 1, j + 4, (show _ = _ by rw [hj.out]; omega), by omega, by go_num, by rw [wordsN_succ]; simpa [u32s, hmw.out] using hown2, hbw.trans hb2⟩
          case measure => simp [intOf]; omega
    · have hw : words b = wordsN b k := by unfold words; rw [show (b.length + 3) / 4 = k by have := hj.out; omega]
      have HW := Lib.hid (show (words b).length = k ∧ u32s (words b) = u32s (wordsN b k) by rw [hw]; exact ⟨wordsN_length _ _, rfl⟩)
      clear hw hr2
      go_wp2_with fail
      go_ret
      exact ⟨_, rfl, by rw [HW.out.1, HW.out.2]; exact hown, hbw⟩
end Go.Proofs.Ytcchnoadclidcaa
