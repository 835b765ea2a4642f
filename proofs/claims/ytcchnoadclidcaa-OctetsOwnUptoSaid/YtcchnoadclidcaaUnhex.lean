/-
  octets.Unhex at a row's digits, by its contract.
-/
import Derived.Test.YtcchnoadclidcaaHex
import Derived.Test.YtcchnoadclidcaaEight
import Derived.Shelf.Small.Strs
import Derived.Lib.IndexLaws
import Derived.Lib.Hide
import Derived.Deep.Cut
namespace Go.Proofs.Ytcchnoadclidcaa
open Go.RowKit

set_option maxRecDepth 100000 in
theorem liteIndex_any (s : ByteArray) (c : Int) (w : World) :
    Calls Try.prog 69 #[.string s, .int .u8 c] w fun e w' => e = .returned (.int .i64 (Lib.indexByte s.data.toList c.toNat.toUInt8)) ∧ w' = w := by
  go_enter Try.func69, Try.ntmps69
  go_wp2_with fail
  rw [run_callFunc_extern Try.func74 (by kernel_rfl) (by kernel_rfl) (by kernel_rfl) (e := Extern.BytealgIndexByte.indexByte) (by kernel_rfl), Lib.run_indexByteString]
  simp only [Result.andThen]
  rw [Oper.upon_value]
  go_wp2_with fail
  go_ret
  exact ⟨rfl, rfl⟩
theorem indexByte_any (s : ByteArray) (c : Int) (w : World) :
    Calls Try.prog 56 #[.string s, .int .u8 c] w fun e w' => e = .returned (.int .i64 (Lib.indexByte s.data.toList c.toNat.toUInt8)) ∧ w' = w := by
  go_enter Try.func56, Try.ntmps56
  go_wp2_with fail
  refine (liteIndex_any _ _ _).mono ?_
  rintro e w' ⟨rfl, rfl⟩
  go_wp2_with fail
  go_ret
  exact ⟨rfl, rfl⟩
theorem dig_index : ∀ i, i < 16 → Lib.indexByte digL (digL.getD i 0) = (i : Int) := by decide
theorem indexDig_any (i : Nat) (hi : i < 16) (c : Int) (hc : c = ((digL.getD i 0).toNat : Int)) (w : World) :
    Calls Try.prog 56 #[.string ⟨#[48, 49, 50, 51, 52, 53, 54, 55, 56, 57, 97, 98, 99, 100, 101, 102]⟩, .int .u8 c] w fun e w' => e = .returned (.int .i64 (i : Int)) ∧ w' = w := by
  refine (indexByte_any _ c w).mono ?_
  rintro e w' ⟨rfl, rfl⟩
  refine ⟨?_, rfl⟩
  have h1 : c.toNat.toUInt8 = digL.getD i 0 := by rw [hc]; simp
  rw [h1]
  show Ending.returned (Value.int IntKind.i64 (Lib.indexByte digL (digL.getD i 0))) = _
  rw [dig_index i hi]
theorem hexL_get (b : List UInt8) (k : Nat) (h : k < b.length) : (hexL b)[2 * k]? = some (digL.getD ((b[k]).toNat / 16) 0) ∧ (hexL b)[2 * k + 1]? = some (digL.getD ((b[k]).toNat % 16) 0) := by
  induction b generalizing k with
  | nil => simp at h
  | cons x l ih =>
    have e : hexL (x :: l) = digL.getD (x.toNat / 16) 0 :: digL.getD (x.toNat % 16) 0 :: hexL l := rfl
    rw [e]
    cases k with
    | zero => exact ⟨rfl, rfl⟩
    | succ k =>
      rw [show 2 * (k + 1) = 2 * k + 1 + 1 by omega]
      simp only [List.getElem?_cons_succ, List.getElem_cons_succ]
      exact ih k (by simpa using h)

theorem or_dig : ∀ a : Nat, a < 16 → ∀ b : Nat, b < 16 → bits .or .i64 ((a : Int) * 16) (b : Int) = (a : Int) * 16 + (b : Int) := by decide +kernel

set_option maxRecDepth 100000 in
set_option maxHeartbeats 1000000 in
theorem unhex_hex (b : List UInt8) (w : World) (hn : b.length ≤ 35184372088832) :
    Calls Try.prog 20 #[.string ⟨(hexL b).toArray⟩] w fun e w' => ∃ v, e = .returned (.tuple #[v, .int .i64 0]) ∧ w'.ownsRow w.heap.size 5 1 v b.length (bts b) ∧ Below w.heap.size w w' := by
  obtain ⟨i0, hi0, hz0, hz1, hz2⟩ := info_parts Try.infoU8'
  obtain ⟨s, hs⟩ : ∃ s : ByteArray, s = ⟨(hexL b).toArray⟩ := ⟨_, rfl⟩
  obtain ⟨n, hnb⟩ : ∃ n, n = b.length := ⟨_, rfl⟩
  have hsz : s.size = 2 * n := by rw [hs, hnb]; show (hexL b).length = _; exact hexL_length b
  have hget : ∀ k (h : k < b.length) (h1 : 2 * k < s.size) (h2 : 2 * k + 1 < s.size), s[2 * k]'h1 = digL.getD ((b[k]).toNat / 16) 0 ∧ s[2 * k + 1]'h2 = digL.getD ((b[k]).toNat % 16) 0 := by
    intro k h h1 h2
    subst hs
    obtain ⟨g1, g2⟩ := hexL_get b k h
    constructor
    · exact Option.some.inj (by rw [← g1, List.getElem?_eq_getElem]; rfl)
    · exact Option.some.inj (by rw [← g2, List.getElem?_eq_getElem]; rfl)
  rw [← hs]
  rw [← hnb] at hn
  have HN := Lib.hid hnb
  have HG := Lib.hid hget
  have hr1 : (s.size : Int) % 2 = 0 := by omega
  have hr2 : (s.size : Int) / 2 = (n : Int) := by omega
  have e1 : (((s.size : Int) % 2) == 1) = false := by rw [hr1]; rfl
  have HSZ := Lib.hid hsz
  clear hs hsz hnb hget
  go_enter Try.func20, Try.ntmps20
  go_wp2_with (at_make; (refine wpList_make_own _ rfl _ _ _ rfl w.heap.size 5 i0 _ 1 Try.underlying25 hi0 hz0 hz1 .i64 .i64 _ n rfl rfl (by omega) (by rw [hz2]; omega) (by unfold maxLen; omega) (Nat.le_refl _) ?_); intro w1 hown1 hg1)
  go_loopw [4, 5] (fun o i wr => ∃ j k : Nat, k ≤ n ∧ Hid (j = 2 * k) ∧ i = .int .i64 (j : Int) ∧ wr.ownsRow w.heap.size 5 1 o k (bts (b.take k)) ∧ Below w.heap.size w wr) (fun _ i _ => 2 * n - (intOf i).toNat)
  case atStart => exact ⟨0, 0, by omega, rfl, rfl, hown1, (Below.refl _ _).grown hg1 (Nat.le_refl _) (fun j hj => by cases hj)⟩
  case round =>
    obtain ⟨j, k, hk, hjk, rfl, hown, hbel⟩ := hrel
    have hsz := HSZ.out
    have hj2 := hjk.out
    by_cases hlt : k < n
    · have hlb : k < b.length := by rw [← HN.out]; exact hlt
      have hl1 : j < s.size := by omega
      have hl2 : j + 1 < s.size := by omega
      have hl3 : (j : Int) < (s.size : Int) := by omega
      have hl4 : (j : Int) + 1 < (s.size : Int) := by omega
      have hl5 : (j : Int) + 1 ≤ 9223372036854775807 := by omega
      have hl6 : (0 : Int) ≤ (j : Int) + 1 := by omega
      obtain ⟨G1, G2⟩ := HG.out k hlb (by omega) (by omega)
      have hy := (b[k]).toNat_lt
      have hst := List.take_succ_eq_append_getElem hlb
      obtain ⟨y, hyy⟩ : ∃ y, y = (b[k]).toNat := ⟨_, rfl⟩
      have hst2 : Hid (bts (b.take (k + 1)) = bts (b.take k) ++ [.int .u8 (y : Int)]) := by
        show _ = _
        rw [hst, bts_append, hyy]
        rfl
      rw [← hyy] at G1 G2 hy
      have G1' : s[j]'hl1 = digL.getD (y / 16) 0 := by rw [← G1]; congr 1
      have G2' : s[j + 1]'hl2 = digL.getD (y % 16) 0 := by rw [← G2]; congr 1; omega
      have k1 := fun W => indexDig_any (y / 16) (by omega) (((s[j]'hl1).toNat : Nat) : Int) (by rw [G1']) W
      have k2 := fun W => indexDig_any (y % 16) (by omega) (((s[j + 1]'hl2).toNat : Nat) : Int) (by rw [G2']) W
      obtain ⟨hi, hhi⟩ : ∃ h, h = y / 16 := ⟨_, rfl⟩
      obtain ⟨lo, hlo⟩ : ∃ l, l = y % 16 := ⟨_, rfl⟩
      rw [← hhi] at k1
      rw [← hlo] at k2
      have hi16 : hi < 16 := by omega
      have lo16 : lo < 16 := by omega
      have HHL := Lib.hid (show y = hi * 16 + lo by omega)
      clear hhi hlo
      clear hsz hj2 hyy G1 G2 G1' G2' hr1 hr2 e1 hst
      have K1 := Lib.hid k1
      have K2 := Lib.hid k2
      clear k1 k2
      go_wp2_with fail
      have x1 : IntKind.i64.wrap ((j : Int) + 1) = (j : Int) + 1 := IntWalk.i64_in _ (by omega)
      go_big_quiet ((go_at_call 56; (first | (with_reducible exact Calls.quiet_of_same (K1.out _)) | (with_reducible exact Calls.quiet_of_same (K2.out _)))))
      generalize (s[j]'hl1).toNat = d1
      generalize (s[j + 1]'hl2).toNat = d2
      have HO := Lib.hid (own_drewN hown nq)
      have HB := Lib.hid (below_drewN hbel nq)
      have HK := Lib.hid (⟨hlt, hn⟩ : k < n ∧ n ≤ 35184372088832)
      have e1 : decide ((hi : Int) < 0) = false := by simp
      have e2 : decide ((lo : Int) < 0) = false := by simp
      have hor := or_dig hi hi16 lo lo16
      have hj2 : (j : Int) + 2 ≤ 9223372036854775807 := by have := hjk.out; omega
      clear x1 K1 K2 hl1 hl2 hl3 hl4 hl5 hl6 HG HSZ hy hn hlb hk hown hbel hlt hown1 hg1
      go_wp2_with (at_builtin; (refine wpList_push _ rfl (.tmp 37) (.tmp 43) _ rfl w.heap.size 5 i0 _ 1 1 Try.underlying25 hi0 hz0 hz1 hz2 rfl (by omega) _ k (bts (b.take k)) rfl HO.out 1 _ _ rfl rfl (by simp [Value.oneCell']) (by unfold maxLen; have := HK.out; omega) (by have := HK.out; omega) HB.out.size ?_); intro v2 w2 hown2 hq2 _)
      have hkn := HK.out
      refine ⟨⟨j + 2, k + 1, by omega, (show _ = _ by have := hjk.out; omega), by go_num, ?_, HB.out.trans hq2⟩, by have := hjk.out; simp [intOf]; omega⟩
      rw [hst2.out, HHL.out]
      have hc : (((hi * 16 + lo : Nat) : Int)) = (hi : Int) * 16 + (lo : Int) := by omega
      rw [hc]
      simpa using hown2
    · obtain rfl : k = n := by omega
      have hge : (s.size : Int) ≤ (j : Int) := by omega
      rw [HN.out, List.take_length] at hown
      have HO := Lib.hid hown
      have HB := Lib.hid hbel
      clear hown hbel hr1 hr2 e1 hj2 hsz hlt
      go_wp2_with fail
      go_ret2
      exact ⟨_, rfl, HO.out, HB.out⟩
end Go.Proofs.Ytcchnoadclidcaa
