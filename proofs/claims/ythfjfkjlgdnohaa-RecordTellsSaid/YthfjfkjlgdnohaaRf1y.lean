/-
  The page's Put (at 2, 3, 8 octets), Num, Number, Of: by their contracts. (mkrf1.py)
-/
import Derived.Test.YthfjfkjlgdnohaaZ7
import Derived.Test.YthfjfkjlgdnohaaZ2
namespace Go.Proofs.Ythfjfkjlgdnohaa
open Go.RowKit

set_option maxRecDepth 100000 in
set_option maxHeartbeats 1000000 in
theorem pput2_any (n : Int) (w : World) :
    Calls Try.prog 58 #[.int .i64 n, .int .i64 2] w fun e w' => ∃ v, e = .returned v ∧ w'.ownsRow w.heap.size 5 1 v 2 (bts (putL n 2)) ∧ Below w.heap.size w w' := by
  obtain ⟨i0, hi0, hz0, hz1, hz2⟩ := info_parts Try.infoU8c
  have hown0 : w.ownsRow w.heap.size 5 1 (.slice none 0 0) 0 [] := World.ownsRow_nil _ _ _ _
  have hb0 := Below.refl w.heap.size w
  go_enter Try.func58, Try.ntmps58
  go_wp2_with fail
  refine wp_loop_rounds 3 ?_
  rw [rounds_succ]
  go_wp2_with (at_builtin; (refine wpList_push w rfl (.tmp 14) (.tmp 20) _ rfl w.heap.size 5 i0 _ 1 1 Try.underlying28 hi0 hz0 hz1 hz2 rfl (by omega) (.slice none 0 0) 0 _ rfl hown0 1 _ _ rfl rfl (by simp [Value.oneCell']) (by unfold maxLen; omega) (by omega) hb0.size ?_); intro v1 w1 hown1 hq1 _)
  have hb1 := hb0.trans hq1
  clear hown0 hb0 hq1
  rw [rounds_succ]
  go_wp2_with (at_builtin; (refine wpList_push w1 rfl (.tmp 14) (.tmp 20) _ rfl w.heap.size 5 i0 _ 1 1 Try.underlying28 hi0 hz0 hz1 hz2 rfl (by omega) v1 1 _ rfl hown1 1 _ _ rfl rfl (by simp [Value.oneCell']) (by unfold maxLen; omega) (by omega) hb1.size ?_); intro v2 w2 hown2 hq2 _)
  have hb2 := hb1.trans hq2
  clear hown1 hb1 hq2
  rw [rounds_succ]
  go_wp2_with fail
  go_ret
  refine ⟨v2, rfl, ?_, hb2⟩
  have hl : bts (putL n 2) = [.int .u8 (n / 256 % 256), .int .u8 (n % 256)] := by
    rw [putL2r]; simp only [bts, List.map_cons, List.map_nil, toByte_int]
  rw [hl]
  first | exact hown2 | (rw [show (min (2 : Int) 8) = 2 from by decide] at hown2; simpa using hown2)

set_option maxRecDepth 100000 in
set_option maxHeartbeats 1000000 in
theorem pput3_any (n : Int) (w : World) :
    Calls Try.prog 58 #[.int .i64 n, .int .i64 3] w fun e w' => ∃ v, e = .returned v ∧ w'.ownsRow w.heap.size 5 1 v 3 (bts (putL n 3)) ∧ Below w.heap.size w w' := by
  obtain ⟨i0, hi0, hz0, hz1, hz2⟩ := info_parts Try.infoU8c
  have hown0 : w.ownsRow w.heap.size 5 1 (.slice none 0 0) 0 [] := World.ownsRow_nil _ _ _ _
  have hb0 := Below.refl w.heap.size w
  go_enter Try.func58, Try.ntmps58
  go_wp2_with fail
  refine wp_loop_rounds 4 ?_
  rw [rounds_succ]
  go_wp2_with (at_builtin; (refine wpList_push w rfl (.tmp 14) (.tmp 20) _ rfl w.heap.size 5 i0 _ 1 1 Try.underlying28 hi0 hz0 hz1 hz2 rfl (by omega) (.slice none 0 0) 0 _ rfl hown0 1 _ _ rfl rfl (by simp [Value.oneCell']) (by unfold maxLen; omega) (by omega) hb0.size ?_); intro v1 w1 hown1 hq1 _)
  have hb1 := hb0.trans hq1
  clear hown0 hb0 hq1
  rw [rounds_succ]
  go_wp2_with (at_builtin; (refine wpList_push w1 rfl (.tmp 14) (.tmp 20) _ rfl w.heap.size 5 i0 _ 1 1 Try.underlying28 hi0 hz0 hz1 hz2 rfl (by omega) v1 1 _ rfl hown1 1 _ _ rfl rfl (by simp [Value.oneCell']) (by unfold maxLen; omega) (by omega) hb1.size ?_); intro v2 w2 hown2 hq2 _)
  have hb2 := hb1.trans hq2
  clear hown1 hb1 hq2
  rw [rounds_succ]
  go_wp2_with (at_builtin; (refine wpList_push w2 rfl (.tmp 14) (.tmp 20) _ rfl w.heap.size 5 i0 _ 1 1 Try.underlying28 hi0 hz0 hz1 hz2 rfl (by omega) v2 2 _ rfl hown2 1 _ _ rfl rfl (by simp [Value.oneCell']) (by unfold maxLen; omega) (by omega) hb2.size ?_); intro v3 w3 hown3 hq3 _)
  have hb3 := hb2.trans hq3
  clear hown2 hb2 hq3
  rw [rounds_succ]
  go_wp2_with fail
  go_ret
  refine ⟨v3, rfl, ?_, hb3⟩
  have hl : bts (putL n 3) = [.int .u8 (n / 65536 % 256), .int .u8 (n / 256 % 256), .int .u8 (n % 256)] := by
    have h2 : n / 256 / 256 % 256 = n / 65536 % 256 := by omega
    rw [putL3r]; simp only [bts, List.map_cons, List.map_nil, toByte_int, h2]
  rw [hl]
  first | exact hown3 | (rw [show (min (3 : Int) 8) = 3 from by decide] at hown3; simpa using hown3)

set_option maxRecDepth 100000 in
set_option maxHeartbeats 1000000 in
theorem pput8_any (n : Int) (w : World) :
    Calls Try.prog 58 #[.int .i64 n, .int .i64 8] w fun e w' => ∃ v, e = .returned v ∧ w'.ownsRow w.heap.size 5 1 v 8 (bts (putL n 8)) ∧ Below w.heap.size w w' := by
  obtain ⟨i0, hi0, hz0, hz1, hz2⟩ := info_parts Try.infoU8c
  have hown0 : w.ownsRow w.heap.size 5 1 (.slice none 0 0) 0 [] := World.ownsRow_nil _ _ _ _
  have hb0 := Below.refl w.heap.size w
  go_enter Try.func58, Try.ntmps58
  go_wp2_with fail
  refine wp_loop_rounds 9 ?_
  rw [rounds_succ]
  go_wp2_with (at_builtin; (refine wpList_push w rfl (.tmp 14) (.tmp 20) _ rfl w.heap.size 5 i0 _ 1 1 Try.underlying28 hi0 hz0 hz1 hz2 rfl (by omega) (.slice none 0 0) 0 _ rfl hown0 1 _ _ rfl rfl (by simp [Value.oneCell']) (by unfold maxLen; omega) (by omega) hb0.size ?_); intro v1 w1 hown1 hq1 _)
  have hb1 := hb0.trans hq1
  clear hown0 hb0 hq1
  rw [rounds_succ]
  go_wp2_with (at_builtin; (refine wpList_push w1 rfl (.tmp 14) (.tmp 20) _ rfl w.heap.size 5 i0 _ 1 1 Try.underlying28 hi0 hz0 hz1 hz2 rfl (by omega) v1 1 _ rfl hown1 1 _ _ rfl rfl (by simp [Value.oneCell']) (by unfold maxLen; omega) (by omega) hb1.size ?_); intro v2 w2 hown2 hq2 _)
  have hb2 := hb1.trans hq2
  clear hown1 hb1 hq2
  rw [rounds_succ]
  go_wp2_with (at_builtin; (refine wpList_push w2 rfl (.tmp 14) (.tmp 20) _ rfl w.heap.size 5 i0 _ 1 1 Try.underlying28 hi0 hz0 hz1 hz2 rfl (by omega) v2 2 _ rfl hown2 1 _ _ rfl rfl (by simp [Value.oneCell']) (by unfold maxLen; omega) (by omega) hb2.size ?_); intro v3 w3 hown3 hq3 _)
  have hb3 := hb2.trans hq3
  clear hown2 hb2 hq3
  rw [rounds_succ]
  go_wp2_with (at_builtin; (refine wpList_push w3 rfl (.tmp 14) (.tmp 20) _ rfl w.heap.size 5 i0 _ 1 1 Try.underlying28 hi0 hz0 hz1 hz2 rfl (by omega) v3 3 _ rfl hown3 1 _ _ rfl rfl (by simp [Value.oneCell']) (by unfold maxLen; omega) (by omega) hb3.size ?_); intro v4 w4 hown4 hq4 _)
  have hb4 := hb3.trans hq4
  clear hown3 hb3 hq4
  rw [rounds_succ]
  go_wp2_with (at_builtin; (refine wpList_push w4 rfl (.tmp 14) (.tmp 20) _ rfl w.heap.size 5 i0 _ 1 1 Try.underlying28 hi0 hz0 hz1 hz2 rfl (by omega) v4 4 _ rfl hown4 1 _ _ rfl rfl (by simp [Value.oneCell']) (by unfold maxLen; omega) (by omega) hb4.size ?_); intro v5 w5 hown5 hq5 _)
  have hb5 := hb4.trans hq5
  clear hown4 hb4 hq5
  rw [rounds_succ]
  go_wp2_with (at_builtin; (refine wpList_push w5 rfl (.tmp 14) (.tmp 20) _ rfl w.heap.size 5 i0 _ 1 1 Try.underlying28 hi0 hz0 hz1 hz2 rfl (by omega) v5 5 _ rfl hown5 1 _ _ rfl rfl (by simp [Value.oneCell']) (by unfold maxLen; omega) (by omega) hb5.size ?_); intro v6 w6 hown6 hq6 _)
  have hb6 := hb5.trans hq6
  clear hown5 hb5 hq6
  rw [rounds_succ]
  go_wp2_with (at_builtin; (refine wpList_push w6 rfl (.tmp 14) (.tmp 20) _ rfl w.heap.size 5 i0 _ 1 1 Try.underlying28 hi0 hz0 hz1 hz2 rfl (by omega) v6 6 _ rfl hown6 1 _ _ rfl rfl (by simp [Value.oneCell']) (by unfold maxLen; omega) (by omega) hb6.size ?_); intro v7 w7 hown7 hq7 _)
  have hb7 := hb6.trans hq7
  clear hown6 hb6 hq7
  rw [rounds_succ]
  go_wp2_with (at_builtin; (refine wpList_push w7 rfl (.tmp 14) (.tmp 20) _ rfl w.heap.size 5 i0 _ 1 1 Try.underlying28 hi0 hz0 hz1 hz2 rfl (by omega) v7 7 _ rfl hown7 1 _ _ rfl rfl (by simp [Value.oneCell']) (by unfold maxLen; omega) (by omega) hb7.size ?_); intro v8 w8 hown8 hq8 _)
  have hb8 := hb7.trans hq8
  clear hown7 hb7 hq8
  rw [rounds_succ]
  go_wp2_with fail
  go_ret
  refine ⟨v8, rfl, ?_, hb8⟩
  have hl : bts (putL n 8) = [.int .u8 (n / 72057594037927936 % 256), .int .u8 (n / 281474976710656 % 256), .int .u8 (n / 1099511627776 % 256), .int .u8 (n / 4294967296 % 256), .int .u8 (n / 16777216 % 256), .int .u8 (n / 65536 % 256), .int .u8 (n / 256 % 256), .int .u8 (n % 256)] := by
    have h7 : n / 256 / 256 / 256 / 256 / 256 / 256 / 256 % 256 = n / 72057594037927936 % 256 := by omega
    have h6 : n / 256 / 256 / 256 / 256 / 256 / 256 % 256 = n / 281474976710656 % 256 := by omega
    have h5 : n / 256 / 256 / 256 / 256 / 256 % 256 = n / 1099511627776 % 256 := by omega
    have h4 : n / 256 / 256 / 256 / 256 % 256 = n / 4294967296 % 256 := by omega
    have h3 : n / 256 / 256 / 256 % 256 = n / 16777216 % 256 := by omega
    have h2 : n / 256 / 256 % 256 = n / 65536 % 256 := by omega
    rw [putL8r]; simp only [bts, List.map_cons, List.map_nil, toByte_int, h7, h6, h5, h4, h3, h2]
  rw [hl]
  first | exact hown8 | (rw [show (min (8 : Int) 8) = 8 from by decide] at hown8; simpa using hown8)


theorem numN_mono (b : List UInt8) (k j : Nat) (hkj : k ≤ j) (hj : j ≤ b.length) : numN (b.take k) ≤ numN (b.take j) := by
  induction j with
  | zero => obtain rfl : k = 0 := by omega
            exact Nat.le_refl _
  | succ j ih =>
    by_cases h : k = j + 1
    · subst h; exact Nat.le_refl _
    · have h1 := ih (by omega) (by omega)
      rw [numN_take b j (by omega)]
      omega

set_option maxRecDepth 100000 in
set_option maxHeartbeats 1000000 in
theorem pnumber_any (b : List UInt8) (n : Nat) (hnb : n = b.length) (A : Option Addr) (c : Nat) (w : World) (B : Nat) (hr : Reads w B 1 A n (bts b)) (hn : n ≤ 140737488351232) :
    Calls Try.prog 97 #[.slice A n c] w fun e w' => e = .returned (.tuple #[.int .i64 (numV b), .int .i64 (numE b)]) ∧ w = w' := by
  subst hnb
  by_cases h0 : b.length = 0
  · have e0 : ((b.length : Int) == 0) = true := by simp [h0]
    have ev : numV b = 0 := by simp [numV, h0]
    have ee : numE b = 8 := by simp [numE, h0]
    have EV := Lib.hid ev
    have EE := Lib.hid ee
    clear ev ee
    go_enter Try.func97, Try.ntmps97
    go_wp2_with fail
    go_ret2
    exact ⟨by rw [EV.out, EE.out]; rfl, rfl⟩
  by_cases h8 : 8 < b.length
  · have e0 : ((b.length : Int) == 0) = false := by simp [h0]
    have e8 : (8 : Int) < (b.length : Int) := by omega
    have ev : numV b = 0 := by simp [numV, h8]
    have ee : numE b = 5 := by simp [numE, h0, h8]
    have EV := Lib.hid ev
    have EE := Lib.hid ee
    clear ev ee
    go_enter Try.func97, Try.ntmps97
    go_wp2_with fail
    go_ret2
    exact ⟨by rw [EV.out, EE.out]; rfl, rfl⟩
  have e0 : ((b.length : Int) == 0) = false := by simp [h0]
  have e8 : (b.length : Int) ≤ 8 := by omega
  go_enter Try.func97, Try.ntmps97
  go_wp2_with fail
  go_loop [4, 5] (fun n i => ∃ k m : Nat, k ≤ b.length ∧ i = .int .i64 (k : Int) ∧ n = .int .i64 (m : Int) ∧ m ≤ 4611686018427387903 ∧ Hid (m = numN (b.take k))) (fun _ i => b.length - (intOf i).toNat)
  case atStart => exact ⟨0, 0, Nat.zero_le _, rfl, rfl, by omega, (show _ = _ by simp [numN])⟩
  case round =>
    obtain ⟨k, m, hk, rfl, rfl, hmm, hm⟩ := hrel
    by_cases hlt : k < b.length
    · obtain ⟨ad, u, rfl, _, hu, hcu⟩ := hr.at_ (by omega : k < b.length)
      obtain rfl : u = .int .u8 ((b[k]).toNat : Int) := by rw [bts_get, List.getElem?_eq_getElem hlt] at hu; simpa using hu.symm
      have hy := (b[k]).toNat_lt
      have hst := numN_take b k hlt
      rw [← hm.out] at hst
      have hle := numN_mono b (k + 1) b.length hlt (Nat.le_refl _)
      rw [List.take_length] at hle
      obtain ⟨y, hyy⟩ : ∃ y, y = (b[k]).toNat := ⟨_, rfl⟩
      rw [← hyy] at hcu hy hst
      have HST := Lib.hid hst
      have HLE := Lib.hid hle
      clear hyy hu hr hst hle
      by_cases hbig : 4611686018427387903 < m * 256 + y
      · have hgt : (4611686018427387903 - (y : Int)) / 256 < (m : Int) := by omega
        have hbN : 4611686018427387903 < numN b := by have := HST.out; have := HLE.out; omega
        have EV := Lib.hid (show numV b = 0 by simp only [numV]; rw [if_pos (by omega)])
        have EE := Lib.hid (show numE b = 4 by simp only [numE]; rw [if_neg h0, if_neg h8, if_pos hbN])
        clear hbN hbig
        go_wp2_with fail
        go_ret2
        exact ⟨by rw [EV.out, EE.out]; rfl, rfl⟩
      · have hgt : (m : Int) ≤ (4611686018427387903 - (y : Int)) / 256 := by omega
        go_wp2_with fail
        go_round
        case rel => exact ⟨k + 1, m * 256 + y, by omega, by go_num, by go_num, by omega, HST.out.symm⟩
        case measure => simp [intOf]; omega
    · obtain rfl : k = b.length := by omega
      rw [List.take_length] at hm
      have EV := Lib.hid (show numV b = m by simp only [numV]; rw [if_neg (by rw [← hm.out]; omega), ← hm.out])
      have EE := Lib.hid (show numE b = 0 by simp only [numE]; rw [if_neg h0, if_neg h8, if_neg (by rw [← hm.out]; omega)])
      clear hr
      go_wp2_with fail
      go_ret2
      exact ⟨by rw [EV.out, EE.out]; rfl, rfl⟩

set_option maxRecDepth 100000 in
theorem pnum_any (n : Int) (w : World) : Calls Try.prog 55 #[.int .i64 n] w fun e w' => e = .returned (.string ⟨(n8 n).toArray⟩) ∧ Below w.heap.size w w' := by
  go_enter Try.func55, Try.ntmps55
  go_wp2_with fail
  refine (pput8_any n w).mono ?_
  rintro e w1 ⟨v, rfl, hown, hb⟩
  obtain ⟨A2, c2, rfl, _, _, hr2⟩ := own_form hown
  have hst := str_of (P := Try.prog) (c := c2) hr2 (putL_length n 8).symm Try.underlying28 Try.underlying5 Try.underlying9
  clear hown hr2
  go_wp2_with fail
  go_ret
  exact ⟨rfl, hb⟩
set_option maxRecDepth 100000 in
set_option maxHeartbeats 1000000 in
theorem pof_any (s : BS) (w : World) : Calls Try.prog 98 #[.string ⟨s.toArray⟩] w fun e w' => e = .returned (.tuple #[.int .i64 (fnV s), .int .i64 (fnE s)]) ∧ Below w.heap.size w w' := by
  by_cases h8 : s.length < 8
  · have HE : Hid (fnE s = 8 ∧ fnV s = 0) := ⟨by unfold fnE; rw [if_pos h8], by unfold fnV; rw [if_neg (by omega)]⟩
    go_enter Try.func98, Try.ntmps98
    go_wp2_with fail
    go_ret2
    exact ⟨by rw [HE.out.1, HE.out.2]; rfl, Below.refl _ _⟩
  · by_cases h9 : 8 < s.length
    · have HE : Hid (fnE s = 5 ∧ fnV s = 0) := ⟨by unfold fnE; rw [if_neg h8, if_pos h9], by unfold fnV; rw [if_neg (by omega)]⟩
      go_enter Try.func98, Try.ntmps98
      go_wp2_with fail
      go_ret2
      exact ⟨by rw [HE.out.1, HE.out.2]; rfl, Below.refl _ _⟩
    · have HE : Hid (fnE s = numE s ∧ fnV s = numV s) := ⟨by unfold fnE; rw [if_neg h8, if_neg h9], by unfold fnV; rw [if_pos (by omega)]⟩
      have hcv := Lib.hid (Lib.run_convert_string_bytes (P := Try.prog) w 9 28 5 ⟨s.toArray⟩ Try.underlying9 Try.underlying28 Try.underlying5)
      have hb := Lib.hid (bytesWorld_below w 5 ⟨s.toArray⟩)
      have hr := bytesWorld_reads w 5 ⟨s.toArray⟩
      have hsz : (⟨s.toArray⟩ : ByteArray).size = s.length := by show s.toArray.size = _; simp
      have hnum := Lib.hid (pnumber_any s (⟨s.toArray⟩ : ByteArray).size hsz (some ⟨w.heap.size, 0, none⟩) (grownCap w (⟨s.toArray⟩ : ByteArray).size 0 5) (Lib.bytesWorld w 5 ⟨s.toArray⟩) _ (by simpa using hr) (by omega))
      clear hr
      go_enter Try.func98, Try.ntmps98
      go_wp2_with fail
      rw [hcv.out]
      go_wp2_with fail
      refine hnum.out.mono ?_
      rintro e w2 ⟨rfl, hw⟩
      rw [← hw]
      clear hw w2
      go_wp2_with fail
      go_ret2
      exact ⟨by rw [HE.out.1, HE.out.2]; rfl, hb.out⟩

end Go.Proofs.Ythfjfkjlgdnohaa
