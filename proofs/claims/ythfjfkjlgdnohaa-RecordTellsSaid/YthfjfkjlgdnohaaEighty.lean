/-
  The page's eight octets of a number, by their contract.
-/
import Derived.Test.YthfjfkjlgdnohaaZ3
namespace Go.Proofs.Ythfjfkjlgdnohaa
open Go.RowKit

set_option maxRecDepth 100000 in
set_option maxHeartbeats 1000000 in
theorem eight_any (n : Int) (hn : 0 ≤ n ∧ n < 18446744073709551616) (w : World) :
    Calls Try.prog 92 #[.int .u64 n] w fun e w' => ∃ v, e = .returned v ∧ w'.ownsRow w.heap.size 5 1 v 8 (bts (putL n 8)) ∧ Below w.heap.size w w' := by
  obtain ⟨i0, hi0, hz0, hz1, hz2⟩ := info_parts Try.infoU8c
  have hown0 : w.ownsRow w.heap.size 5 1 (.slice none 0 0) 0 [] := World.ownsRow_nil _ _ _ _
  have hb0 := Below.refl w.heap.size w
  go_enter Try.func92, Try.ntmps92
  go_wp2_with fail
  refine wp_loop_rounds 9 ?_
  rw [rounds_succ]
  go_wp2_with (at_builtin; (refine wpList_push w rfl (.tmp 9) (.tmp 15) _ rfl w.heap.size 5 i0 _ 1 1 Try.underlying28 hi0 hz0 hz1 hz2 rfl (by omega) (.slice none 0 0) 0 _ rfl hown0 1 _ _ rfl rfl (by simp [Value.oneCell']) (by unfold maxLen; omega) (by omega) hb0.size ?_); intro v1 w1 hown1 hq1 _)
  have hb1 := hb0.trans hq1
  clear hown0 hb0 hq1
  rw [rounds_succ]
  go_wp2_with (at_builtin; (refine wpList_push w1 rfl (.tmp 9) (.tmp 15) _ rfl w.heap.size 5 i0 _ 1 1 Try.underlying28 hi0 hz0 hz1 hz2 rfl (by omega) v1 1 _ rfl hown1 1 _ _ rfl rfl (by simp [Value.oneCell']) (by unfold maxLen; omega) (by omega) hb1.size ?_); intro v2 w2 hown2 hq2 _)
  have hb2 := hb1.trans hq2
  clear hown1 hb1 hq2
  rw [rounds_succ]
  go_wp2_with (at_builtin; (refine wpList_push w2 rfl (.tmp 9) (.tmp 15) _ rfl w.heap.size 5 i0 _ 1 1 Try.underlying28 hi0 hz0 hz1 hz2 rfl (by omega) v2 2 _ rfl hown2 1 _ _ rfl rfl (by simp [Value.oneCell']) (by unfold maxLen; omega) (by omega) hb2.size ?_); intro v3 w3 hown3 hq3 _)
  have hb3 := hb2.trans hq3
  clear hown2 hb2 hq3
  rw [rounds_succ]
  go_wp2_with (at_builtin; (refine wpList_push w3 rfl (.tmp 9) (.tmp 15) _ rfl w.heap.size 5 i0 _ 1 1 Try.underlying28 hi0 hz0 hz1 hz2 rfl (by omega) v3 3 _ rfl hown3 1 _ _ rfl rfl (by simp [Value.oneCell']) (by unfold maxLen; omega) (by omega) hb3.size ?_); intro v4 w4 hown4 hq4 _)
  have hb4 := hb3.trans hq4
  clear hown3 hb3 hq4
  rw [rounds_succ]
  go_wp2_with (at_builtin; (refine wpList_push w4 rfl (.tmp 9) (.tmp 15) _ rfl w.heap.size 5 i0 _ 1 1 Try.underlying28 hi0 hz0 hz1 hz2 rfl (by omega) v4 4 _ rfl hown4 1 _ _ rfl rfl (by simp [Value.oneCell']) (by unfold maxLen; omega) (by omega) hb4.size ?_); intro v5 w5 hown5 hq5 _)
  have hb5 := hb4.trans hq5
  clear hown4 hb4 hq5
  rw [rounds_succ]
  go_wp2_with (at_builtin; (refine wpList_push w5 rfl (.tmp 9) (.tmp 15) _ rfl w.heap.size 5 i0 _ 1 1 Try.underlying28 hi0 hz0 hz1 hz2 rfl (by omega) v5 5 _ rfl hown5 1 _ _ rfl rfl (by simp [Value.oneCell']) (by unfold maxLen; omega) (by omega) hb5.size ?_); intro v6 w6 hown6 hq6 _)
  have hb6 := hb5.trans hq6
  clear hown5 hb5 hq6
  rw [rounds_succ]
  go_wp2_with (at_builtin; (refine wpList_push w6 rfl (.tmp 9) (.tmp 15) _ rfl w.heap.size 5 i0 _ 1 1 Try.underlying28 hi0 hz0 hz1 hz2 rfl (by omega) v6 6 _ rfl hown6 1 _ _ rfl rfl (by simp [Value.oneCell']) (by unfold maxLen; omega) (by omega) hb6.size ?_); intro v7 w7 hown7 hq7 _)
  have hb7 := hb6.trans hq7
  clear hown6 hb6 hq7
  rw [rounds_succ]
  go_wp2_with (at_builtin; (refine wpList_push w7 rfl (.tmp 9) (.tmp 15) _ rfl w.heap.size 5 i0 _ 1 1 Try.underlying28 hi0 hz0 hz1 hz2 rfl (by omega) v7 7 _ rfl hown7 1 _ _ rfl rfl (by simp [Value.oneCell']) (by unfold maxLen; omega) (by omega) hb7.size ?_); intro v8 w8 hown8 hq8 _)
  have hb8 := hb7.trans hq8
  clear hown7 hb7 hq8
  rw [rounds_succ]
  go_wp2_with fail
  go_ret
  refine ⟨v8, rfl, ?_, hb8⟩
  have h7 : n / 256 / 256 / 256 / 256 / 256 / 256 / 256 % 256 = n / 72057594037927936 := by omega
  have h6 : n / 256 / 256 / 256 / 256 / 256 / 256 % 256 = n / 281474976710656 % 256 := by omega
  have h5 : n / 256 / 256 / 256 / 256 / 256 % 256 = n / 1099511627776 % 256 := by omega
  have h4 : n / 256 / 256 / 256 / 256 % 256 = n / 4294967296 % 256 := by omega
  have h3 : n / 256 / 256 / 256 % 256 = n / 16777216 % 256 := by omega
  have h2 : n / 256 / 256 % 256 = n / 65536 % 256 := by omega
  have h1 : n / 256 % 256 = n / 256 % 256 := by omega
  have hl : bts (putL n 8) = [.int .u8 (n / 72057594037927936), .int .u8 (n / 281474976710656 % 256), .int .u8 (n / 1099511627776 % 256), .int .u8 (n / 4294967296 % 256), .int .u8 (n / 16777216 % 256), .int .u8 (n / 65536 % 256), .int .u8 (n / 256 % 256), .int .u8 (n % 256)] := by
    rw [putL8r]; simp only [bts, List.map_cons, List.map_nil, toByte_int, h2, h3, h4, h5, h6, h7]
  rw [hl]
  exact hown8
end Go.Proofs.Ythfjfkjlgdnohaa
