/-
  The page's Put at two octets, by its contract; two octets as a number.
-/
import Derived.Test.YtcchnoadclidcaaUberLaw
namespace Go.Proofs.Ytcchnoadclidcaa
open Go.RowKit
theorem putL2e (n : Int) : putL n 2 = [toByte (n / 256), toByte n] := by
  simp [putL, putF, bkDown, putStep, List.range, List.range.loop, List.replicate]
theorem numN2e (n : Int) : (numN (putL n 2) : Int) = n % 65536 := by
  rw [putL2e]
  simp only [numN, List.foldl_cons, List.foldl_nil]
  have h1 := toByte_int n
  have h2 := toByte_int (n / 256)
  omega
theorem numV2 (n : Int) (h : 0 ≤ n ∧ n < 65536) : numV (putL n 2) = n := by
  have := numN2e n
  unfold numV
  rw [if_neg (by rw [putL_length]; omega)]
  omega

set_option maxRecDepth 100000 in
set_option maxHeartbeats 1000000 in
theorem rput2_any (n : Int) (w : World) :
    Calls Try.prog 64 #[.int .i64 n, .int .i64 2] w fun e w' => ∃ v, e = .returned v ∧ w'.ownsRow w.heap.size 5 1 v 2 (bts (putL n 2)) ∧ Below w.heap.size w w' := by
  obtain ⟨i0, hi0, hz0, hz1, hz2⟩ := info_parts Try.infoU8c
  have hown0 : w.ownsRow w.heap.size 5 1 (.slice none 0 0) 0 [] := World.ownsRow_nil _ _ _ _
  have hb0 := Below.refl w.heap.size w
  go_enter Try.func64, Try.ntmps64
  go_wp2_with fail
  refine wp_loop_rounds 3 ?_
  rw [rounds_succ]
  go_wp2_with (at_builtin; (refine wpList_push w rfl (.tmp 14) (.tmp 20) _ rfl w.heap.size 5 i0 _ 1 1 Try.underlying25 hi0 hz0 hz1 hz2 rfl (by omega) (.slice none 0 0) 0 _ rfl hown0 1 _ _ rfl rfl (by simp [Value.oneCell']) (by unfold maxLen; omega) (by omega) hb0.size ?_); intro v1 w1 hown1 hq1 _)
  have hb1 := hb0.trans hq1
  clear hown0 hb0 hq1
  rw [rounds_succ]
  go_wp2_with (at_builtin; (refine wpList_push w1 rfl (.tmp 14) (.tmp 20) _ rfl w.heap.size 5 i0 _ 1 1 Try.underlying25 hi0 hz0 hz1 hz2 rfl (by omega) v1 1 _ rfl hown1 1 _ _ rfl rfl (by simp [Value.oneCell']) (by unfold maxLen; omega) (by omega) hb1.size ?_); intro v2 w2 hown2 hq2 _)
  have hb2 := hb1.trans hq2
  clear hown1 hb1 hq2
  rw [rounds_succ]
  go_wp2_with fail
  go_ret
  refine ⟨v2, rfl, ?_, hb2⟩
  have hl : bts (putL n 2) = [.int .u8 (n / 256 % 256), .int .u8 (n % 256)] := by
    rw [putL2e]; simp only [bts, List.map_cons, List.map_nil, toByte_int]
  rw [hl]
  exact hown2
end Go.Proofs.Ytcchnoadclidcaa
