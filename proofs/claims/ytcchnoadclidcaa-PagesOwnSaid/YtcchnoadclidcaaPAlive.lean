/-
  The pages law's example.
-/
import Derived.Test.YtcchnoadclidcaaGlue
import Derived.Test.YtcchnoadclidcaaFrame
namespace Go.Proofs.Ytcchnoadclidcaa
open Go.RowKit

set_option maxRecDepth 100000 in
theorem alive09_any (w : World) : Calls Try.prog 53 #[] w fun e w' => e = .returned (.bool true) ∧ Below w.heap.size w w' := by
  have hmk : (Instr.makeSlice 25 (.int .i64 53) (.int .i64 53)).run Try.prog w = .ok (.slice (some ⟨w.heap.size, 0, none⟩) 53 53) (w.alloc (.cells (bts (List.replicate 53 0)).toArray 5)) := make_bytes w 53 (by omega)
  have hR := Reads.lit w (bts (List.replicate 53 0)).toArray 5 (n := 53) (size := 1) (by simp [bts])
  have hcut := pgCut_any (List.replicate 53 0) 53 (by simp) (some ⟨w.heap.size, 0, none⟩) 53 (w.alloc (.cells (bts (List.replicate 53 0)).toArray 5)) (w.heap.size + 1) (by simpa using hR) (by simp) (by omega) (by omega) (by omega) 2 (by omega)
  have hb : Below w.heap.size w (w.alloc (.cells (bts (List.replicate 53 0)).toArray 5)) := (Below.refl _ _).alloc (Nat.le_refl _) _
  revert hmk hcut hb
  generalize (bts (List.replicate 53 0)).toArray = Z
  generalize List.replicate 53 (0 : UInt8) = z
  intro hmk hcut hb
  clear hR
  go_enter Try.func53, Try.ntmps53
  go_wp2_with fail
  refine (count_any 53 (by omega) _).mono ?_
  rintro e w1 ⟨rfl, rfl⟩
  have h2 : cntZ 53 = 2 := by decide
  rw [h2]
  clear h2
  go_wp2_with fail
  refine hcut.mono ?_
  clear hcut
  rintro e w2 ⟨v, ys, rfl, hown, _, hb2⟩
  obtain ⟨A, c, rfl, _, _, _⟩ := own_form hown
  have hbb := hb.trans (hb2.mono hb.size)
  clear hown hb hb2 hmk
  go_wp2_with fail
  go_ret
  exact ⟨rfl, hbb⟩
end Go.Proofs.Ytcchnoadclidcaa
