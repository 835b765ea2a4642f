/-
  names.Name, names.Path.
-/
import Derived.Test.YtjdebhemoeojiaaDoorNmFind
import Derived.Test.YtjdebhemoeojiaaDoorShelf
import Derived.Test.YtjdebhemoeojiaaDoorStr
namespace Go.Proofs.YtjdebhemoeojiaaDoor
open Go.RowKit

/-! ### Path -/
set_option maxRecDepth 100000 in
theorem path1_any (s : ByteArray) (w : World) : Calls Tryd.prog 84 #[.string s] w fun e w' => e = .returned (.bool (!nameB s.data.toList)) ∧ Below w.heap.size w w' := by
  go_enter Tryd.func84, Tryd.ntmps84
  go_wp2_with fail
  refine (name_any s w).mono ?_
  rintro e w1 ⟨rfl, hb⟩
  go_wp2_with fail
  go_ret
  exact ⟨rfl, hb⟩
/-- the cell of internal/bytealg.MaxLen holds some number -/
def HasMax (w : World) : Prop := ∃ m, w.cell? ⟨0, 0, none⟩ = some (.int .i64 m)
theorem HasMax.lt {w : World} (h : HasMax w) : 0 < w.heap.size := by
  obtain ⟨m, hm⟩ := h
  exact World.block_lt_of_cell? w _ hm
theorem HasMax.below {w w' : World} (h : HasMax w) (hb : Below w.heap.size w w') : HasMax w' := by
  obtain ⟨m, hm⟩ := h
  exact ⟨m, (hb.cell (World.block_lt_of_cell? w _ hm)).trans hm⟩
theorem HasMax.of_shaped {w : World} (h : w.ShapedOpen Tryd.prog) : HasMax w := Go.Proofs.cell_of_shapedOpen_int (zero := #[.int .i64 0]) (t := 3) h (of_decide_eq_true (by kernel_rfl)) (by kernel_rfl) rfl (by kernel_rfl) (by kernel_rfl) Tryd.underlying3
theorem path_parts (s : ByteArray) (hne : s.data.toList ≠ []) : (decide (Lib.countB s ⟨#[47]⟩ + 1 ≤ 4) && !((Lib.splitB ⟨#[47]⟩ 0 (Lib.countB s ⟨#[47]⟩) s).any fun x => !nameB x.data.toList)) = pathB s.data.toList := by
  have he : s.data.toList.isEmpty = false := by
    cases h : s.data.toList with
    | nil => exact absurd h hne
    | cons a r => rfl
  unfold pathB
  rw [he, ← splitB_parts s, List.length_map, splitB_len, List.all_map, List.all_eq_not_any_not]
  rfl
set_option maxRecDepth 100000 in
set_option maxHeartbeats 1000000 in
theorem path_any (s : ByteArray) (w : World) (hs : s.size ≤ 4000000000) (hm : HasMax w) :
    Calls Tryd.prog 51 #[.string s] w fun e w' => e = .returned (.bool (pathB s.data.toList)) ∧ Below w.heap.size w w' := by
  obtain ⟨m, hm⟩ := hm
  have hsp := Lib.hid (Tryd.strings_Split s ⟨#[47]⟩ m w (by omega) hm (Nat.le_refl _))
  have hlen := Lib.hid (splitB_len s)
  have hpp := Lib.hid (path_parts s)
  have htl := Lib.hid (toList_data s)
  have hcount := Lib.hid (Lib.countB_le ⟨#[47]⟩ (Nat.le_refl _) _ s (Nat.le_refl _))
  go_enter Tryd.func51, Tryd.ntmps51
  go_wp2_with fail
  · have h0 : s.toList.isEmpty = true := by assumption
    rw [htl.out, List.isEmpty_iff] at h0
    go_ret
    exact ⟨by rw [h0]; rfl, Below.refl _ _⟩
  · have h0 : s.toList.isEmpty = false := by assumption
    rw [htl.out] at h0
    have h1 := Lib.hid (hpp.out (fun e => by rw [e] at h0; cases h0))
    clear h0
    obtain ⟨L, hL⟩ : ∃ L, L = Lib.splitB ⟨#[47]⟩ 0 (Lib.countB s ⟨#[47]⟩) s := ⟨_, rfl⟩
    obtain ⟨N, hN⟩ : ∃ N, N = Lib.countB s ⟨#[47]⟩ + 1 := ⟨_, rfl⟩
    have hN2 : N ≤ 4000000001 := by have := hcount.out; omega
    rw [← hN] at hsp hlen h1
    rw [← hL] at hsp hlen h1
    have hsp := hsp.out
    clear hcount hpp hL hN
    obtain ⟨b, hbe⟩ : ∃ b, b = L.any fun x => !nameB x.data.toList := ⟨_, rfl⟩
    rw [← hbe] at h1
    obtain ⟨W, hW⟩ : ∃ W, W = w.alloc (Obj.cells (List.map Value.string L).toArray 9) := ⟨_, rfl⟩
    have hbW : Below w.heap.size w W := by rw [hW]; exact Below.alloc (Below.refl _ _) (Nat.le_refl _) _
    have hrW : Reads W (w.heap.size + 1) 1 (some ⟨w.heap.size, 0, none⟩) N (L.map Value.string) := by
      rw [hW]
      exact Reads.lit w (List.map Value.string L).toArray 9 (by simp [hlen.out])
    have hsW : W.heap.size = w.heap.size + 1 := by rw [hW]; show (w.heap.push _).size = _; rw [Array.size_push]
    have hc := Lib.hid (fiS_contains Value.string (fun x => !nameB x.data.toList) L N hlen.out.symm (some ⟨w.heap.size, 0, none⟩) N W (w.heap.size + 1) hrW (by omega) (by omega) (fun x _ W => path1_any x W))
    rw [← hbe] at hc
    rw [← hW] at hsp
    clear hW hbe
    refine hsp.mono ?_
    clear hsp
    rintro e w1 ⟨rfl, rfl⟩
    go_wp2_with fail
    · have h4 : (N : Int) ≤ 4 := by assumption
      refine hc.out.mono ?_
      rintro e w2 ⟨rfl, hb2⟩
      go_wp2_with fail
      go_ret
      refine ⟨congrArg Ending.returned (congrArg Value.bool ?_), hbW.trans (hb2.mono (by omega))⟩
      rw [← h1.out, decide_eq_true (show N ≤ 4 by omega)]
      rfl
    · have h4 : 4 < (N : Int) := by assumption
      go_ret
      refine ⟨congrArg Ending.returned (congrArg Value.bool ?_), hbW⟩
      rw [← h1.out, decide_eq_false (show ¬ N ≤ 4 by omega)]
      rfl
end Go.Proofs.YtjdebhemoeojiaaDoor
