/-
  names.Name, names.Path.
-/
import Derived.Test.YtfknlijbphoceaaDoorNmFind
import Derived.Test.YtfknlijbphoceaaDoorShelf
import Derived.Test.YtfknlijbphoceaaDoorStr
namespace Go.Proofs.YtfknlijbphoceaaDoor
open Go.RowKit

set_option maxRecDepth 100000 in
set_option maxHeartbeats 1000000 in
theorem name_any (s : ByteArray) (w : World) : Calls Tryd.prog 11 #[.string s] w fun e w' => e = .returned (.bool (nameB s.data.toList)) ∧ Below w.heap.size w w' := by
  have hcv := Lib.hid (Lib.run_convert_string_bytes (P := Tryd.prog) w 9 41 5 s Tryd.underlying9 Tryd.underlying41 Tryd.underlying5)
  have hb := Lib.hid (bytesWorld_below w 5 s)
  have hr := Lib.hid (bytesWorld_reads w 5 s)
  have hsz := Lib.hid (Lib.size_eq s)
  have htl := Lib.hid (toList_data s)
  go_enter Tryd.func11, Tryd.ntmps11
  go_wp2_with fail
  · have h0 : s.toList = [] := by assumption
    rw [htl.out] at h0
    go_ret
    exact ⟨by rw [h0]; rfl, Below.refl _ _⟩
  · have h0 : ¬ s.toList = [] := by assumption
    have h16 : (s.size : Int) ≤ 16 := by assumption
    rw [htl.out] at h0
    rw [hcv.out]
    have hB := hb.out.size
    have hc := Lib.hid (fiB_contains (fun c : UInt8 => Value.int .u8 (c.toNat : Int)) (fun c => !okB c) s.data.toList s.size hsz.out (some ⟨w.heap.size, 0, none⟩) (grownCap w s.size 0 5) (Lib.bytesWorld w 5 s) (w.heap.size + 1) hr.out
      (by rw [Lib.bytesWorld_size]; omega) (by omega) (fun x _ W => (odd_any x W).mono fun _ _ ⟨h1, h2⟩ => ⟨h1, by rw [h2]; exact Below.refl _ _⟩))
    have hne := Lib.hid h0
    clear h0
    obtain ⟨b, hbe0⟩ : ∃ b, b = s.data.toList.any fun c => !okB c := ⟨_, rfl⟩
    rw [← hbe0] at hc
    have hbe := Lib.hid hbe0
    clear hbe0
    go_wp2_with fail
    refine hc.out.mono ?_
    rintro e w1 ⟨rfl, hb1⟩
    go_wp2_with fail
    go_ret
    refine ⟨congrArg Ending.returned (congrArg Value.bool ?_), hb.out.trans (hb1.mono hB)⟩
    have e1 : s.data.toList.isEmpty = false := by
      cases he : s.data.toList with
      | nil => exact absurd he hne.out
      | cons a r => rfl
    have e2 : decide (s.data.toList.length ≤ 16) = true := by
      rw [← hsz.out]
      exact decide_eq_true (by omega)
    unfold nameB
    rw [e1, e2, List.all_eq_not_any_not, ← hbe.out, htl.out, e1]
    rfl
  · have h16 : 16 < (s.size : Int) := by assumption
    go_ret
    refine ⟨congrArg Ending.returned (congrArg Value.bool ?_), Below.refl _ _⟩
    have e2 : decide (s.data.toList.length ≤ 16) = false := by
      rw [← hsz.out]
      exact decide_eq_false (by omega)
    unfold nameB
    rw [e2]
    simp

/-! ### Path -/
set_option maxRecDepth 100000 in
theorem path1_any (s : ByteArray) (w : World) : Calls Tryd.prog 17 #[.string s] w fun e w' => e = .returned (.bool (!nameB s.data.toList)) ∧ Below w.heap.size w w' := by
  go_enter Tryd.func17, Tryd.ntmps17
  go_wp2_with fail
  refine (name_any s w).mono ?_
  rintro e w1 ⟨rfl, hb⟩
  go_wp2_with fail
  go_ret
  exact ⟨rfl, hb⟩
/-- the cell of internal/bytealg.MaxLen holds some number -/
def HasMax (w : World) : Prop := ∃ m, w.cell? ⟨0, 0, none⟩ = some (.int .i64 m)
theorem HasMax.lt {w : World} (h : HasMax w) : 0 < w.heap.size := by
  obtain ⟨m, hm⟩ := h
  exact World.block_lt_of_cell? w _ hm
theorem HasMax.below {w w' : World} (h : HasMax w) (hb : Below w.heap.size w w') : HasMax w' := by
  obtain ⟨m, hm⟩ := h
  exact ⟨m, (hb.cell (World.block_lt_of_cell? w _ hm)).trans hm⟩
theorem HasMax.of_shaped {w : World} (h : w.ShapedOpen Tryd.prog) : HasMax w := Tryd.laysM146.s1_3 w h
theorem path_parts (s : ByteArray) (hne : s.data.toList ≠ []) : (decide (Lib.countB s ⟨#[47]⟩ + 1 ≤ 4) && !((Lib.splitB ⟨#[47]⟩ 0 (Lib.countB s ⟨#[47]⟩) s).any fun x => !nameB x.data.toList)) = pathB s.data.toList := by
  have he : s.data.toList.isEmpty = false := by
    cases h : s.data.toList with
    | nil => exact absurd h hne
    | cons a r => rfl
  unfold pathB
  rw [he, ← splitB_parts s, List.length_map, splitB_len, List.all_map, List.all_eq_not_any_not]
  rfl
set_option maxRecDepth 100000 in
set_option maxHeartbeats 1000000 in
theorem path_any (s : ByteArray) (w : World) (hs : s.size ≤ 4000000000) (hm : HasMax w) :
    Calls Tryd.prog 7 #[.string s] w fun e w' => e = .returned (.bool (pathB s.data.toList)) ∧ Below w.heap.size w w' := by
  obtain ⟨m, hm⟩ := hm
  have hsp := Lib.hid (Tryd.strings_Split s ⟨#[47]⟩ m w (by omega) hm (Nat.le_refl _))
  have hlen := Lib.hid (splitB_len s)
  have hpp := Lib.hid (path_parts s)
  have htl := Lib.hid (toList_data s)
  have hcount := Lib.hid (Lib.countB_le ⟨#[47]⟩ (Nat.le_refl _) _ s (Nat.le_refl _))
  go_enter Tryd.func7, Tryd.ntmps7
  go_wp2_with fail
  · have h0 : s.toList.isEmpty = true := by assumption
    rw [htl.out, List.isEmpty_iff] at h0
    go_ret
    exact ⟨by rw [h0]; rfl, Below.refl _ _⟩
  · have h0 : s.toList.isEmpty = false := by assumption
    rw [htl.out] at h0
    have h1 := Lib.hid (hpp.out (fun e => by rw [e] at h0; cases h0))
    clear h0
    obtain ⟨L, hL⟩ : ∃ L, L = Lib.splitB ⟨#[47]⟩ 0 (Lib.countB s ⟨#[47]⟩) s := ⟨_, rfl⟩
    obtain ⟨N, hN⟩ : ∃ N, N = Lib.countB s ⟨#[47]⟩ + 1 := ⟨_, rfl⟩
    have hN2 : N ≤ 4000000001 := by have := hcount.out; omega
    rw [← hN] at hsp hlen h1
    rw [← hL] at hsp hlen h1
    have hsp := hsp.out
    clear hcount hpp hL hN
    obtain ⟨b, hbe⟩ : ∃ b, b = L.any fun x => !nameB x.data.toList := ⟨_, rfl⟩
    rw [← hbe] at h1
    obtain ⟨W, hW⟩ : ∃ W, W = w.alloc (Obj.cells (List.map Value.string L).toArray 9) := ⟨_, rfl⟩
    have hbW : Below w.heap.size w W := by rw [hW]; exact Below.alloc (Below.refl _ _) (Nat.le_refl _) _
    have hrW : Reads W (w.heap.size + 1) 1 (some ⟨w.heap.size, 0, none⟩) N (L.map Value.string) := by
      rw [hW]
      exact Reads.lit w (List.map Value.string L).toArray 9 (by simp [hlen.out])
    have hsW : W.heap.size = w.heap.size + 1 := by rw [hW]; show (w.heap.push _).size = _; rw [Array.size_push]
    have hc := Lib.hid (fiS_contains Value.string (fun x => !nameB x.data.toList) L N hlen.out.symm (some ⟨w.heap.size, 0, none⟩) N W (w.heap.size + 1) hrW (by omega) (by omega) (fun x _ W => path1_any x W))
    rw [← hbe] at hc
    rw [← hW] at hsp
    clear hW hbe
    refine hsp.mono ?_
    clear hsp
    rintro e w1 ⟨rfl, rfl⟩
    go_wp2_with fail
    · have h4 : (N : Int) ≤ 4 := by assumption
      refine hc.out.mono ?_
      rintro e w2 ⟨rfl, hb2⟩
      go_wp2_with fail
      go_ret
      refine ⟨congrArg Ending.returned (congrArg Value.bool ?_), hbW.trans (hb2.mono (by omega))⟩
      rw [← h1.out, decide_eq_true (show N ≤ 4 by omega)]
      rfl
    · have h4 : 4 < (N : Int) := by assumption
      go_ret
      refine ⟨congrArg Ending.returned (congrArg Value.bool ?_), hbW⟩
      rw [← h1.out, decide_eq_false (show ¬ N ≤ 4 by omega)]
      rfl
end Go.Proofs.YtfknlijbphoceaaDoor
