/-
  cmp.Compare at strings, by its contract.
-/
import Derived.Test.YteafdncnnamakaaGreatDoorPrLaw
import Derived.Test.YteafdncnnamakaaGreatDoorCls
import Derived.Handy
import Derived.Test.YteafdncnnamakaaGreatDoorRows
namespace Go.Proofs.YteafdncnnamakaaGreatDoor
open Go.RowKit

def cmpS (x y : BS) : Int := if Op.bytesLess x y = true then -1 else if Op.bytesLess y x = true then 1 else 0
theorem cmpS_neg (x y : BS) : cmpS x y < 0 ↔ Op.bytesLess x y = true := by
  unfold cmpS
  split
  · rename_i h; simp [h]
  · rename_i h
    split
    · simp [h]
    · simp [h]
theorem cmpS_zero (x y : BS) : cmpS x y = 0 ↔ x = y := by
  unfold cmpS
  split
  · rename_i h
    constructor
    · intro e; cases e
    · intro e; exact absurd e (bl_ne h)
  · rename_i h
    split
    · rename_i h2
      constructor
      · intro e; cases e
      · intro e; exact absurd e.symm (bl_ne h2)
    · rename_i h2
      constructor
      · intro _
        by_cases e : x = y
        · exact e
        · exact absurd (bl_tri x y (by simpa using h) e) h2
      · intro _; rfl
set_option maxRecDepth 100000 in
theorem isNaNS_any (x : BS) (w : World) : Calls Tryz.prog 132 #[.string ⟨x.toArray⟩] w fun e w' => e = .returned (.bool false) ∧ ∃ q, w' = w.drewN q := by
  go_enter Tryz.func132, Tryz.ntmps132
  go_wp2_with fail
  go_ret
  exact ⟨rfl, 0, rfl⟩
set_option maxRecDepth 100000 in
theorem compareS_any (x y : BS) (w : World) : Calls Tryz.prog 76 #[.string ⟨x.toArray⟩, .string ⟨y.toArray⟩] w fun e w' => e = .returned (.int .i64 (cmpS x y)) ∧ ∃ q, w' = w.drewN q := by
  have hlss := lssS 9 x y
  have hgtr := gtrS 9 x y
  go_enter Tryz.func76, Tryz.ntmps76
  go_wp2_with fail
  refine (isNaNS_any x _).mono ?_
  rintro e w1 ⟨rfl, q1, rfl⟩
  go_wp2_with fail
  refine (isNaNS_any y _).mono ?_
  rintro e w1 ⟨rfl, q2, rfl⟩
  cases h1 : Op.bytesLess x y with
  | true =>
    have HV : Hid (cmpS x y = -1) := by show _ = _; unfold cmpS; rw [if_pos h1]
    rw [h1] at hlss hgtr
    clear h1
    go_wp2_with fail
    go_ret
    exact ⟨by rw [HV.out]; rfl, q1 + q2, rfl⟩
  | false =>
    by_cases h2 : x = y
    · have HV : Hid (cmpS x y = 0) := (cmpS_zero x y).2 h2
      have hd : (Op.bytesLess x y || x == y) = true := by simp [h2]
      rw [hd] at hgtr
      rw [h1] at hlss
      clear h1 h2 hd
      go_wp2_with fail
      go_ret
      exact ⟨by rw [HV.out]; rfl, q1 + q2, rfl⟩
    · have HV : Hid (cmpS x y = 1) := by show _ = _; unfold cmpS; rw [if_neg (by rw [h1]; simp), if_pos (bl_tri x y h1 h2)]
      have hd : (Op.bytesLess x y || x == y) = false := by rw [h1]; simpa using h2
      rw [hd] at hgtr
      rw [h1] at hlss
      clear h1 h2 hd
      go_wp2_with fail
      go_ret
      exact ⟨by rw [HV.out]; rfl, q1 + q2, rfl⟩
end Go.Proofs.YteafdncnnamakaaGreatDoor
