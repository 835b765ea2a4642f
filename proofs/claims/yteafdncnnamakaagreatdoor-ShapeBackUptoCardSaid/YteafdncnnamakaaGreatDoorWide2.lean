/-
  A wide store into a block that has been made before.
-/
import Derived.Test.YteafdncnnamakaaGreatDoorWide
namespace Go.Proofs.YteafdncnnamakaaGreatDoor
open Go.RowKit

theorem Blk.setCells {g : Nat} {t : TypeId} (cs : List Value) : ∀ (w : World) (pre post : List Value), post.length = cs.length → Blk w g t (pre ++ post).toArray → Blk (w.setCells g pre.length cs) g t (pre ++ cs).toArray := by
  induction cs with
  | nil =>
    intro w pre post h hb
    rw [List.eq_nil_of_length_eq_zero h] at hb
    exact hb
  | cons v cs ih =>
    intro w pre post h hb
    cases post with
    | nil => simp at h
    | cons p post =>
      have h1 := hb.set_ pre.length v
      rw [show (pre ++ p :: post).toArray.setIfInBounds pre.length v = ((pre ++ [v]) ++ post).toArray by simp [List.set_append_right]] at h1
      have := ih (w.setCell ⟨g, pre.length, none⟩ v) (pre ++ [v]) post (by simpa using h) h1
      rw [List.length_append] at this
      rw [show pre ++ v :: cs = pre ++ [v] ++ cs by simp]
      exact this
theorem Blk.setCells_far {g g' : Nat} {t : TypeId} {c : Array Value} (hne : g ≠ g') (cs : List Value) : ∀ (w : World) (o : Nat), Blk w g t c → Blk (w.setCells g' o cs) g t c := by
  induction cs with
  | nil => intro w o h; exact h
  | cons v cs ih => intro w o h; exact ih _ _ (h.far (p := ⟨g', o, none⟩) hne v)
theorem below_setCells {B g : Nat} {a : World} (hg : B ≤ g) (cs : List Value) : ∀ (w : World) (o : Nat), Below B a w → Below B a (w.setCells g o cs) := by
  induction cs with
  | nil => intro w o h; exact h
  | cons v cs ih => intro w o h; exact ih _ _ (h.setCell (p := ⟨g, o, none⟩) hg v)
theorem size_setCells {g : Nat} (cs : List Value) : ∀ (w : World) (o : Nat), (w.setCells g o cs).heap.size = w.heap.size := by
  induction cs with
  | nil => intro w o; rfl
  | cons v cs ih => intro w o; exact (ih _ _).trans (by simp [World.setCell])
theorem Blk.there {w : World} {g : Nat} {t : TypeId} {cs : Array Value} (h : Blk w g t cs) (n : Nat) (hn : n ≤ cs.size) : w.there g 0 n := by
  intro j hj
  rw [Nat.zero_add]
  exact ⟨by rw [h.cell j]; simp; omega, h.frozen j⟩
end Go.Proofs.YteafdncnnamakaaGreatDoor
