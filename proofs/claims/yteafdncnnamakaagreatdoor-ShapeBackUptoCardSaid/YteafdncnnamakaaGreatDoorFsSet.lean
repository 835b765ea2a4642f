/-
  A row of one's own of which one field of one element is stored: the element is another one, the rest stays.
-/
import Derived.Test.YteafdncnnamakaaGreatDoorFs
namespace Go.Proofs.YteafdncnnamakaaGreatDoor
open Go.RowKit

theorem cellsK_setF {α : Type} {enc : α → List Value} {k : Nat} (hk : ∀ x, (enc x).length = k) (l : List α) (i j : Nat) (hj : j < k) (x' : α) (u : Value) (he : ∀ x, l[i]? = some x → enc x' = (enc x).set j u) :
    cellsK enc (l.set i x') = (cellsK enc l).set (i * k + j) u := by
  induction l generalizing i with
  | nil => simp [cellsK]
  | cons x l ih =>
    cases i with
    | zero =>
      show enc x' ++ cellsK enc l = (enc x ++ cellsK enc l).set (0 * k + j) u
      rw [he x rfl, Nat.zero_mul, Nat.zero_add, List.set_append_left _ _ (by rw [hk]; exact hj)]
    | succ i =>
      show enc x ++ cellsK enc (l.set i x') = (enc x ++ cellsK enc l).set ((i + 1) * k + j) u
      rw [ih i (fun y hy => he y hy), Nat.succ_mul, List.set_append_right _ _ (by rw [hk]; omega), hk]
      congr 2
      omega
section
variable {α : Type} {w w' : World} {base k g : Nat} {t T : TypeId} {enc : α → List Value} {s : FS α}
/-- one field of one element stored -/
theorem FS.own.field (h : s.own w base t k enc) (hk : ∀ x, (enc x).length = k) (hA : s.A = some ⟨g, 0, none⟩) (i j : Nat) (hj : j < k) (x' : α) (u : Value) (he : ∀ x, s.l[i]? = some x → enc x' = (enc x).set j u) :
    FS.own (w.setCell ⟨g, i * k + j, none⟩ u) base t k enc ⟨s.A, s.n, s.c, s.l.set i x'⟩ ∧ w.grownBy (w.setCell ⟨g, i * k + j, none⟩ u) (some g) := by
  obtain ⟨A, n, c, l⟩ := s
  simp only at hA
  subst hA
  have h2 := World.ownsRow.stored h.2 (i * k + j) u
  refine ⟨⟨by rw [List.length_set]; exact h.1, ?_⟩, h2.2⟩
  show World.ownsRow _ base t k _ n (cellsK enc (l.set i x'))
  rw [cellsK_setF hk l i j hj x' u he]
  exact h2.1
/-- a row that is not empty is a block of its own -/
theorem FS.own.blk (h : s.own w base t k enc) (h0 : 0 < s.n) : ∃ g cs, s.A = some ⟨g, 0, none⟩ ∧ base ≤ g ∧ Blk w g t cs := by
  obtain ⟨A, n, c, l⟩ := s
  rcases h.2.2 with ⟨e, e0⟩ | ⟨g, cap, cur, e, hb, hg, _⟩
  · simp only at h0 e0
    omega
  · unfold FS.val at e
    injection e with e1 e2 e3
    exact ⟨g, cur, e1, hb, hg⟩
/-- what is grown in a block of another element type keeps a row -/
theorem FS.own.keptT {cs : Array Value} (h : s.own w base t k enc) (hg : w.grownBy w' (some g)) (hb : Blk w g T cs) (hne : t ≠ T) : s.own w' base t k enc :=
  ⟨h.1, h.2.kept hg (.inr (own_blk_ne h.2 hb hne))⟩
end
end Go.Proofs.YteafdncnnamakaaGreatDoor
