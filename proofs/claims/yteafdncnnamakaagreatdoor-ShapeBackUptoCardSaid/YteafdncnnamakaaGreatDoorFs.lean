/-
  A slice: as it lies in memory, and as it reads.
-/
import Derived.Test.YteafdncnnamakaaGreatDoorCells
import Derived.Test.YteafdncnnamakaaGreatDoorInv
namespace Go.Proofs.YteafdncnnamakaaGreatDoor
open Go.RowKit

/-- a slice: as it lies, and as it reads -/
structure FS (α : Type) where
  A : Option Addr
  n : Nat
  c : Nat
  l : List α
def FS.val {α : Type} (s : FS α) : Value := .slice s.A s.n s.c
def FS.rd {α : Type} (w : World) (B k : Nat) (enc : α → List Value) (s : FS α) : Prop := s.n = s.l.length ∧ s.n ≤ s.c ∧ Reads w B k s.A s.n (cellsK enc s.l)
def FS.own {α : Type} (w : World) (base : Nat) (t : TypeId) (k : Nat) (enc : α → List Value) (s : FS α) : Prop := s.n = s.l.length ∧ w.ownsRow base t k s.val s.n (cellsK enc s.l)
section
variable {α : Type} {w w' : World} {B k : Nat} {enc : α → List Value} {s : FS α}
theorem FS.rd.below (h : s.rd w B k enc) (hb : Below B w w') : s.rd w' B k enc := ⟨h.1, h.2.1, h.2.2.below hb⟩
theorem FS.rd.more {B' : Nat} (h : s.rd w B k enc) (hb : B ≤ B') : s.rd w B' k enc := ⟨h.1, h.2.1, h.2.2.more hb⟩
theorem FS.own.below {base : Nat} {t : TypeId} (h : s.own w base t k enc) (hb : Below w.heap.size w w') : s.own w' base t k enc := ⟨h.1, own_below h.2 hb⟩
theorem FS.own.mono {base base' : Nat} {t : TypeId} (h : s.own w base t k enc) (hb : base' ≤ base) : s.own w base' t k enc := ⟨h.1, own_mono h.2 hb⟩
theorem FS.own.rd {base : Nat} {t : TypeId} (h : s.own w base t k enc) : s.rd w w.heap.size k enc := by
  obtain ⟨A1, c1, e, h2, _, _⟩ := own_form h.2
  unfold FS.val at e
  injection e with _ _ e3
  exact ⟨h.1, by rw [e3]; exact h2, Reads.of_own h.2⟩
end
theorem FS.own.kept {α : Type} {w w' : World} {base k g : Nat} {t : TypeId} {enc : α → List Value} {s : FS α} (h : s.own w base t k enc) (hg : w.grownBy w' (some g)) (hb : g < base) : s.own w' base t k enc := by
  refine ⟨h.1, h.2.kept hg (.inr fun e => ?_)⟩
  have := (h.2.lt _ e).1
  omega
theorem FS.len_eq {α : Type} {s s' : FS α} (h : s.n = s.l.length) (h' : s'.n = s'.l.length) (he : s.l = s'.l) : s'.n = s.n := by rw [h, h', he]
end Go.Proofs.YteafdncnnamakaaGreatDoor
