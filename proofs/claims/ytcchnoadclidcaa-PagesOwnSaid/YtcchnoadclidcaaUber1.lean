/-
  uber.Check, uber.number, uber.Slot, bytes.Equal and the law's num, by their contracts.
-/
import Derived.Test.YtcchnoadclidcaaNumber
import Derived.Handy
namespace Go.Proofs.Ytcchnoadclidcaa
open Go.RowKit

structure Ub where
  t : Int
  f : Int
  o : Int
def Ub.val (u : Ub) : Value := .agg #[.int .i64 u.t, .int .i64 u.f, .int .i64 u.o]
structure Ub.ok (u : Ub) : Prop where
  t : 1 ≤ u.t ∧ u.t ≤ 1099511627776
  f : (u.f = 0 ∨ 2 ≤ u.f) ∧ u.f < 8192
  o : 0 ≤ u.o ∧ u.o ≤ 1024
  z : u.f = 0 ↔ u.o = 0

theorem numU_any (x : Int) (w : World) : Calls Try.prog 41 #[.int .i64 x] w fun e w' => e = .returned (.int .i64 x) ∧ w = w' := by
  go_enter Try.func41, Try.ntmps41
  go_wp2_with fail
  go_ret
  exact ⟨rfl, rfl⟩

def CheckPost (w : World) (n : Int) (e : Ending) (w' : World) : Prop := e = .returned (.int .i64 n) ∧ Below w.heap.size w w'

set_option maxRecDepth 100000 in
theorem check_bad (u : Ub) (h : ¬ u.ok) (w : World) : Calls Try.prog 42 #[u.val] w (CheckPost w 4) := by
  obtain ⟨t, f, o⟩ := u
  show Calls _ _ #[.agg #[.int .i64 t, .int .i64 f, .int .i64 o]] _ _
  by_cases h1 : t < 1
  · clear h; (go_enter Try.func42, Try.ntmps42; go_wp2_with fail; go_ret; exact ⟨rfl, (Below.refl _ _).alloc (Nat.le_refl _) _⟩)
  by_cases h2 : 1099511627776 < t
  · clear h; (go_enter Try.func42, Try.ntmps42; go_wp2_with fail; go_ret; exact ⟨rfl, (Below.refl _ _).alloc (Nat.le_refl _) _⟩)
  by_cases h3 : f = 0
  · subst h3
    by_cases h4 : o < 0
    · clear h; (go_enter Try.func42, Try.ntmps42; go_wp2_with fail; go_ret; exact ⟨rfl, (Below.refl _ _).alloc (Nat.le_refl _) _⟩)
    by_cases h5 : 1024 < o
    · clear h; (go_enter Try.func42, Try.ntmps42; go_wp2_with fail; go_ret; exact ⟨rfl, (Below.refl _ _).alloc (Nat.le_refl _) _⟩)
    by_cases h6 : o = 0
    · exact absurd ⟨⟨by simp only; omega, by simp only; omega⟩, ⟨.inl rfl, by simp⟩, ⟨by simp only; omega, by simp only; omega⟩, by simp [h6]⟩ h
    have h7 : (o == 0) = false := by simp [h6]
    clear h
    (go_enter Try.func42, Try.ntmps42; go_wp2_with fail; go_ret; exact ⟨rfl, (Below.refl _ _).alloc (Nat.le_refl _) _⟩)
  have h3' : (f == 0) = false := by simp [h3]
  have h3'' : (f != 0) = true := by simp [h3]
  by_cases h8 : f < 2
  · clear h; (go_enter Try.func42, Try.ntmps42; go_wp2_with fail; go_ret; exact ⟨rfl, (Below.refl _ _).alloc (Nat.le_refl _) _⟩)
  by_cases h9 : f < 0
  · omega
  by_cases h10 : 8192 ≤ f
  · clear h; (go_enter Try.func42, Try.ntmps42; go_wp2_with fail; go_ret; exact ⟨rfl, (Below.refl _ _).alloc (Nat.le_refl _) _⟩)
  by_cases h4 : o < 0
  · clear h; (go_enter Try.func42, Try.ntmps42; go_wp2_with fail; go_ret; exact ⟨rfl, (Below.refl _ _).alloc (Nat.le_refl _) _⟩)
  by_cases h5 : 1024 < o
  · clear h; (go_enter Try.func42, Try.ntmps42; go_wp2_with fail; go_ret; exact ⟨rfl, (Below.refl _ _).alloc (Nat.le_refl _) _⟩)
  by_cases h6 : o = 0
  · subst h6
    clear h
    (go_enter Try.func42, Try.ntmps42; go_wp2_with fail; go_ret; exact ⟨rfl, (Below.refl _ _).alloc (Nat.le_refl _) _⟩)
  · exact absurd ⟨⟨by simp only; omega, by simp only; omega⟩, ⟨.inr (by simp only; omega), by simp only; omega⟩, ⟨by simp only; omega, by simp only; omega⟩, by simp [h6, h3]⟩ h

set_option maxRecDepth 100000 in
theorem check_ok (u : Ub) (h : u.ok) (w : World) : Calls Try.prog 42 #[u.val] w (CheckPost w 0) := by
  obtain ⟨t, f, o⟩ := u
  show Calls _ _ #[.agg #[.int .i64 t, .int .i64 f, .int .i64 o]] _ _
  obtain ⟨⟨a1, a2⟩, ⟨a3, a4⟩, ⟨a5, a6⟩, a7⟩ := h
  simp only at a1 a2 a3 a4 a5 a6 a7
  by_cases h3 : f = 0
  · obtain rfl := a7.1 h3
    subst h3
    clear a7 a3
    (go_enter Try.func42, Try.ntmps42; go_wp2_with fail; go_ret; exact ⟨rfl, (Below.refl _ _).alloc (Nat.le_refl _) _⟩)
  · have h3' : (f == 0) = false := by simp [h3]
    have h3'' : (f != 0) = true := by simp [h3]
    have h6 : ¬ o = 0 := fun e => h3 (a7.2 e)
    have h7 : (o == 0) = false := by simp [h6]
    have h8 : 2 ≤ f := by omega
    have h9 : ¬ f < 0 := by omega
    clear a7 a3
    (go_enter Try.func42, Try.ntmps42; go_wp2_with fail; go_ret; exact ⟨rfl, (Below.refl _ _).alloc (Nat.le_refl _) _⟩)

theorem slotU_any (u : Ub) (w : World) : Calls Try.prog 43 #[u.val] w fun e w' => e = .returned (.int .i64 (bits .and .i64 u.t 1)) ∧ Below w.heap.size w w' := by
  obtain ⟨t, f, o⟩ := u
  show Calls _ _ #[.agg #[.int .i64 t, .int .i64 f, .int .i64 o]] _ _
  go_enter Try.func43, Try.ntmps43
  go_wp2_with fail
  go_ret
  exact ⟨rfl, (Below.refl _ _).alloc (Nat.le_refl _) _⟩
end Go.Proofs.Ytcchnoadclidcaa
