/-
  A predicate that is a function value; elements of four and of five cells.
-/
import Derived.Test.YteafdncnnamakaaGreatDoorCells
namespace Go.Proofs.YteafdncnnamakaaGreatDoor
open Go.RowKit

/-- a predicate that is a function value: called at a list's elements, in a world that keeps what it captured -/
structure PredK (P : Program) (g : Nat) (caps : Array Value) {α : Type} (enc : α → Array Value) (M : α → Prop) (p : α → Bool) (Keep : World → Prop) : Prop where
  call : ∀ x W, M x → Keep W → Calls P g (#[.agg (enc x)] ++ caps) W fun e W' => e = .returned (.bool (p x)) ∧ Below W.heap.size W W'
  below : ∀ W W', Keep W → Below W.heap.size W W' → Keep W'
theorem Reads.el4 {α : Type} {f0 f1 f2 f3 : α → Value} {w : World} {B n : Nat} {A : Option Addr} {l : List α} (h : Reads w B 4 A n (cellsK (fun x => [f0 x, f1 x, f2 x, f3 x]) l)) (hn : n = l.length) {i : Nat} (hi : i < n) :
    ∃ ad, A = some ad ∧ ad.block < B ∧ w.cell? (ad.add (i * 4)) = some (f0 (l[i]'(by omega))) ∧ w.cell? ⟨(ad.add (i * 4)).block, (ad.add (i * 4)).off + 1, none⟩ = some (f1 (l[i]'(by omega))) ∧ w.cell? ⟨(ad.add (i * 4)).block, (ad.add (i * 4)).off + 2, none⟩ = some (f2 (l[i]'(by omega))) ∧ w.cell? ⟨(ad.add (i * 4)).block, (ad.add (i * 4)).off + 3, none⟩ = some (f3 (l[i]'(by omega))) := by
  obtain ⟨ad, e, hb, hc⟩ := Reads.elK (k := 4) (fun _ => rfl) h hn hi
  refine ⟨ad, e, hb, ?_, ?_, ?_, ?_⟩
  · have := hc 0 (by omega); rwa [add_zero] at this
  · have := hc 1 (by omega); rwa [addr_add_succ] at this
  · have := hc 2 (by omega); rwa [addr_add_succ] at this
  · have := hc 3 (by omega); rwa [addr_add_succ] at this
theorem Reads.el5 {α : Type} {f0 f1 f2 f3 f4 : α → Value} {w : World} {B n : Nat} {A : Option Addr} {l : List α} (h : Reads w B 5 A n (cellsK (fun x => [f0 x, f1 x, f2 x, f3 x, f4 x]) l)) (hn : n = l.length) {i : Nat} (hi : i < n) :
    ∃ ad, A = some ad ∧ ad.block < B ∧ w.cell? (ad.add (i * 5)) = some (f0 (l[i]'(by omega))) ∧ w.cell? ⟨(ad.add (i * 5)).block, (ad.add (i * 5)).off + 1, none⟩ = some (f1 (l[i]'(by omega))) ∧ w.cell? ⟨(ad.add (i * 5)).block, (ad.add (i * 5)).off + 2, none⟩ = some (f2 (l[i]'(by omega))) ∧ w.cell? ⟨(ad.add (i * 5)).block, (ad.add (i * 5)).off + 3, none⟩ = some (f3 (l[i]'(by omega))) ∧ w.cell? ⟨(ad.add (i * 5)).block, (ad.add (i * 5)).off + 4, none⟩ = some (f4 (l[i]'(by omega))) := by
  obtain ⟨ad, e, hb, hc⟩ := Reads.elK (k := 5) (fun _ => rfl) h hn hi
  refine ⟨ad, e, hb, ?_, ?_, ?_, ?_, ?_⟩
  · have := hc 0 (by omega); rwa [add_zero] at this
  · have := hc 1 (by omega); rwa [addr_add_succ] at this
  · have := hc 2 (by omega); rwa [addr_add_succ] at this
  · have := hc 3 (by omega); rwa [addr_add_succ] at this
  · have := hc 4 (by omega); rwa [addr_add_succ] at this

end Go.Proofs.YteafdncnnamakaaGreatDoor
