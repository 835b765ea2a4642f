/-
  A running sum: four numbers.
-/
import Derived.WalkKit
namespace Go.Proofs.YteafdncnnamakaaGreatDoor

structure Sm where
  a : Int
  b : Int
  c : Int
  d : Int
def Sm.val (s : Sm) : Value := .agg #[.int .u64 s.a, .int .u64 s.b, .int .u64 s.c, .int .u64 s.d]
structure Sm.ok (s : Sm) : Prop where
  a : 0 ≤ s.a ∧ s.a < 18446744073709551616
  b : 0 ≤ s.b ∧ s.b < 18446744073709551616
  c : 0 ≤ s.c ∧ s.c < 18446744073709551616
  d : 0 ≤ s.d ∧ s.d < 18446744073709551616
end Go.Proofs.YteafdncnnamakaaGreatDoor
