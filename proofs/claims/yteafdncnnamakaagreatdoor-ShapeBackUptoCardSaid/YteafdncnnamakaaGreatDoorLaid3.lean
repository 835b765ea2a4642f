/-
  A world for the witness: the settled one, utf8's two tables holding what their initialisers lay.
-/
import Derived.Test.YteafdncnnamakaaGreatDoorCards
import Derived.Test.YteafdncnnamakaaGreatDoorTie
import Derived.Test.YteafdncnnamakaaGreatDoorFrame
import Derived.Deep.DeepHandedRow
import Derived.Lib.LaidTab
namespace Go.Proofs.YteafdncnnamakaaGreatDoor
def u8s (l : List Nat) : Array Value := (l.map fun (n : Nat) => Value.int .u8 (Int.ofNat n)).toArray
def layCells (c : Array Value) : Obj → Obj
  | .cells _ t frozen => .cells c t frozen
  | o => o
noncomputable def laidWorld (os : Os) : World :=
  { World.holding Tryz.prog os ⟨#[], #[], []⟩ with heap := ((World.holding Tryz.prog os ⟨#[], #[], []⟩).heap.modify 2 (layCells (u8s ([128, 191, 160, 191, 128, 159, 144, 191, 128, 143] ++ List.replicate 22 0)))).modify 1 (layCells (u8s Go.Pinned.utf8FirstZ)) }
end Go.Proofs.YteafdncnnamakaaGreatDoor
