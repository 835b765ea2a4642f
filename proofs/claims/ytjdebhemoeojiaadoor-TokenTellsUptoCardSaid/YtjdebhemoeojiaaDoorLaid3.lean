/-
  A world for the witness: the settled one, utf8's two tables holding what their initialisers lay.
-/
import Derived.Test.YtjdebhemoeojiaaDoorCards
import Derived.Test.YtjdebhemoeojiaaDoorTie
import Derived.Test.YtjdebhemoeojiaaDoorFrame
import Derived.Deep.DeepHandedRow
import Derived.Lib.LaidTab
namespace Go.Proofs.YtjdebhemoeojiaaDoor
def u8s (l : List Nat) : Array Value := (l.map fun (n : Nat) => Value.int .u8 (Int.ofNat n)).toArray
def layCells (c : Array Value) : Obj → Obj
  | .cells _ t frozen => .cells c t frozen
  | o => o
noncomputable def laidWorld (os : Os) : World :=
  { World.holding Tryd.prog os ⟨#[], #[], []⟩ with heap := ((World.holding Tryd.prog os ⟨#[], #[], []⟩).heap.modify 2 (layCells (u8s ([128, 191, 160, 191, 128, 159, 144, 191, 128, 143] ++ List.replicate 22 0)))).modify 1 (layCells (u8s Go.Pinned.utf8FirstZ)) }
end Go.Proofs.YtjdebhemoeojiaaDoor
