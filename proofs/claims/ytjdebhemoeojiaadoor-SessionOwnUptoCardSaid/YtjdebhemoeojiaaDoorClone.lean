/-
  What the texts on joins lean on, where a seat holds no slices.Clone of bytes.
-/
import Derived.Test.YtjdebhemoeojiaaDoorBase
import Derived.Test.YtjdebhemoeojiaaDoorRows
import Derived.Handy
namespace Go.Proofs.YtjdebhemoeojiaaDoor
open Go.RowKit

theorem Tryd.infoU8c : (Tryd.prog.info? 5).map (fun i => (i.zero, i.size, i.bytes)) = some (some (.int .u8 0), 1, 1) := by kernel_rfl
end Go.Proofs.YtjdebhemoeojiaaDoor
