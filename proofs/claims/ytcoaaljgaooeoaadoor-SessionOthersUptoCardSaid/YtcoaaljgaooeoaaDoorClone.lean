/-
  What the texts on joins lean on, where a seat holds no slices.Clone of bytes.
-/
import Derived.Test.YtcoaaljgaooeoaaDoorBase
import Derived.Test.YtcoaaljgaooeoaaDoorRows
import Derived.Handy
namespace Go.Proofs.YtcoaaljgaooeoaaDoor
open Go.RowKit

theorem Tryd.infoU8c : (Tryd.prog.info? 5).map (fun i => (i.zero, i.size, i.bytes)) = some (some (.int .u8 0), 1, 1) := by kernel_rfl
end Go.Proofs.YtcoaaljgaooeoaaDoor
