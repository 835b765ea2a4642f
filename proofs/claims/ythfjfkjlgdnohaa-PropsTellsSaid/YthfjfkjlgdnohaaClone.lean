/-
  What the texts on joins lean on, where a seat holds no slices.Clone of bytes.
-/
import Derived.Test.YthfjfkjlgdnohaaBase
import Derived.Test.YthfjfkjlgdnohaaRows
import Derived.Handy
namespace Go.Proofs.Ythfjfkjlgdnohaa
open Go.RowKit

theorem Try.infoU8c : (Try.prog.info? 5).map (fun i => (i.zero, i.size, i.bytes)) = some (some (.int .u8 0), 1, 1) := by kernel_rfl
end Go.Proofs.Ythfjfkjlgdnohaa
