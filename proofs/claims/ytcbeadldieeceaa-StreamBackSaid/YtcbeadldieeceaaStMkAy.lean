/-
  stream.Make at any two snapshots.
-/
import Derived.Test.YtcbeadldieeceaaZ17
namespace Go.Proofs.Ytcbeadldieeceaa
open Go.RowKit

def baseL (full : Bool) (x : SpR) : BL := if full then [] else x.body.l
theorem make_any (x y : SpR) (full : Bool) (w : World) (hx : x.rd w w.heap.size) (hy : y.rd w w.heap.size) (sx : x.sz) (sy : y.sz) :
    Calls Try.prog 7 #[.agg x.cells, .agg y.cells, .bool full] w (MakePost w (baseL full x) y.body.l (rc0 full x y) (full || decide (x.gd < y.gd))) := by
  obtain ⟨fn, fg, ⟨A1, n1, c1, a⟩, ft, ⟨A3, n3, c3, o⟩⟩ := x
  obtain ⟨tn, tg, ⟨A2, n2, c2, b⟩, tt, ⟨A4, n4, c4, p⟩⟩ := y
  cases full with
  | true => exact make_full fn tn fg tg a b p ft tt n1 n2 n3 n4 c1 c2 c3 c4 A1 A2 A3 A4 hx.bn hy.bn hy.on hy.bc sy.body sy.own sy.ps w hx.body hy.body hy.own
  | false => exact make_from fn tn fg tg a b p ft tt n1 n2 n3 n4 c1 c2 c3 c4 A1 A2 A3 A4 hx.bn hy.bn hy.on hx.bc hy.bc sx.body sy.body sy.own sy.ps w hx.body hy.body hy.own
theorem SpR.rd.below {w w' : World} {x : SpR} (h : x.rd w w.heap.size) (hb : Below w.heap.size w w') : x.rd w' w'.heap.size :=
  ⟨h.bn, h.bc, (h.body.below hb).more hb.size, h.on, (h.own.below hb).more hb.size⟩
end Go.Proofs.Ytcbeadldieeceaa
