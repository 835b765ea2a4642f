/-
  A slice of strings in memory.
-/
import Derived.Test.YtjdebhemoeojiaaDoorPrCheck
import Derived.Test.YtjdebhemoeojiaaDoorRows
import Derived.Handy
namespace Go.Proofs.YtjdebhemoeojiaaDoor
open Go.RowKit

def scells (l : List BS) : List Value := l.map strV
theorem scells_length (l : List BS) : (scells l).length = l.length := by simp [scells]
theorem scells_append (a b : List BS) : scells (a ++ b) = scells a ++ scells b := by simp [scells]
theorem scells_one (l : List BS) : ∀ u ∈ scells l, u.oneCell' = true := by
  intro u hu
  obtain ⟨z, _, rfl⟩ := List.mem_map.1 hu
  rfl
theorem strs_at {w : World} {B n : Nat} {A : Option Addr} {l : List BS} (h : Reads w B 1 A n (scells l)) (hn : n = l.length) {k : Nat} (hk : k < n) :
    ∃ ad, A = some ad ∧ ad.block < B ∧ w.cell? (ad.add k) = some (strV (l[k]'(by omega))) := by
  obtain ⟨ad, u, e, hB, hxu, hcell⟩ := h.at_ hk
  have hux : u = strV (l[k]'(by omega)) := by
    unfold scells at hxu
    rw [List.getElem?_map, List.getElem?_eq_getElem (by omega)] at hxu
    exact (Option.some.inj hxu).symm
  subst hux
  exact ⟨ad, e, hB, hcell⟩
theorem Tryd.infoS : (Tryd.prog.info? 9).map (fun i => (i.zero, i.size, i.bytes)) = some (some (.string ByteArray.empty), 1, 16) := by kernel_rfl
end Go.Proofs.YtjdebhemoeojiaaDoor
