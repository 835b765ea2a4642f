/-
  prune in plain lists: which snapshots may go, and the tenant without them.
-/
import Derived.Test.YtcgclpcocdappaaDoorPrnBasez
namespace Go.Proofs.YtcgclpcocdappaaDoor
open Go.RowKit

/-- may this snapshot of the set at p go, as far as it is neither tagged nor cloned? -/
def TenC.free (C : TenC) (p : BS) (x : SnapC) : Bool := decide (x.tags.length = 0) && decide (C.clones p x.nm = 0)
def lateN (keep : Int) (n : Nat) : Nat := n - min (max keep 0).toNat n
/-- of the first k places those that may go -/
def TenC.oldK (C : TenC) (p : BS) (l : List SnapC) (late k : Nat) : List BS := ((l.take (min k late)).filter (C.free p)).map SnapC.nm
def TenC.oldS (C : TenC) (s : SetC) (keep : Int) : List BS := C.oldK s.path s.snaps (lateN keep s.snaps.length) s.snaps.length
def TenC.old (C : TenC) (p : BS) (keep : Int) : List BS := if C.find p < 0 then [] else match C.sets[(C.find p).toNat]? with
  | none => []
  | some s => C.oldS s keep
def SetC.without (s : SetC) (l : List BS) : SetC := ⟨s.path, s.org, s.body, s.snaps.filter (fun x => !l.contains x.nm), s.own⟩
def TenC.prune (C : TenC) (p : BS) (keep : Int) : Int × Nat × TenC := if C.E ≠ 0 then (C.E, 0, C) else if C.find p < 0 then (71, 0, C) else if keep < 0 ∨ 16 < keep then (4, 0, C) else match C.sets[(C.find p).toNat]? with
  | none => (71, 0, C)
  | some s => (0, (C.old p keep).length, C.putS (C.find p).toNat (s.without (C.old p keep)))
theorem oldK_zero (C : TenC) (p : BS) (l : List SnapC) (late : Nat) : C.oldK p l late 0 = [] := by
  unfold TenC.oldK
  simp
theorem oldK_succ (C : TenC) (p : BS) (l : List SnapC) (late k : Nat) (x : SnapC) (hx : l[k]? = some x) : C.oldK p l late (k + 1) = C.oldK p l late k ++ (if (decide (k < late) && C.free p x) = true then [x.nm] else []) := by
  obtain ⟨hk, e⟩ := List.getElem?_eq_some_iff.1 hx
  unfold TenC.oldK
  by_cases h : k < late
  · rw [show min (k + 1) late = k + 1 by omega, show min k late = k by omega, List.take_succ_eq_append_getElem hk, e, List.filter_append, List.map_append]
    congr 1
    rw [decide_eq_true h, Bool.true_and]
    by_cases h2 : C.free p x = true
    · rw [if_pos h2, List.filter_cons_of_pos h2]
      rfl
    · rw [if_neg h2, List.filter_cons_of_neg h2]
      rfl
  · rw [show min (k + 1) late = late by omega, show min k late = late by omega, decide_eq_false h, Bool.false_and, if_neg Bool.false_ne_true, List.append_nil]
theorem oldK_len (C : TenC) (p : BS) (l : List SnapC) (late k : Nat) : (C.oldK p l late k).length ≤ l.length := by
  unfold TenC.oldK
  rw [List.length_map]
  refine Nat.le_trans (List.length_filter_le _ _) ?_
  rw [List.length_take]
  omega
end Go.Proofs.YtcgclpcocdappaaDoor
