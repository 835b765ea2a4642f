/-
  The law TokenBack at any stage.
-/
import Derived.Test.YtjdebhemoeojiaaDoorTkBackp
namespace Go.Proofs.YtjdebhemoeojiaaDoor
open Go.RowKit

theorem nat_of {n : Int} (h : amt n 0 = true) : ∃ m : Nat, n = (m : Int) ∧ m ≤ 1099511627776 := by
  unfold amt at h
  rw [Bool.and_eq_true, decide_eq_true_eq, decide_eq_true_eq] at h
  exact ⟨n.toNat, by omega, by omega⟩
theorem nat_of1 {n : Int} (h : amt n 1 = true) : ∃ m : Nat, n = (m : Int) ∧ m ≤ 1099511627776 := by
  unfold amt at h
  rw [Bool.and_eq_true, decide_eq_true_eq, decide_eq_true_eq] at h
  exact ⟨n.toNat, by omega, by omega⟩
/-- a stage that may be: its numbers are amounts -/
theorem stage_amts {into : BS} {kind : Int} {nm : BS} {frm gd : Int} {ol : List (BS × BS)} {ix ct : Int} {dt : BS} {sm : Sm} {bl : List BlkT} {at_ nx : Int}
    (h : (!(into == []) && pathB into && beginP kind nm frm gd ol ix ct dt sm && okL bl && amt at_ 0 && amt nx 0) = true) : amt at_ 0 = true ∧ amt gd 1 = true := by
  simp only [Bool.and_eq_true] at h
  refine ⟨h.1.2, ?_⟩
  have := h.1.1.1.2
  unfold beginP at this
  simp only [Bool.and_eq_true] at this
  exact this.1.1.1.1.1.2
theorem tokenBack_any (x : StageR) (w : World) (hr : x.rd w w.heap.size) (hz : x.sz) (hmx : HasMax w) :
    Calls Tryd.prog 7 #[.agg (encStage x).toArray] w fun e w' => e = .returned (.bool true) ∧ Below w.heap.size w w' := by
  obtain ⟨into, kind, nm, frm, gd, ⟨o1, o2, o3, ol⟩, ix, ct, dt, ⟨sa, sb, sc, sd⟩, ⟨b1, b2, b3, bl⟩, at_, nx, ⟨ua, ub, uc, ud⟩, done⟩ := x
  cases hok : (!(into == []) && pathB into && beginP kind nm frm gd ol ix ct dt ⟨sa, sb, sc, sd⟩ && okL bl && amt at_ 0 && amt nx 0) with
  | false => exact tokenBack_bad into kind nm frm gd o1 o2 o3 ol ix ct dt sa sb sc sd b1 b2 b3 bl at_ nx ua ub uc ud done w w.heap.size hr.own.2.2 hr.own.1 hr.body.2.2 hr.body.1 (Nat.le_refl _) hz.into hz.own hz.body hz.props hmx hok
  | true =>
    obtain ⟨h1, h2⟩ := stage_amts hok
    obtain ⟨na, rfl, hna⟩ := nat_of h1
    obtain ⟨ng, rfl, hng⟩ := nat_of1 h2
    exact tokenBack_ok into kind nm frm o1 o2 o3 ol ix ct dt sa sb sc sd b1 b2 b3 bl nx ua ub uc ud done na ng hna hng w w.heap.size hr.own.2.2 hr.own.1 hr.body.2.2 hr.body.1 (Nat.le_refl _) hz.into hz.own hz.body hz.props hmx hok
end Go.Proofs.YtjdebhemoeojiaaDoor
