/-
  BlocksApplyUptoSaid: what is changed from one content to another one makes it that; condition: the arguments hold together at most 1048576 values and letters.
-/
import Derived.Test.YtfknlijbphoceaaAp1
import Derived.Test.YtfknlijbphoceaaBkArg
namespace Go.Proofs.Ytfknlijbphoceaa
open Go.RowKit Go.ChangeShapes Go.WideShapes Go.ChangeAt

theorem blocksApply_core (H : Type) (enc : TypeId × Value → H) (W : World) (args : Array Value) (ds : List (DataW H)) (h : ArgsIn enc Try.prog W [22, 22] args.toList ds) (hk : Rows.uptoBulkAll ds ≤ 1048576) :
    LawCalls Try.prog 5 args W := by
  obtain ⟨v0, v1, d0, d1, rfl, rfl, h0, h1⟩ := argsIn2 h
  obtain ⟨A, l, n, c, rfl, hnl, hc, _, hr, e1⟩ := h0.blocks Try.underlying22 Try.underlying30 Try.underlying3 Try.underlying9 (by kernel_rfl) (by kernel_rfl)
  obtain ⟨A2, l2, n2, c2, rfl, hnl2, hc2, _, hr2, e2⟩ := h1.blocks Try.underlying22 Try.underlying30 Try.underlying3 Try.underlying9 (by kernel_rfl) (by kernel_rfl)
  simp only [Rows.uptoBulkAll] at hk
  exact blocksApply_any l l2 n n2 hnl hnl2 A A2 c c2 hc hc2 W hr hr2 (by omega) (by omega)


theorem blocksApply_spec {H : Type} {enc : TypeId × Value → H} (vs : List Value) (ds : List (DataW H)) (W : World) (p : List MemPlace) (h : DataW.TrodAll enc Try.prog W 0 (fun _ => true) true [22, 22] vs ds p) :
    (Rows.blocksApplySpec.fn H ds).results = [.lit (.bool true)] ∧ (Rows.blocksApplySpec.fn H ds).args = ds ∧ (Rows.blocksApplySpec.fn H ds).vars = [] := by
  obtain ⟨_, _, d0, ds0, _, _, rfl, rfl, _, _, r0⟩ := trodAll_cons h
  obtain ⟨_, _, d1, ds1, _, _, rfl, rfl, _, _, r1⟩ := trodAll_cons r0
  obtain ⟨rfl, rfl, rfl⟩ := trodAll_nil r1
  exact ⟨rfl, rfl, rfl⟩

set_option maxRecDepth 100000 in
theorem blocksApply_lifted (os : Os) (started : os.Started) (H : Type) (enc : TypeId × Value → H) (F : Stop.Interp) :
    ReturnsInHanded {} Try.checked os 5 .any ((Rows.OpenSpec.upto Rows.blocksApplySpec).pre6 enc Try.prog Try.f5 Rows.blocksApplyUptoRow.domain false) (((Rows.OpenSpec.upto Rows.blocksApplySpec).at F).post enc Try.prog Try.f5 false true false false) := by
  refine returnsInHanded_of_cond_sized (C := Try.checked) (s := Rows.OpenSpec.upto Rows.blocksApplySpec) (k := Rows.uptoSmall) rfl Try.own started (by kernel_rfl) Try.func5
    (OpenSpec.witness (enc := enc) (C := Try.checked) (s := Rows.OpenSpec.upto Rows.blocksApplySpec) (k := Rows.uptoSmall) rfl false ⟨#[], #[.slice none 0 0, .slice none 0 0], []⟩ 8 (by kernel_rfl) (by kernel_rfl) (by kernel_rfl)
      (x := ([.nil, .nil], [], [])) (by kernel_rfl) rfl (by kernel_rfl)) ?_
  intro W base args ds gs before hval hW _ hk hsz _
  refine law_contract (s := Rows.blocksApplySpec) Try.laidOut Try.underlying4 (ps := [22, 22]) rfl rfl rfl (by kernel_rfl) blocksApply_spec W base args ds gs before hval hW hsz (fun h hg => ?_)
  subst hg
  exact blocksApply_core H enc W args ds h (of_decide_eq_true (show decide (Rows.uptoBulkAll ds ≤ 1048576) = true from by rw [List.append_nil] at hk; exact hk))

theorem blocksApply_holds : Rows.BlocksApplyUptoSaid :=
  OpenClaim.holds_of_cond 5 Try.f5 rfl rfl rfl rfl rfl rfl rfl ⟨rfl, rfl, rfl, rfl, rfl⟩ rfl rfl rfl rfl rfl (by kernel_rfl) Try.func5 (by kernel_rfl)
    (of_decide_eq_true (by kernel_rfl)) (by unfold Func.isWrapper; first | (rw [if_pos (by decide +kernel)]; kernel_rfl) | (rw [if_neg (by decide +kernel)]; exact ⟨rfl, rfl⟩))
    (fun os started H enc _ F => blocksApply_lifted os started H enc F)

end Go.Proofs.Ytfknlijbphoceaa
