/-
  SpaceTellsSaid: whether any sectors may be used, which are free, and the first of them, are as the page says. No condition.
-/
import Derived.Test.YthfjfkjlgdnohaaSpArg
namespace Go.Proofs.Ythfjfkjlgdnohaa
open Go.RowKit Go.ChangeShapes Go.WideShapes Go.ChangeAt

theorem spaceTells_core (H : Type) (enc : TypeId × Value → H) (W : World) (args : Array Value) (ds : List (DataW H)) (h : ArgsIn enc Try.prog W [3, 54, 3] args.toList ds) :
    LawCalls Try.prog 8 args W := by
  obtain ⟨v0, v1, v2, d0, d1, d2, rfl, rfl, h0, h1, h2⟩ := argsIn3 h
  obtain ⟨T, rfl, _⟩ := h0.int Try.underlying3
  obtain ⟨A, l, n, c, rfl, hnl, hc, hcm, hr, hwf, _⟩ := h1.ints Try.underlying54 Try.underlying3 (by kernel_rfl) (by kernel_rfl)
  obtain ⟨m, rfl, _⟩ := h2.int Try.underlying3
  exact spaceTells_any T m l n hnl A c hc W hr hwf (by omega)

theorem spaceTells_spec {H : Type} {enc : TypeId × Value → H} (vs : List Value) (ds : List (DataW H)) (W : World) (p : List MemPlace) (h : DataW.TrodAll enc Try.prog W 0 (fun _ => true) true [3, 54, 3] vs ds p) :
    (Rows.spaceTellsSpec.fn H ds).results = [.lit (.bool true)] ∧ (Rows.spaceTellsSpec.fn H ds).args = ds ∧ (Rows.spaceTellsSpec.fn H ds).vars = [] := by
  obtain ⟨_, _, d0, ds0, _, _, rfl, rfl, _, _, r0⟩ := trodAll_cons h
  obtain ⟨_, _, d1, ds1, _, _, rfl, rfl, _, _, r1⟩ := trodAll_cons r0
  obtain ⟨_, _, d2, ds2, _, _, rfl, rfl, _, _, r2⟩ := trodAll_cons r1
  obtain ⟨rfl, rfl, rfl⟩ := trodAll_nil r2
  exact ⟨rfl, rfl, rfl⟩

set_option maxRecDepth 100000 in
theorem spaceTells_lifted (os : Os) (started : os.Started) (H : Type) (enc : TypeId × Value → H) :
    ReturnsInHanded {} Try.checked os 8 .any (Rows.spaceTellsSpec.pre6 enc Try.prog Try.f8 Rows.spaceTellsRow.domain false) (Rows.spaceTellsSpec.post enc Try.prog Try.f8 false true false false) := by
  refine returnsInHanded_of_change_sized (C := Try.checked) Try.own started (by kernel_rfl) Try.func8
    (ChangeSpec.witness6 (enc := enc) (C := Try.checked) false ⟨#[], #[.int .i64 0, .slice none 0 0, .int .i64 0], []⟩ 8 (by kernel_rfl) (by kernel_rfl) (by kernel_rfl) (by kernel_rfl)) ?_
  intro W base args ds gs before hval hW _ hsz _
  exact law_contract Try.laidOut Try.underlying4 (ps := [3, 54, 3]) rfl rfl rfl (by kernel_rfl) spaceTells_spec W base args ds gs before hval hW hsz (fun h _ => spaceTells_core H enc W args ds h)

theorem spaceTells_holds : Rows.SpaceTellsSaid :=
  OpenClaim.holds_of_wide 8 Try.f8 rfl rfl rfl rfl rfl rfl rfl ⟨rfl, rfl, rfl, rfl, rfl⟩ rfl rfl rfl rfl rfl (by kernel_rfl) Try.func8 (by kernel_rfl)
    (of_decide_eq_true (by kernel_rfl)) (by unfold Func.isWrapper; first | (rw [if_pos (by decide +kernel)]; kernel_rfl) | (rw [if_neg (by decide +kernel)]; exact ⟨rfl, rfl⟩))
    (fun os started H enc _ => spaceTells_lifted os started H enc)

end Go.Proofs.Ythfjfkjlgdnohaa
