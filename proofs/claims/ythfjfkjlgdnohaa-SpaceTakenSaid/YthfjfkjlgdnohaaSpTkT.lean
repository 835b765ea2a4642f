/-
  SpaceTakenSaid: what is taken is used then: nothing is taken twice. No condition.
-/
import Derived.Test.YthfjfkjlgdnohaaSpTk
namespace Go.Proofs.Ythfjfkjlgdnohaa
open Go.RowKit Go.ChangeShapes Go.WideShapes Go.ChangeAt

theorem spaceTaken_core (H : Type) (enc : TypeId × Value → H) (W : World) (args : Array Value) (ds : List (DataW H)) (h : ArgsIn enc Try.prog W [3, 54, 3, 3] args.toList ds) :
    LawCalls Try.prog 10 args W := by
  obtain ⟨v0, v1, v2, v3, d0, d1, d2, d3, rfl, rfl, h0, h1, h2, h3⟩ := argsIn4 h
  obtain ⟨T, rfl, _⟩ := h0.int Try.underlying3
  obtain ⟨A, l, n, c, rfl, hnl, hc, hcm, hr, hwf, _⟩ := h1.ints Try.underlying54 Try.underlying3 (by kernel_rfl) (by kernel_rfl)
  obtain ⟨m1, rfl, _⟩ := h2.int Try.underlying3
  obtain ⟨m2, rfl, _⟩ := h3.int Try.underlying3
  exact spaceTaken_any T m1 m2 l n hnl A c W hr hwf (by omega)

theorem spaceTaken_spec {H : Type} {enc : TypeId × Value → H} (vs : List Value) (ds : List (DataW H)) (W : World) (p : List MemPlace) (h : DataW.TrodAll enc Try.prog W 0 (fun _ => true) true [3, 54, 3, 3] vs ds p) :
    (Rows.spaceTakenSpec.fn H ds).results = [.lit (.bool true)] ∧ (Rows.spaceTakenSpec.fn H ds).args = ds ∧ (Rows.spaceTakenSpec.fn H ds).vars = [] := by
  obtain ⟨_, _, d0, ds0, _, _, rfl, rfl, _, _, r0⟩ := trodAll_cons h
  obtain ⟨_, _, d1, ds1, _, _, rfl, rfl, _, _, r1⟩ := trodAll_cons r0
  obtain ⟨_, _, d2, ds2, _, _, rfl, rfl, _, _, r2⟩ := trodAll_cons r1
  obtain ⟨_, _, d3, ds3, _, _, rfl, rfl, _, _, r3⟩ := trodAll_cons r2
  obtain ⟨rfl, rfl, rfl⟩ := trodAll_nil r3
  exact ⟨rfl, rfl, rfl⟩

set_option maxRecDepth 100000 in
theorem spaceTaken_lifted (os : Os) (started : os.Started) (H : Type) (enc : TypeId × Value → H) :
    ReturnsInHanded {} Try.checked os 10 .any (Rows.spaceTakenSpec.pre6 enc Try.prog Try.f10 Rows.spaceTakenRow.domain false) (Rows.spaceTakenSpec.post enc Try.prog Try.f10 false true false false) := by
  refine returnsInHanded_of_change_sized (C := Try.checked) Try.own started (by kernel_rfl) Try.func10
    (ChangeSpec.witness6 (enc := enc) (C := Try.checked) false ⟨#[], #[.int .i64 0, .slice none 0 0, .int .i64 0, .int .i64 0], []⟩ 8 (by kernel_rfl) (by kernel_rfl) (by kernel_rfl) (by kernel_rfl)) ?_
  intro W base args ds gs before hval hW _ hsz _
  exact law_contract Try.laidOut Try.underlying4 (ps := [3, 54, 3, 3]) rfl rfl rfl (by kernel_rfl) spaceTaken_spec W base args ds gs before hval hW hsz (fun h _ => spaceTaken_core H enc W args ds h)

theorem spaceTaken_holds : Rows.SpaceTakenSaid :=
  OpenClaim.holds_of_wide 10 Try.f10 rfl rfl rfl rfl rfl rfl rfl ⟨rfl, rfl, rfl, rfl, rfl⟩ rfl rfl rfl rfl rfl (by kernel_rfl) Try.func10 (by kernel_rfl)
    (of_decide_eq_true (by kernel_rfl)) (by unfold Func.isWrapper; first | (rw [if_pos (by decide +kernel)]; kernel_rfl) | (rw [if_neg (by decide +kernel)]; exact ⟨rfl, rfl⟩))
    (fun os started H enc _ => spaceTaken_lifted os started H enc)

end Go.Proofs.Ythfjfkjlgdnohaa
