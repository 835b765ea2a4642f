/-
  PropsBackSaid: properties come back from their texts. No condition.
-/
import Derived.Test.YthfjfkjlgdnohaaPrBack
namespace Go.Proofs.Ythfjfkjlgdnohaa
open Go.RowKit Go.ChangeShapes Go.WideShapes Go.ChangeAt

theorem propsBack_core (H : Type) (enc : TypeId × Value → H) (W : World) (args : Array Value) (ds : List (DataW H)) (h : ArgsIn enc Try.prog W [22, 69] args.toList ds) :
    LawCalls Try.prog 12 args W := by
  obtain ⟨v0, v1, d0, d1, rfl, rfl, h0, h1⟩ := argsIn2 h
  obtain ⟨A1, l, n, c1, rfl, hnl, hc1, hb1, hr1, hs1, _⟩ := h0.props Try.underlying22 Try.underlying99 Try.underlying9 Try.underlying9 (by kernel_rfl) (by kernel_rfl) (by kernel_rfl)
  obtain ⟨A2, s, m, c2, rfl, hms, hc2, hb2, hr2, hs2, _⟩ := h1.strs Try.underlying69 Try.underlying9 (by kernel_rfl) (by kernel_rfl)
  exact propsBack_any l s n m hnl hms A1 A2 c1 c2 hc2 (by omega) W hr1 hr2 hs1 hs2 (by omega) (by omega)

theorem propsBack_spec {H : Type} {enc : TypeId × Value → H} (vs : List Value) (ds : List (DataW H)) (W : World) (p : List MemPlace) (h : DataW.TrodAll enc Try.prog W 0 (fun _ => true) true [22, 69] vs ds p) :
    (Rows.propsBackSpec.fn H ds).results = [.lit (.bool true)] ∧ (Rows.propsBackSpec.fn H ds).args = ds ∧ (Rows.propsBackSpec.fn H ds).vars = [] := by
  obtain ⟨_, _, d0, ds0, _, _, rfl, rfl, _, _, r0⟩ := trodAll_cons h
  obtain ⟨_, _, d1, ds1, _, _, rfl, rfl, _, _, r1⟩ := trodAll_cons r0
  obtain ⟨rfl, rfl, rfl⟩ := trodAll_nil r1
  exact ⟨rfl, rfl, rfl⟩

set_option maxRecDepth 100000 in
theorem propsBack_lifted (os : Os) (started : os.Started) (H : Type) (enc : TypeId × Value → H) :
    ReturnsInHanded {} Try.checked os 12 .any (Rows.propsBackSpec.pre6 enc Try.prog Try.f12 Rows.propsBackRow.domain false) (Rows.propsBackSpec.post enc Try.prog Try.f12 false true false false) := by
  refine returnsInHanded_of_change_sized (C := Try.checked) Try.own started (by kernel_rfl) Try.func12
    (ChangeSpec.witness6 (enc := enc) (C := Try.checked) false ⟨#[], #[.slice none 0 0, .slice none 0 0], []⟩ 8 (by kernel_rfl) (by kernel_rfl) (by kernel_rfl) (by kernel_rfl)) ?_
  intro W base args ds gs before hval hW _ hsz _
  exact law_contract Try.laidOut Try.underlying4 (ps := [22, 69]) rfl rfl rfl (by kernel_rfl) propsBack_spec W base args ds gs before hval hW hsz (fun h _ => propsBack_core H enc W args ds h)

theorem propsBack_holds : Rows.PropsBackSaid :=
  OpenClaim.holds_of_wide 12 Try.f12 rfl rfl rfl rfl rfl rfl rfl ⟨rfl, rfl, rfl, rfl, rfl⟩ rfl rfl rfl rfl rfl (by kernel_rfl) Try.func12 (by kernel_rfl)
    (of_decide_eq_true (by kernel_rfl)) (by unfold Func.isWrapper; first | (rw [if_pos (by decide +kernel)]; kernel_rfl) | (rw [if_neg (by decide +kernel)]; exact ⟨rfl, rfl⟩))
    (fun os started H enc _ => propsBack_lifted os started H enc)

end Go.Proofs.Ythfjfkjlgdnohaa
