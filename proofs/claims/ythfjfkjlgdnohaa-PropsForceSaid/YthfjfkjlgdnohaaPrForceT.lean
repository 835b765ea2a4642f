/-
  PropsForceSaid: what is over all others is as it is there, and what is not, as it was. No condition.
-/
import Derived.Test.YthfjfkjlgdnohaaPrForce2
namespace Go.Proofs.Ythfjfkjlgdnohaa
open Go.RowKit Go.ChangeShapes Go.WideShapes Go.ChangeAt

theorem propsForce_core (H : Type) (enc : TypeId × Value → H) (W : World) (args : Array Value) (ds : List (DataW H)) (h : ArgsIn enc Try.prog W [22, 22, 9] args.toList ds) :
    LawCalls Try.prog 11 args W := by
  obtain ⟨v0, v1, v2, d0, d1, d2, rfl, rfl, h0, h1, h2⟩ := argsIn3 h
  obtain ⟨A1, a, n, c1, rfl, hna, hc1, hb1, hr1, hs1, _⟩ := h0.props Try.underlying22 Try.underlying99 Try.underlying9 Try.underlying9 (by kernel_rfl) (by kernel_rfl) (by kernel_rfl)
  obtain ⟨A2, b, m, c2, rfl, hmb, hc2, hb2, hr2, hs2, _⟩ := h1.props Try.underlying22 Try.underlying99 Try.underlying9 Try.underlying9 (by kernel_rfl) (by kernel_rfl) (by kernel_rfl)
  obtain ⟨s, rfl, _, _⟩ := h2.string Try.underlying9
  have := propsForce_any a b s.data.toList n m hna hmb A1 A2 c1 c2 W hr1 hr2 hs1 hs2 (by omega) (by omega)
  simpa using this

theorem propsForce_spec {H : Type} {enc : TypeId × Value → H} (vs : List Value) (ds : List (DataW H)) (W : World) (p : List MemPlace) (h : DataW.TrodAll enc Try.prog W 0 (fun _ => true) true [22, 22, 9] vs ds p) :
    (Rows.propsForceSpec.fn H ds).results = [.lit (.bool true)] ∧ (Rows.propsForceSpec.fn H ds).args = ds ∧ (Rows.propsForceSpec.fn H ds).vars = [] := by
  obtain ⟨_, _, d0, ds0, _, _, rfl, rfl, _, _, r0⟩ := trodAll_cons h
  obtain ⟨_, _, d1, ds1, _, _, rfl, rfl, _, _, r1⟩ := trodAll_cons r0
  obtain ⟨_, _, d2, ds2, _, _, rfl, rfl, _, _, r2⟩ := trodAll_cons r1
  obtain ⟨rfl, rfl, rfl⟩ := trodAll_nil r2
  exact ⟨rfl, rfl, rfl⟩

set_option maxRecDepth 100000 in
theorem propsForce_lifted (os : Os) (started : os.Started) (H : Type) (enc : TypeId × Value → H) :
    ReturnsInHanded {} Try.checked os 11 .any (Rows.propsForceSpec.pre6 enc Try.prog Try.f11 Rows.propsForceRow.domain false) (Rows.propsForceSpec.post enc Try.prog Try.f11 false true false false) := by
  refine returnsInHanded_of_change_sized (C := Try.checked) Try.own started (by kernel_rfl) Try.func11
    (ChangeSpec.witness6 (enc := enc) (C := Try.checked) false ⟨#[], #[.slice none 0 0, .slice none 0 0, .string ByteArray.empty], []⟩ 8 (by kernel_rfl) (by kernel_rfl) (by kernel_rfl) (by kernel_rfl)) ?_
  intro W base args ds gs before hval hW _ hsz _
  exact law_contract Try.laidOut Try.underlying4 (ps := [22, 22, 9]) rfl rfl rfl (by kernel_rfl) propsForce_spec W base args ds gs before hval hW hsz (fun h _ => propsForce_core H enc W args ds h)

theorem propsForce_holds : Rows.PropsForceSaid :=
  OpenClaim.holds_of_wide 11 Try.f11 rfl rfl rfl rfl rfl rfl rfl ⟨rfl, rfl, rfl, rfl, rfl⟩ rfl rfl rfl rfl rfl (by kernel_rfl) Try.func11 (by kernel_rfl)
    (of_decide_eq_true (by kernel_rfl)) (by unfold Func.isWrapper; first | (rw [if_pos (by decide +kernel)]; kernel_rfl) | (rw [if_neg (by decide +kernel)]; exact ⟨rfl, rfl⟩))
    (fun os started H enc _ => propsForce_lifted os started H enc)

end Go.Proofs.Ythfjfkjlgdnohaa
