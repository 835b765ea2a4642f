/-
  PropsOverSaid: any lists, one over the other, are as the page says; over itself a list stays. No condition.
-/
import Derived.Test.YthfjfkjlgdnohaaPrOv
namespace Go.Proofs.Ythfjfkjlgdnohaa
open Go.RowKit Go.ChangeShapes Go.WideShapes Go.ChangeAt

theorem propsOver_core (H : Type) (enc : TypeId × Value → H) (W : World) (args : Array Value) (ds : List (DataW H)) (h : ArgsIn enc Try.prog W [22, 22, 22] args.toList ds) :
    LawCalls Try.prog 7 args W := by
  obtain ⟨v0, v1, v2, d0, d1, d2, rfl, rfl, h0, h1, h2⟩ := argsIn3 h
  obtain ⟨A1, a, n, c1, rfl, hna, hc1, hb1, hr1, hs1, _⟩ := h0.props Try.underlying22 Try.underlying99 Try.underlying9 Try.underlying9 (by kernel_rfl) (by kernel_rfl) (by kernel_rfl)
  obtain ⟨A2, b, m, c2, rfl, hmb, hc2, hb2, hr2, hs2, _⟩ := h1.props Try.underlying22 Try.underlying99 Try.underlying9 Try.underlying9 (by kernel_rfl) (by kernel_rfl) (by kernel_rfl)
  obtain ⟨A3, c, q, c3, rfl, hqc, hc3, hb3, hr3, hs3, _⟩ := h2.props Try.underlying22 Try.underlying99 Try.underlying9 Try.underlying9 (by kernel_rfl) (by kernel_rfl) (by kernel_rfl)
  exact propsOver_any a b c n m q hna hmb hqc A1 A2 A3 c1 c2 c3 W hr1 hr2 hr3 hs1 hs2 hs3 (by omega) (by omega) (by omega)

theorem propsOver_spec {H : Type} {enc : TypeId × Value → H} (vs : List Value) (ds : List (DataW H)) (W : World) (p : List MemPlace) (h : DataW.TrodAll enc Try.prog W 0 (fun _ => true) true [22, 22, 22] vs ds p) :
    (Rows.propsOverSpec.fn H ds).results = [.lit (.bool true)] ∧ (Rows.propsOverSpec.fn H ds).args = ds ∧ (Rows.propsOverSpec.fn H ds).vars = [] := by
  obtain ⟨_, _, d0, ds0, _, _, rfl, rfl, _, _, r0⟩ := trodAll_cons h
  obtain ⟨_, _, d1, ds1, _, _, rfl, rfl, _, _, r1⟩ := trodAll_cons r0
  obtain ⟨_, _, d2, ds2, _, _, rfl, rfl, _, _, r2⟩ := trodAll_cons r1
  obtain ⟨rfl, rfl, rfl⟩ := trodAll_nil r2
  exact ⟨rfl, rfl, rfl⟩

set_option maxRecDepth 100000 in
theorem propsOver_lifted (os : Os) (started : os.Started) (H : Type) (enc : TypeId × Value → H) :
    ReturnsInHanded {} Try.checked os 7 .any (Rows.propsOverSpec.pre6 enc Try.prog Try.f7 Rows.propsOverRow.domain false) (Rows.propsOverSpec.post enc Try.prog Try.f7 false true false false) := by
  refine returnsInHanded_of_change_sized (C := Try.checked) Try.own started (by kernel_rfl) Try.func7
    (ChangeSpec.witness6 (enc := enc) (C := Try.checked) false ⟨#[], #[.slice none 0 0, .slice none 0 0, .slice none 0 0], []⟩ 8 (by kernel_rfl) (by kernel_rfl) (by kernel_rfl) (by kernel_rfl)) ?_
  intro W base args ds gs before hval hW _ hsz _
  exact law_contract Try.laidOut Try.underlying4 (ps := [22, 22, 22]) rfl rfl rfl (by kernel_rfl) propsOver_spec W base args ds gs before hval hW hsz (fun h _ => propsOver_core H enc W args ds h)

theorem propsOver_holds : Rows.PropsOverSaid :=
  OpenClaim.holds_of_wide 7 Try.f7 rfl rfl rfl rfl rfl rfl rfl ⟨rfl, rfl, rfl, rfl, rfl⟩ rfl rfl rfl rfl rfl (by kernel_rfl) Try.func7 (by kernel_rfl)
    (of_decide_eq_true (by kernel_rfl)) (by unfold Func.isWrapper; first | (rw [if_pos (by decide +kernel)]; kernel_rfl) | (rw [if_neg (by decide +kernel)]; exact ⟨rfl, rfl⟩))
    (fun os started H enc _ => propsOver_lifted os started H enc)

end Go.Proofs.Ythfjfkjlgdnohaa
