/-
  PropsTellsSaid: what the code does with properties is as the page says. No condition.
-/
import Derived.Test.YthfjfkjlgdnohaaPrTells
namespace Go.Proofs.Ythfjfkjlgdnohaa
open Go.RowKit Go.ChangeShapes Go.WideShapes Go.ChangeAt

theorem propsTells_core (H : Type) (enc : TypeId × Value → H) (W : World) (args : Array Value) (ds : List (DataW H)) (h : ArgsIn enc Try.prog W [22, 9, 9] args.toList ds) :
    LawCalls Try.prog 13 args W := by
  obtain ⟨v0, v1, v2, d0, d1, d2, rfl, rfl, h0, h1, h2⟩ := argsIn3 h
  obtain ⟨A1, a, n, c1, rfl, hna, hc1, hb1, hr1, hs1, _⟩ := h0.props Try.underlying22 Try.underlying99 Try.underlying9 Try.underlying9 (by kernel_rfl) (by kernel_rfl) (by kernel_rfl)
  obtain ⟨s, rfl, hs, _⟩ := h1.string Try.underlying9
  obtain ⟨t, rfl, ht, _⟩ := h2.string Try.underlying9
  have hs' : s.data.toList.length ≤ 140737488351232 := by rw [← Lib.size_eq s]; exact hs
  have ht' : t.data.toList.length ≤ 140737488351232 := by rw [← Lib.size_eq t]; exact ht
  have := propsTells_any a s.data.toList t.data.toList n hna A1 c1 W hr1 hs1 hs' ht' (by omega)
  simpa using this


theorem propsTells_spec {H : Type} {enc : TypeId × Value → H} (vs : List Value) (ds : List (DataW H)) (W : World) (p : List MemPlace) (h : DataW.TrodAll enc Try.prog W 0 (fun _ => true) true [22, 9, 9] vs ds p) :
    (Rows.propsTellsSpec.fn H ds).results = [.lit (.bool true)] ∧ (Rows.propsTellsSpec.fn H ds).args = ds ∧ (Rows.propsTellsSpec.fn H ds).vars = [] := by
  obtain ⟨_, _, d0, ds0, _, _, rfl, rfl, _, _, r0⟩ := trodAll_cons h
  obtain ⟨_, _, d1, ds1, _, _, rfl, rfl, _, _, r1⟩ := trodAll_cons r0
  obtain ⟨_, _, d2, ds2, _, _, rfl, rfl, _, _, r2⟩ := trodAll_cons r1
  obtain ⟨rfl, rfl, rfl⟩ := trodAll_nil r2
  exact ⟨rfl, rfl, rfl⟩

set_option maxRecDepth 100000 in
theorem propsTells_lifted (os : Os) (started : os.Started) (H : Type) (enc : TypeId × Value → H) :
    ReturnsInHanded {} Try.checked os 13 .any (Rows.propsTellsSpec.pre6 enc Try.prog Try.f13 Rows.propsTellsRow.domain false) (Rows.propsTellsSpec.post enc Try.prog Try.f13 false true false false) := by
  refine returnsInHanded_of_change_sized (C := Try.checked) Try.own started (by kernel_rfl) Try.func13
    (ChangeSpec.witness6 (enc := enc) (C := Try.checked) false ⟨#[], #[.slice none 0 0, .string ByteArray.empty, .string ByteArray.empty], []⟩ 8 (by kernel_rfl) (by kernel_rfl) (by kernel_rfl) (by kernel_rfl)) ?_
  intro W base args ds gs before hval hW _ hsz _
  exact law_contract Try.laidOut Try.underlying4 (ps := [22, 9, 9]) rfl rfl rfl (by kernel_rfl) propsTells_spec W base args ds gs before hval hW hsz (fun h _ => propsTells_core H enc W args ds h)

theorem propsTells_holds : Rows.PropsTellsSaid :=
  OpenClaim.holds_of_wide 13 Try.f13 rfl rfl rfl rfl rfl rfl rfl ⟨rfl, rfl, rfl, rfl, rfl⟩ rfl rfl rfl rfl rfl (by kernel_rfl) Try.func13 (by kernel_rfl)
    (of_decide_eq_true (by kernel_rfl)) (by unfold Func.isWrapper; first | (rw [if_pos (by decide +kernel)]; kernel_rfl) | (rw [if_neg (by decide +kernel)]; exact ⟨rfl, rfl⟩))
    (fun os started H enc _ => propsTells_lifted os started H enc)

end Go.Proofs.Ythfjfkjlgdnohaa
