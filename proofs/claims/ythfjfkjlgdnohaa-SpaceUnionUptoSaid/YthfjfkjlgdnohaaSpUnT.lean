/-
  SpaceUnionUptoSaid: all, rising, each once; condition: the arguments hold together at most 1048576 values and letters.
-/
import Derived.Test.YthfjfkjlgdnohaaSpUn
namespace Go.Proofs.Ythfjfkjlgdnohaa
open Go.RowKit Go.ChangeShapes Go.WideShapes Go.ChangeAt

theorem spaceUnion_core (H : Type) (enc : TypeId × Value → H) (W : World) (args : Array Value) (ds : List (DataW H)) (h : ArgsIn enc Try.prog W [54, 54] args.toList ds) (hk : Rows.uptoBulkAll ds ≤ 1048576) :
    LawCalls Try.prog 9 args W := by
  obtain ⟨v0, v1, d0, d1, rfl, rfl, h0, h1⟩ := argsIn2 h
  obtain ⟨A1, a, n, c1, rfl, hna, hc1, _, hr1, hw1, e1⟩ := h0.ints Try.underlying54 Try.underlying3 (by kernel_rfl) (by kernel_rfl)
  obtain ⟨A2, b, m, c2, rfl, hmb, hc2, _, hr2, hw2, e2⟩ := h1.ints Try.underlying54 Try.underlying3 (by kernel_rfl) (by kernel_rfl)
  simp only [Rows.uptoBulkAll] at hk
  exact spaceUnion_any a b n m hna hmb A1 A2 c1 c2 W hr1 hr2 hw1 hw2 (by omega)

theorem spaceUnion_spec {H : Type} {enc : TypeId × Value → H} (vs : List Value) (ds : List (DataW H)) (W : World) (p : List MemPlace) (h : DataW.TrodAll enc Try.prog W 0 (fun _ => true) true [54, 54] vs ds p) :
    (Rows.spaceUnionSpec.fn H ds).results = [.lit (.bool true)] ∧ (Rows.spaceUnionSpec.fn H ds).args = ds ∧ (Rows.spaceUnionSpec.fn H ds).vars = [] := by
  obtain ⟨_, _, d0, ds0, _, _, rfl, rfl, _, _, r0⟩ := trodAll_cons h
  obtain ⟨_, _, d1, ds1, _, _, rfl, rfl, _, _, r1⟩ := trodAll_cons r0
  obtain ⟨rfl, rfl, rfl⟩ := trodAll_nil r1
  exact ⟨rfl, rfl, rfl⟩

set_option maxRecDepth 100000 in
theorem spaceUnion_lifted (os : Os) (started : os.Started) (H : Type) (enc : TypeId × Value → H) (F : Stop.Interp) :
    ReturnsInHanded {} Try.checked os 9 .any ((Rows.OpenSpec.upto Rows.spaceUnionSpec).pre6 enc Try.prog Try.f9 Rows.spaceUnionUptoRow.domain false) (((Rows.OpenSpec.upto Rows.spaceUnionSpec).at F).post enc Try.prog Try.f9 false true false false) := by
  refine returnsInHanded_of_cond_sized (C := Try.checked) (s := Rows.OpenSpec.upto Rows.spaceUnionSpec) (k := Rows.uptoSmall) rfl Try.own started (by kernel_rfl) Try.func9
    (OpenSpec.witness (enc := enc) (C := Try.checked) (s := Rows.OpenSpec.upto Rows.spaceUnionSpec) (k := Rows.uptoSmall) rfl false ⟨#[], #[.slice none 0 0, .slice none 0 0], []⟩ 8 (by kernel_rfl) (by kernel_rfl) (by kernel_rfl)
      (x := ([.nil, .nil], [], [])) (by kernel_rfl) rfl (by kernel_rfl)) ?_
  intro W base args ds gs before hval hW _ hk hsz _
  refine law_contract (s := Rows.spaceUnionSpec) Try.laidOut Try.underlying4 (ps := [54, 54]) rfl rfl rfl (by kernel_rfl) spaceUnion_spec W base args ds gs before hval hW hsz (fun h hg => ?_)
  subst hg
  exact spaceUnion_core H enc W args ds h (of_decide_eq_true (show decide (Rows.uptoBulkAll ds ≤ 1048576) = true from by rw [List.append_nil] at hk; exact hk))

theorem spaceUnion_holds : Rows.SpaceUnionUptoSaid :=
  OpenClaim.holds_of_cond 9 Try.f9 rfl rfl rfl rfl rfl rfl rfl ⟨rfl, rfl, rfl, rfl, rfl⟩ rfl rfl rfl rfl rfl (by kernel_rfl) Try.func9 (by kernel_rfl)
    (of_decide_eq_true (by kernel_rfl)) (by unfold Func.isWrapper; first | (rw [if_pos (by decide +kernel)]; kernel_rfl) | (rw [if_neg (by decide +kernel)]; exact ⟨rfl, rfl⟩))
    (fun os started H enc _ F => spaceUnion_lifted os started H enc F)

end Go.Proofs.Ythfjfkjlgdnohaa
