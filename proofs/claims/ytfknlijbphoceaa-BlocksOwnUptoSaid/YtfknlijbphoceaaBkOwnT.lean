/-
  BlocksOwnUptoSaid: what blocks.Put makes shares nothing with the content that is handed in; condition: the arguments hold together at most 1048576 values and letters.
-/
import Derived.Test.YtfknlijbphoceaaBkOwn
import Derived.Test.YtfknlijbphoceaaBkArg
namespace Go.Proofs.Ytfknlijbphoceaa
open Go.RowKit Go.ChangeShapes Go.WideShapes Go.ChangeAt

theorem blocksOwn_core (H : Type) (enc : TypeId × Value → H) (W : World) (args : Array Value) (ds : List (DataW H)) (h : ArgsIn enc Try.prog W [22, 3, 9] args.toList ds) (hk : Rows.uptoBulkAll ds ≤ 1048576) :
    LawCalls Try.prog 3 args W := by
  obtain ⟨v0, v1, v2, d0, d1, d2, rfl, rfl, h0, h1, h2⟩ := argsIn3 h
  obtain ⟨A, l, n, c, rfl, hnl, hc, hcm, hr, e1⟩ := h0.blocks Try.underlying22 Try.underlying30 Try.underlying3 Try.underlying9 (by kernel_rfl) (by kernel_rfl)
  obtain ⟨i, rfl, _⟩ := h1.int Try.underlying3
  obtain ⟨s, rfl, _, _⟩ := h2.string Try.underlying9
  simp only [Rows.uptoBulkAll] at hk
  have := blocksOwn_any l n hnl A c hc (by unfold maxLen at hcm; omega) i s.data.toList W hr (by omega)
  simpa using this

theorem blocksOwn_spec {H : Type} {enc : TypeId × Value → H} (vs : List Value) (ds : List (DataW H)) (W : World) (p : List MemPlace) (h : DataW.TrodAll enc Try.prog W 0 (fun _ => true) true [22, 3, 9] vs ds p) :
    (Rows.blocksOwnSpec.fn H ds).results = [.lit (.bool true)] ∧ (Rows.blocksOwnSpec.fn H ds).args = ds ∧ (Rows.blocksOwnSpec.fn H ds).vars = [] := by
  obtain ⟨_, _, d0, ds0, _, _, rfl, rfl, _, _, r0⟩ := trodAll_cons h
  obtain ⟨_, _, d1, ds1, _, _, rfl, rfl, _, _, r1⟩ := trodAll_cons r0
  obtain ⟨_, _, d2, ds2, _, _, rfl, rfl, _, _, r2⟩ := trodAll_cons r1
  obtain ⟨rfl, rfl, rfl⟩ := trodAll_nil r2
  exact ⟨rfl, rfl, rfl⟩

set_option maxRecDepth 100000 in
theorem blocksOwn_lifted (os : Os) (started : os.Started) (H : Type) (enc : TypeId × Value → H) (F : Stop.Interp) :
    ReturnsInHanded {} Try.checked os 3 .any ((Rows.OpenSpec.upto Rows.blocksOwnSpec).pre6 enc Try.prog Try.f3 Rows.blocksOwnUptoRow.domain false) (((Rows.OpenSpec.upto Rows.blocksOwnSpec).at F).post enc Try.prog Try.f3 false true false false) := by
  refine returnsInHanded_of_cond_sized (C := Try.checked) (s := Rows.OpenSpec.upto Rows.blocksOwnSpec) (k := Rows.uptoSmall) rfl Try.own started (by kernel_rfl) Try.func3
    (OpenSpec.witness (enc := enc) (C := Try.checked) (s := Rows.OpenSpec.upto Rows.blocksOwnSpec) (k := Rows.uptoSmall) rfl false ⟨#[], #[.slice none 0 0, .int .i64 0, .string ByteArray.empty], []⟩ 8 (by kernel_rfl) (by kernel_rfl) (by kernel_rfl)
      (x := ([.nil, .lit (.int .i64 0), .lit (.string [])], [], [])) (by kernel_rfl) rfl (by kernel_rfl)) ?_
  intro W base args ds gs before hval hW _ hk hsz _
  refine law_contract (s := Rows.blocksOwnSpec) Try.laidOut Try.underlying4 (ps := [22, 3, 9]) rfl rfl rfl (by kernel_rfl) blocksOwn_spec W base args ds gs before hval hW hsz (fun h hg => ?_)
  subst hg
  exact blocksOwn_core H enc W args ds h (of_decide_eq_true (show decide (Rows.uptoBulkAll ds ≤ 1048576) = true from by rw [List.append_nil] at hk; exact hk))

theorem blocksOwn_holds : Rows.BlocksOwnUptoSaid :=
  OpenClaim.holds_of_cond 3 Try.f3 rfl rfl rfl rfl rfl rfl rfl ⟨rfl, rfl, rfl, rfl, rfl⟩ rfl rfl rfl rfl rfl (by kernel_rfl) Try.func3 (by kernel_rfl)
    (of_decide_eq_true (by kernel_rfl)) (by unfold Func.isWrapper; first | (rw [if_pos (by decide +kernel)]; kernel_rfl) | (rw [if_neg (by decide +kernel)]; exact ⟨rfl, rfl⟩))
    (fun os started H enc _ F => blocksOwn_lifted os started H enc F)

end Go.Proofs.Ytfknlijbphoceaa
