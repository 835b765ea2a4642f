/-
  StreamBackSaid: a stream is read; its records done to the base make the snapshot; its begin names it. No condition.
-/
import Derived.Test.YtcbeadldieeceaaStBackWy
import Derived.Test.YtcbeadldieeceaaZ27
namespace Go.Proofs.Ytcbeadldieeceaa
open Go.RowKit Go.ChangeShapes Go.WideShapes Go.ChangeAt

theorem streamBack_core (H : Type) (enc : TypeId × Value → H) (W : World) (args : Array Value) (ds : List (DataW H)) (h : ArgsIn enc Try.prog W [26, 26, 4] args.toList ds) :
    LawCalls Try.prog 6 args W := by
  obtain ⟨v0, v1, v2, d0, d1, d2, rfl, rfl, h0, h1, h2⟩ := argsIn3 h
  obtain ⟨x, rfl, hx, sx⟩ := h0.snap
  obtain ⟨y, rfl, hy, sy⟩ := h1.snap
  obtain ⟨full, rfl⟩ := h2.bool Try.underlying4
  exact streamBack_any x y full W hx hy sx sy

theorem streamBack_spec {H : Type} {enc : TypeId × Value → H} (vs : List Value) (ds : List (DataW H)) (W : World) (p : List MemPlace) (h : DataW.TrodAll enc Try.prog W 0 (fun _ => true) true [26, 26, 4] vs ds p) :
    (Rows.streamBackSpec.fn H ds).results = [.lit (.bool true)] ∧ (Rows.streamBackSpec.fn H ds).args = ds ∧ (Rows.streamBackSpec.fn H ds).vars = [] := by
  obtain ⟨_, _, d0, ds0, _, _, rfl, rfl, _, _, r0⟩ := trodAll_cons h
  obtain ⟨_, _, d1, ds1, _, _, rfl, rfl, _, _, r1⟩ := trodAll_cons r0
  obtain ⟨_, _, d2, ds2, _, _, rfl, rfl, _, _, r2⟩ := trodAll_cons r1
  obtain ⟨rfl, rfl, rfl⟩ := trodAll_nil r2
  exact ⟨rfl, rfl, rfl⟩

set_option maxRecDepth 100000 in
theorem streamBack_lifted (os : Os) (started : os.Started) (H : Type) (enc : TypeId × Value → H) :
    ReturnsInHanded {} Try.checked os 6 .any (Rows.streamBackSpec.pre6 enc Try.prog Try.f6 Rows.streamBackRow.domain false) (Rows.streamBackSpec.post enc Try.prog Try.f6 false true false false) := by
  refine returnsInHanded_of_change_sized (C := Try.checked) Try.own started (by kernel_rfl) Try.func6
    (ChangeSpec.witness6 (enc := enc) (C := Try.checked) false ⟨#[], #[.agg #[.string ⟨#[]⟩, .int .i64 0, .slice none 0 0, .slice none 0 0, .slice none 0 0], .agg #[.string ⟨#[]⟩, .int .i64 0, .slice none 0 0, .slice none 0 0, .slice none 0 0], .bool false], []⟩ 8 (by kernel_rfl) (by kernel_rfl) (by kernel_rfl) (by kernel_rfl)) ?_
  intro W base args ds gs before hval hW _ hsz _
  exact law_contract Try.laidOut Try.underlying4 (ps := [26, 26, 4]) rfl rfl rfl (by kernel_rfl) streamBack_spec W base args ds gs before hval hW hsz (fun h _ => streamBack_core H enc W args ds h)

theorem streamBack_holds : Rows.StreamBackSaid :=
  OpenClaim.holds_of_wide 6 Try.f6 rfl rfl rfl rfl rfl rfl rfl ⟨rfl, rfl, rfl, rfl, rfl⟩ rfl rfl rfl rfl rfl (by kernel_rfl) Try.func6 (by kernel_rfl)
    (of_decide_eq_true (by kernel_rfl)) (by unfold Func.isWrapper; first | (rw [if_pos (by decide +kernel)]; kernel_rfl) | (rw [if_neg (by decide +kernel)]; exact ⟨rfl, rfl⟩))
    (fun os started H enc _ => streamBack_lifted os started H enc)

end Go.Proofs.Ytcbeadldieeceaa
