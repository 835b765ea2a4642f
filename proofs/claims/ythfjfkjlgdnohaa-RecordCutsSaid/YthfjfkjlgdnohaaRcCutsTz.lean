/-
  RecordCutsSaid: a beginning of a record's octets is told to be too short. No condition.
-/
import Derived.Test.YthfjfkjlgdnohaaZ16
namespace Go.Proofs.Ythfjfkjlgdnohaa
open Go.RowKit Go.ChangeShapes Go.WideShapes Go.ChangeAt

theorem ArgIn.i64arg {H : Type} {enc : TypeId × Value → H} {P : Program} {W : World} {t : TypeId} {v : Value} {d : DataW H} (ht : P.underlying t = some (.int .i64)) (h : ArgIn enc P W t v d) : ∃ n, v = .int .i64 n := by
  obtain ⟨⟨base, ho⟩, _, _⟩ := h
  exact okWide_int ht ho
theorem recordCuts_core (H : Type) (enc : TypeId × Value → H) (W : World) (args : Array Value) (ds : List (DataW H)) (h : ArgsIn enc Try.prog W [27, 3] args.toList ds) :
    LawCalls Try.prog 6 args W := by
  obtain ⟨v0, v1, d0, d1, rfl, rfl, h0, h1⟩ := argsIn2 h
  obtain ⟨r, A, n, c, rfl, hg, _⟩ := h0.record
  obtain ⟨t, rfl⟩ := h1.i64arg Try.underlying3
  exact recordCuts_any r A n c t W hg

theorem recordCuts_spec {H : Type} {enc : TypeId × Value → H} (vs : List Value) (ds : List (DataW H)) (W : World) (p : List MemPlace) (h : DataW.TrodAll enc Try.prog W 0 (fun _ => true) true [27, 3] vs ds p) :
    (Rows.recordCutsSpec.fn H ds).results = [.lit (.bool true)] ∧ (Rows.recordCutsSpec.fn H ds).args = ds ∧ (Rows.recordCutsSpec.fn H ds).vars = [] := by
  obtain ⟨_, _, d0, ds0, _, _, rfl, rfl, _, _, r0⟩ := trodAll_cons h
  obtain ⟨_, _, d1, ds1, _, _, rfl, rfl, _, _, r1⟩ := trodAll_cons r0
  obtain ⟨rfl, rfl, rfl⟩ := trodAll_nil r1
  exact ⟨rfl, rfl, rfl⟩

set_option maxRecDepth 100000 in
theorem recordCuts_lifted (os : Os) (started : os.Started) (H : Type) (enc : TypeId × Value → H) :
    ReturnsInHanded {} Try.checked os 6 .any (Rows.recordCutsSpec.pre6 enc Try.prog Try.f6 Rows.recordCutsRow.domain false) (Rows.recordCutsSpec.post enc Try.prog Try.f6 false true false false) := by
  refine returnsInHanded_of_change_sized (C := Try.checked) Try.own started (by kernel_rfl) Try.func6
    (ChangeSpec.witness6 (enc := enc) (C := Try.checked) false ⟨#[], #[.agg #[.int .i64 0, .string ⟨#[]⟩, .int .i64 0, .int .i64 0, .slice none 0 0, .int .i64 0, .int .i64 0, .string ⟨#[]⟩, .int .u64 0, .int .u64 0, .int .u64 0, .int .u64 0], .int .i64 0], []⟩ 8 (by kernel_rfl) (by kernel_rfl) (by kernel_rfl) (by kernel_rfl)) ?_
  intro W base args ds gs before hval hW _ hsz _
  exact law_contract Try.laidOut Try.underlying4 (ps := [27, 3]) rfl rfl rfl (by kernel_rfl) recordCuts_spec W base args ds gs before hval hW hsz (fun h _ => recordCuts_core H enc W args ds h)

theorem recordCuts_holds : Rows.RecordCutsSaid :=
  OpenClaim.holds_of_wide 6 Try.f6 rfl rfl rfl rfl rfl rfl rfl ⟨rfl, rfl, rfl, rfl, rfl⟩ rfl rfl rfl rfl rfl (by kernel_rfl) Try.func6 (by kernel_rfl)
    (of_decide_eq_true (by kernel_rfl)) (by unfold Func.isWrapper; first | (rw [if_pos (by decide +kernel)]; kernel_rfl) | (rw [if_neg (by decide +kernel)]; exact ⟨rfl, rfl⟩))
    (fun os started H enc _ => recordCuts_lifted os started H enc)

end Go.Proofs.Ythfjfkjlgdnohaa
