/-
  RecordOctetsSaid: octets that are a record's are the octets of it. No condition.
-/
import Derived.Test.YthfjfkjlgdnohaaZ16
namespace Go.Proofs.Ythfjfkjlgdnohaa
open Go.RowKit Go.ChangeShapes Go.WideShapes Go.ChangeAt

theorem recordOctets_core (H : Type) (enc : TypeId × Value → H) (W : World) (args : Array Value) (ds : List (DataW H)) (h : ArgsIn enc Try.prog W [28] args.toList ds) :
    LawCalls Try.prog 5 args W := by
  obtain ⟨v0, d0, rfl, rfl, h0⟩ := argsIn1 h
  obtain ⟨A, b, n, c, rfl, hn, hc, hcm, _, hr⟩ := h0.u8s
  exact recordOctets_any b n hn A c hc hcm W hr

theorem recordOctets_spec {H : Type} {enc : TypeId × Value → H} (vs : List Value) (ds : List (DataW H)) (W : World) (p : List MemPlace) (h : DataW.TrodAll enc Try.prog W 0 (fun _ => true) true [28] vs ds p) :
    (Rows.recordOctetsSpec.fn H ds).results = [.lit (.bool true)] ∧ (Rows.recordOctetsSpec.fn H ds).args = ds ∧ (Rows.recordOctetsSpec.fn H ds).vars = [] := by
  obtain ⟨_, _, d0, ds0, _, _, rfl, rfl, _, _, r0⟩ := trodAll_cons h
  obtain ⟨rfl, rfl, rfl⟩ := trodAll_nil r0
  exact ⟨rfl, rfl, rfl⟩

set_option maxRecDepth 100000 in
theorem recordOctets_lifted (os : Os) (started : os.Started) (H : Type) (enc : TypeId × Value → H) :
    ReturnsInHanded {} Try.checked os 5 .any (Rows.recordOctetsSpec.pre6 enc Try.prog Try.f5 Rows.recordOctetsRow.domain false) (Rows.recordOctetsSpec.post enc Try.prog Try.f5 false true false false) := by
  refine returnsInHanded_of_change_sized (C := Try.checked) Try.own started (by kernel_rfl) Try.func5
    (ChangeSpec.witness6 (enc := enc) (C := Try.checked) false ⟨#[], #[.slice none 0 0], []⟩ 8 (by kernel_rfl) (by kernel_rfl) (by kernel_rfl) (by kernel_rfl)) ?_
  intro W base args ds gs before hval hW _ hsz _
  exact law_contract Try.laidOut Try.underlying4 (ps := [28]) rfl rfl rfl (by kernel_rfl) recordOctets_spec W base args ds gs before hval hW hsz (fun h _ => recordOctets_core H enc W args ds h)

theorem recordOctets_holds : Rows.RecordOctetsSaid :=
  OpenClaim.holds_of_wide 5 Try.f5 rfl rfl rfl rfl rfl rfl rfl ⟨rfl, rfl, rfl, rfl, rfl⟩ rfl rfl rfl rfl rfl (by kernel_rfl) Try.func5 (by kernel_rfl)
    (of_decide_eq_true (by kernel_rfl)) (by unfold Func.isWrapper; first | (rw [if_pos (by decide +kernel)]; kernel_rfl) | (rw [if_neg (by decide +kernel)]; exact ⟨rfl, rfl⟩))
    (fun os started H enc _ => recordOctets_lifted os started H enc)

end Go.Proofs.Ythfjfkjlgdnohaa
