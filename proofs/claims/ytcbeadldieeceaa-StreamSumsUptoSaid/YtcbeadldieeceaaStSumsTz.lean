/-
  StreamSumsUptoSaid: the sum of records, one by one, is that of their octets, each filled up to whole words. Condition: the arguments hold together at most 1048576 values and letters.
-/
import Derived.Test.YtcbeadldieeceaaZ27
namespace Go.Proofs.Ytcbeadldieeceaa
open Go.RowKit Go.ChangeShapes Go.WideShapes Go.ChangeAt

theorem streamSums_core (H : Type) (enc : TypeId × Value → H) (W : World) (args : Array Value) (ds : List (DataW H)) (h : ArgsIn enc Try.prog W [36] args.toList ds) (hk : Rows.uptoBulkAll ds ≤ 1048576) :
    LawCalls Try.prog 5 args W := by
  obtain ⟨v0, d0, rfl, rfl, h0⟩ := argsIn1 h
  obtain ⟨A, l, n, c, rfl, hn, _, hK, hr, hg⟩ := h0.recs
  simp only [Rows.uptoBulkAll] at hk
  exact streamSums_any l n hn A c W hr (by omega) (fun x hx => (hg x hx).1) (fun x hx => (hg x hx).2)

theorem streamSums_spec {H : Type} {enc : TypeId × Value → H} (vs : List Value) (ds : List (DataW H)) (W : World) (p : List MemPlace) (h : DataW.TrodAll enc Try.prog W 0 (fun _ => true) true [36] vs ds p) :
    (Rows.streamSumsSpec.fn H ds).results = [.lit (.bool true)] ∧ (Rows.streamSumsSpec.fn H ds).args = ds ∧ (Rows.streamSumsSpec.fn H ds).vars = [] := by
  obtain ⟨_, _, d0, ds0, _, _, rfl, rfl, _, _, r0⟩ := trodAll_cons h
  obtain ⟨rfl, rfl, rfl⟩ := trodAll_nil r0
  exact ⟨rfl, rfl, rfl⟩

set_option maxRecDepth 100000 in
theorem streamSums_lifted (os : Os) (started : os.Started) (H : Type) (enc : TypeId × Value → H) (F : Stop.Interp) :
    ReturnsInHanded {} Try.checked os 5 .any ((Rows.OpenSpec.upto Rows.streamSumsSpec).pre6 enc Try.prog Try.f5 Rows.streamSumsUptoRow.domain false) (((Rows.OpenSpec.upto Rows.streamSumsSpec).at F).post enc Try.prog Try.f5 false true false false) := by
  refine returnsInHanded_of_cond_sized (C := Try.checked) (s := Rows.OpenSpec.upto Rows.streamSumsSpec) (k := Rows.uptoSmall) rfl Try.own started (by kernel_rfl) Try.func5
    (OpenSpec.witness (enc := enc) (C := Try.checked) (s := Rows.OpenSpec.upto Rows.streamSumsSpec) (k := Rows.uptoSmall) rfl false ⟨#[], #[.slice none 0 0], []⟩ 8 (by kernel_rfl) (by kernel_rfl) (by kernel_rfl)
      (x := ([.nil], [], [])) (by kernel_rfl) rfl (by kernel_rfl)) ?_
  intro W base args ds gs before hval hW _ hk hsz _
  refine law_contract (s := Rows.streamSumsSpec) Try.laidOut Try.underlying4 (ps := [36]) rfl rfl rfl (by kernel_rfl) streamSums_spec W base args ds gs before hval hW hsz (fun h hg => ?_)
  subst hg
  exact streamSums_core H enc W args ds h (of_decide_eq_true (show decide (Rows.uptoBulkAll ds ≤ 1048576) = true from by rw [List.append_nil] at hk; exact hk))

theorem streamSums_holds : Rows.StreamSumsUptoSaid :=
  OpenClaim.holds_of_cond 5 Try.f5 rfl rfl rfl rfl rfl rfl rfl ⟨rfl, rfl, rfl, rfl, rfl⟩ rfl rfl rfl rfl rfl (by kernel_rfl) Try.func5 (by kernel_rfl)
    (of_decide_eq_true (by kernel_rfl)) (by unfold Func.isWrapper; first | (rw [if_pos (by decide +kernel)]; kernel_rfl) | (rw [if_neg (by decide +kernel)]; exact ⟨rfl, rfl⟩))
    (fun os started H enc _ F => streamSums_lifted os started H enc F)

end Go.Proofs.Ytcbeadldieeceaa
