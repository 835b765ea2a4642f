/-
  BlocksTellsUptoSaid: whether any content may be, a block of it, it with one, without some, as octets, and any octets as one, are as the page says; condition: the arguments hold together at most 1048576 values and letters.
-/
import Derived.Test.YtfknlijbphoceaaTl3
import Derived.Test.YtfknlijbphoceaaBkArg
namespace Go.Proofs.Ytfknlijbphoceaa
open Go.RowKit Go.ChangeShapes Go.WideShapes Go.ChangeAt

theorem blocksTells_core (H : Type) (enc : TypeId × Value → H) (W : World) (args : Array Value) (ds : List (DataW H)) (h : ArgsIn enc Try.prog W [22, 3, 3, 9, 47] args.toList ds) (hk : Rows.uptoBulkAll ds ≤ 1048576) :
    LawCalls Try.prog 7 args W := by
  obtain ⟨v0, v1, v2, v3, v4, d0, d1, d2, d3, d4, rfl, rfl, h0, h1, h2, h3, h4⟩ := argsIn5 h
  obtain ⟨A, l, n, c, rfl, hnl, hc, hcm, hr, e1⟩ := h0.blocks Try.underlying22 Try.underlying30 Try.underlying3 Try.underlying9 (by kernel_rfl) (by kernel_rfl)
  obtain ⟨i, rfl, _⟩ := h1.int Try.underlying3
  obtain ⟨cn, rfl, _⟩ := h2.int Try.underlying3
  obtain ⟨s, rfl, _, _⟩ := h3.string Try.underlying9
  obtain ⟨A', b, c', rfl, hc', hc2', hr', hd4⟩ := h4.bytes Try.underlying47 Try.underlying5 (by kernel_rfl) (by kernel_rfl)
  have e4 := bulk_bytes hd4
  simp only [Rows.uptoBulkAll] at hk
  have := blocksTells_any l n hnl A c hc (by unfold maxLen at hcm; omega) i cn s.data.toList b b.length rfl A' c' hc' (by omega) W hr hr' (by omega) (by omega)
  simpa using this

theorem blocksTells_spec {H : Type} {enc : TypeId × Value → H} (vs : List Value) (ds : List (DataW H)) (W : World) (p : List MemPlace) (h : DataW.TrodAll enc Try.prog W 0 (fun _ => true) true [22, 3, 3, 9, 47] vs ds p) :
    (Rows.blocksTellsSpec.fn H ds).results = [.lit (.bool true)] ∧ (Rows.blocksTellsSpec.fn H ds).args = ds ∧ (Rows.blocksTellsSpec.fn H ds).vars = [] := by
  obtain ⟨_, _, d0, ds0, _, _, rfl, rfl, _, _, r0⟩ := trodAll_cons h
  obtain ⟨_, _, d1, ds1, _, _, rfl, rfl, _, _, r1⟩ := trodAll_cons r0
  obtain ⟨_, _, d2, ds2, _, _, rfl, rfl, _, _, r2⟩ := trodAll_cons r1
  obtain ⟨_, _, d3, ds3, _, _, rfl, rfl, _, _, r3⟩ := trodAll_cons r2
  obtain ⟨_, _, d4, ds4, _, _, rfl, rfl, _, _, r4⟩ := trodAll_cons r3
  obtain ⟨rfl, rfl, rfl⟩ := trodAll_nil r4
  exact ⟨rfl, rfl, rfl⟩

set_option maxRecDepth 100000 in
theorem blocksTells_lifted (os : Os) (started : os.Started) (H : Type) (enc : TypeId × Value → H) (F : Stop.Interp) :
    ReturnsInHanded {} Try.checked os 7 .any ((Rows.OpenSpec.upto Rows.blocksTellsSpec).pre6 enc Try.prog Try.f7 Rows.blocksTellsUptoRow.domain false) (((Rows.OpenSpec.upto Rows.blocksTellsSpec).at F).post enc Try.prog Try.f7 false true false false) := by
  refine returnsInHanded_of_cond_sized (C := Try.checked) (s := Rows.OpenSpec.upto Rows.blocksTellsSpec) (k := Rows.uptoSmall) rfl Try.own started (by kernel_rfl) Try.func7
    (OpenSpec.witness (enc := enc) (C := Try.checked) (s := Rows.OpenSpec.upto Rows.blocksTellsSpec) (k := Rows.uptoSmall) rfl false ⟨#[], #[.slice none 0 0, .int .i64 0, .int .i64 0, .string ByteArray.empty, .slice none 0 0], []⟩ 8 (by kernel_rfl) (by kernel_rfl) (by kernel_rfl)
      (x := ([.nil, .lit (.int .i64 0), .lit (.int .i64 0), .lit (.string []), .nil], [], [])) (by kernel_rfl) rfl (by kernel_rfl)) ?_
  intro W base args ds gs before hval hW _ hk hsz _
  refine law_contract (s := Rows.blocksTellsSpec) Try.laidOut Try.underlying4 (ps := [22, 3, 3, 9, 47]) rfl rfl rfl (by kernel_rfl) blocksTells_spec W base args ds gs before hval hW hsz (fun h hg => ?_)
  subst hg
  exact blocksTells_core H enc W args ds h (of_decide_eq_true (show decide (Rows.uptoBulkAll ds ≤ 1048576) = true from by rw [List.append_nil] at hk; exact hk))

theorem blocksTells_holds : Rows.BlocksTellsUptoSaid :=
  OpenClaim.holds_of_cond 7 Try.f7 rfl rfl rfl rfl rfl rfl rfl ⟨rfl, rfl, rfl, rfl, rfl⟩ rfl rfl rfl rfl rfl (by kernel_rfl) Try.func7 (by kernel_rfl)
    (of_decide_eq_true (by kernel_rfl)) (by unfold Func.isWrapper; first | (rw [if_pos (by decide +kernel)]; kernel_rfl) | (rw [if_neg (by decide +kernel)]; exact ⟨rfl, rfl⟩))
    (fun os started H enc _ F => blocksTells_lifted os started H enc F)

end Go.Proofs.Ytfknlijbphoceaa
