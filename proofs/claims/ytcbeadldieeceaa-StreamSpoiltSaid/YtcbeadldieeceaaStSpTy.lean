/-
  StreamSpoiltSaid: a stream of which one octet is another one is refused. No condition.
-/
import Derived.Test.YtcbeadldieeceaaStSpWy
import Derived.Test.YtcbeadldieeceaaZ27
namespace Go.Proofs.Ytcbeadldieeceaa
open Go.RowKit Go.ChangeShapes Go.WideShapes Go.ChangeAt

theorem streamSpoilt_core (H : Type) (enc : TypeId × Value → H) (W : World) (args : Array Value) (ds : List (DataW H)) (h : ArgsIn enc Try.prog W [26, 26, 4, 3, 5] args.toList ds) :
    LawCalls Try.prog 4 args W := by
  obtain ⟨v0, v1, v2, v3, v4, d0, d1, d2, d3, d4, rfl, rfl, h0, h1, h2, h3, h4⟩ := argsIn5 h
  obtain ⟨x, rfl, hx, sx⟩ := h0.snap
  obtain ⟨y, rfl, hy, sy⟩ := h1.snap
  obtain ⟨full, rfl⟩ := h2.bool Try.underlying4
  obtain ⟨at_, rfl, _⟩ := h3.int Try.underlying3
  obtain ⟨z, rfl, wy⟩ := h4.int Try.underlying5
  simp [Lit.wf, IntKind.min, IntKind.max, IntKind.signed, IntKind.bits] at wy
  have hz : ((UInt8.ofNat z.toNat).toNat : Int) = z := by
    rw [UInt8.toNat_ofNat_of_lt' (by show z.toNat < 256; omega)]
    omega
  have := streamSpoilt_any x y full at_ (UInt8.ofNat z.toNat) W hx hy sx sy
  rw [hz] at this
  exact this

theorem streamSpoilt_spec {H : Type} {enc : TypeId × Value → H} (vs : List Value) (ds : List (DataW H)) (W : World) (p : List MemPlace) (h : DataW.TrodAll enc Try.prog W 0 (fun _ => true) true [26, 26, 4, 3, 5] vs ds p) :
    (Rows.streamSpoiltSpec.fn H ds).results = [.lit (.bool true)] ∧ (Rows.streamSpoiltSpec.fn H ds).args = ds ∧ (Rows.streamSpoiltSpec.fn H ds).vars = [] := by
  obtain ⟨_, _, d0, ds0, _, _, rfl, rfl, _, _, r0⟩ := trodAll_cons h
  obtain ⟨_, _, d1, ds1, _, _, rfl, rfl, _, _, r1⟩ := trodAll_cons r0
  obtain ⟨_, _, d2, ds2, _, _, rfl, rfl, _, _, r2⟩ := trodAll_cons r1
  obtain ⟨_, _, d3, ds3, _, _, rfl, rfl, _, _, r3⟩ := trodAll_cons r2
  obtain ⟨_, _, d4, ds4, _, _, rfl, rfl, _, _, r4⟩ := trodAll_cons r3
  obtain ⟨rfl, rfl, rfl⟩ := trodAll_nil r4
  exact ⟨rfl, rfl, rfl⟩

set_option maxRecDepth 100000 in
theorem streamSpoilt_lifted (os : Os) (started : os.Started) (H : Type) (enc : TypeId × Value → H) :
    ReturnsInHanded {} Try.checked os 4 .any (Rows.streamSpoiltSpec.pre6 enc Try.prog Try.f4 Rows.streamSpoiltRow.domain false) (Rows.streamSpoiltSpec.post enc Try.prog Try.f4 false true false false) := by
  refine returnsInHanded_of_change_sized (C := Try.checked) Try.own started (by kernel_rfl) Try.func4
    (ChangeSpec.witness6 (enc := enc) (C := Try.checked) false ⟨#[], #[.agg #[.string ⟨#[]⟩, .int .i64 0, .slice none 0 0, .slice none 0 0, .slice none 0 0], .agg #[.string ⟨#[]⟩, .int .i64 0, .slice none 0 0, .slice none 0 0, .slice none 0 0], .bool false, .int .i64 0, .int .u8 0], []⟩ 8 (by kernel_rfl) (by kernel_rfl) (by kernel_rfl) (by kernel_rfl)) ?_
  intro W base args ds gs before hval hW _ hsz _
  exact law_contract Try.laidOut Try.underlying4 (ps := [26, 26, 4, 3, 5]) rfl rfl rfl (by kernel_rfl) streamSpoilt_spec W base args ds gs before hval hW hsz (fun h _ => streamSpoilt_core H enc W args ds h)

theorem streamSpoilt_holds : Rows.StreamSpoiltSaid :=
  OpenClaim.holds_of_wide 4 Try.f4 rfl rfl rfl rfl rfl rfl rfl ⟨rfl, rfl, rfl, rfl, rfl⟩ rfl rfl rfl rfl rfl (by kernel_rfl) Try.func4 (by kernel_rfl)
    (of_decide_eq_true (by kernel_rfl)) (by unfold Func.isWrapper; first | (rw [if_pos (by decide +kernel)]; kernel_rfl) | (rw [if_neg (by decide +kernel)]; exact ⟨rfl, rfl⟩))
    (fun os started H enc _ => streamSpoilt_lifted os started H enc)

end Go.Proofs.Ytcbeadldieeceaa
