/-
  FletchBackSaid: a sum comes back from its octets. No condition.
-/
import Derived.Test.YtcchnoadclidcaaFl3
import Derived.Test.YtcchnoadclidcaaOctets
import Derived.Test.YtcchnoadclidcaaRead
namespace Go.Proofs.Ytcchnoadclidcaa
open Go.RowKit Go.ChangeShapes Go.WideShapes Go.ChangeAt

/-! ### The plain law -/
theorem putL8 (n : Int) : putL n 8 = [toByte (n / 256 / 256 / 256 / 256 / 256 / 256 / 256), toByte (n / 256 / 256 / 256 / 256 / 256 / 256), toByte (n / 256 / 256 / 256 / 256 / 256), toByte (n / 256 / 256 / 256 / 256), toByte (n / 256 / 256 / 256), toByte (n / 256 / 256), toByte (n / 256), toByte n] := by
  simp [putL, putF, bkDown, putStep, List.range, List.range.loop, List.replicate]
theorem numN_putL8 (n : Int) : (numN (putL n 8) : Int) = n % 18446744073709551616 := by
  rw [putL8]
  simp only [numN, List.foldl_cons, List.foldl_nil, Int.natCast_add, Int.natCast_mul, toByte_int]
  omega
theorem octAt_octL (sa sb sc sd : Int) : octAt (octL sa sb sc sd) 0 = numN (putL (IntKind.i64.wrap sa) 8) ∧ octAt (octL sa sb sc sd) 1 = numN (putL (IntKind.i64.wrap sb) 8) ∧ octAt (octL sa sb sc sd) 2 = numN (putL (IntKind.i64.wrap sc) 8) ∧ octAt (octL sa sb sc sd) 3 = numN (putL (IntKind.i64.wrap sd) 8) := by
  unfold octAt octL
  have h : ∀ n, (putL n 8).length = 8 := fun n => putL_length n 8
  refine ⟨?_, ?_, ?_, ?_⟩ <;> simp [List.drop_append, h, List.drop_eq_nil_of_le, List.take_of_length_le]
theorem wrap_back (x : Int) (h : 0 ≤ x ∧ x < 18446744073709551616) : IntKind.i64.wrap x % 18446744073709551616 = x := by
  rw [IntKind.wrap_i64]; omega
theorem readS_octL (s : Sm) (hs : s.ok) : readS (octL s.a s.b s.c s.d) = s := by
  obtain ⟨sa, sb, sc, sd⟩ := s
  obtain ⟨e0, e1, e2, e3⟩ := octAt_octL sa sb sc sd
  unfold readS
  rw [if_pos (octL_length _ _ _ _), e0, e1, e2, e3, numN_putL8, numN_putL8, numN_putL8, numN_putL8, wrap_back _ hs.a, wrap_back _ hs.b, wrap_back _ hs.c, wrap_back _ hs.d]
theorem readE_octL (sa sb sc sd : Int) : readE (octL sa sb sc sd) = 0 := by simp [readE, octL_length]

theorem num4_any (x : Int) (w : World) : Calls Try.prog 29 #[.int .i64 x] w fun e w' => e = .returned (.int .i64 x) ∧ w = w' := by
  go_enter Try.func29, Try.ntmps29
  go_wp2_with fail
  go_ret
  exact ⟨rfl, rfl⟩

set_option maxRecDepth 100000 in
theorem fletchBack_any (s : Sm) (hs : s.ok) (w : World) : LawCalls Try.prog 7 #[s.val] w := by
  have hS := Lib.hid (readS_octL s hs)
  have hE := Lib.hid (readE_octL s.a s.b s.c s.d)
  have ho : ∀ W, Calls Try.prog 32 #[s.val] W fun e w' => ∃ A c, e = .returned (.slice A 32 c) ∧ 32 ≤ c ∧ c ≤ maxLen ∧ Reads w' w'.heap.size 1 A 32 (bts (octL s.a s.b s.c s.d)) ∧ Below W.heap.size W w' := fun W => (octets_any s W).mono (by
    rintro e w' ⟨v, rfl, hown, hb⟩
    obtain ⟨A, c, rfl, h1, h2, h3⟩ := own_form hown
    exact ⟨A, c, rfl, h1, h2, h3, hb⟩)
  obtain ⟨sa, sb, sc, sd⟩ := s
  show Calls _ _ #[.agg #[.int .u64 sa, .int .u64 sb, .int .u64 sc, .int .u64 sd]] _ _
  go_enter Try.func7, Try.ntmps7
  go_wp2_with fail
  refine (ho _).mono ?_
  rintro e w1 ⟨A, c, rfl, h1, h2, hr, hb1⟩
  simp only []
  have hk : Blk w1 w.heap.size 24 #[.int .u64 sa, .int .u64 sb, .int .u64 sc, .int .u64 sd] := (Blk.new w _ _).below hb1 (by simp)
  have hb : Below w.heap.size w w1 := ((Below.refl _ _).alloc (Nat.le_refl _) _).trans (hb1.mono (by simp))
  clear hb1 ho
  go_wp2_with fail
  refine (read_any (octL sa sb sc sd) 32 (octL_length _ _ _ _).symm A c w1 w1.heap.size hr (Nat.le_refl _) h1 (by unfold maxLen at h2; omega)).mono ?_
  rintro e w2 ⟨rfl, hb2⟩
  rw [hS.out, hE.out]
  simp only [Sm.val]
  have hk2 := hk.below hb2 hk.lt
  have hbb : Below w.heap.size w w2 := hb.trans (hb2.mono hb.size)
  clear hk hb hb2 hr
  obtain ⟨d0, d1, d2, d3, f0, f1, f2, f3⟩ := blk4 hk2
  have hlt := hk2.lt
  clear hk2 f0 f1 f2 f3
  go_wp2_with fail
  refine (num4_any 0 _).mono ?_
  rintro e w3 ⟨rfl, rfl⟩
  go_wp2_with fail
  refine (alive4_any _).mono ?_
  rintro e w4 ⟨rfl, hb4⟩
  go_wp2_with fail
  go_ret
  exact ⟨rfl, (hbb.alloc (by omega) _).trans (hb4.mono (by simp; omega))⟩

theorem fletchBack_core (H : Type) (enc : TypeId × Value → H) (W : World) (args : Array Value) (ds : List (DataW H)) (h : ArgsIn enc Try.prog W [24] args.toList ds) :
    LawCalls Try.prog 7 args W := by
  obtain ⟨v0, d0, rfl, rfl, h0⟩ := argsIn1 h
  obtain ⟨s, rfl, hs⟩ := h0.sum Try.underlying24 ⟨rfl, rfl, rfl, rfl⟩ Try.underlying22 (by kernel_rfl) (by kernel_rfl)
  exact fletchBack_any s hs W

theorem fletchBack_spec {H : Type} {enc : TypeId × Value → H} (vs : List Value) (ds : List (DataW H)) (W : World) (p : List MemPlace) (h : DataW.TrodAll enc Try.prog W 0 (fun _ => true) true [24] vs ds p) :
    (Rows.fletchBackSpec.fn H ds).results = [.lit (.bool true)] ∧ (Rows.fletchBackSpec.fn H ds).args = ds ∧ (Rows.fletchBackSpec.fn H ds).vars = [] := by
  obtain ⟨_, _, d0, ds0, _, _, rfl, rfl, _, _, r0⟩ := trodAll_cons h
  obtain ⟨rfl, rfl, rfl⟩ := trodAll_nil r0
  exact ⟨rfl, rfl, rfl⟩

set_option maxRecDepth 100000 in
theorem fletchBack_lifted (os : Os) (started : os.Started) (H : Type) (enc : TypeId × Value → H) :
    ReturnsInHanded {} Try.checked os 7 .any (Rows.fletchBackSpec.pre6 enc Try.prog Try.f7 Rows.fletchBackRow.domain false) (Rows.fletchBackSpec.post enc Try.prog Try.f7 false true false false) := by
  refine returnsInHanded_of_change_sized (C := Try.checked) Try.own started (by kernel_rfl) Try.func7
    (ChangeSpec.witness6 (enc := enc) (C := Try.checked) false ⟨#[], #[.agg #[.int .u64 0, .int .u64 0, .int .u64 0, .int .u64 0]], []⟩ 8 (by kernel_rfl) (by kernel_rfl) (by kernel_rfl) (by kernel_rfl)) ?_
  intro W base args ds gs before hval hW _ hsz _
  exact law_contract Try.laidOut Try.underlying4 (ps := [24]) rfl rfl rfl (by kernel_rfl) fletchBack_spec W base args ds gs before hval hW hsz (fun h _ => fletchBack_core H enc W args ds h)

theorem fletchBack_holds : Rows.FletchBackSaid :=
  OpenClaim.holds_of_wide 7 Try.f7 rfl rfl rfl rfl rfl rfl rfl ⟨rfl, rfl, rfl, rfl, rfl⟩ rfl rfl rfl rfl rfl (by kernel_rfl) Try.func7 (by kernel_rfl)
    (of_decide_eq_true (by kernel_rfl)) (by unfold Func.isWrapper; first | (rw [if_pos (by decide +kernel)]; kernel_rfl) | (rw [if_neg (by decide +kernel)]; exact ⟨rfl, rfl⟩))
    (fun os started H enc _ => fletchBack_lifted os started H enc)

end Go.Proofs.Ytcchnoadclidcaa
