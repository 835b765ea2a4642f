/-
  PagesTellsSaid: how many pages any octets need, any page of them, and any sector's, are as the page says. No condition.
-/
import Derived.Test.YtcchnoadclidcaaPAlive
namespace Go.Proofs.Ytcchnoadclidcaa
open Go.RowKit Go.ChangeShapes Go.WideShapes Go.ChangeAt

set_option maxRecDepth 100000 in
set_option maxHeartbeats 1000000 in
theorem pagesTells_any (n : Int) (b : List UInt8) (next : Int) (s : List UInt8) (A A' : Option Addr) (c c' : Nat) (w : World) (hn : -9223372036854775808 ≤ n ∧ n ≤ 9223372036854775807) (hr : Reads w w.heap.size 1 A b.length (bts b)) (hc : b.length ≤ c) (hcm : c ≤ 140737488351232) (hrs : Reads w w.heap.size 1 A' s.length (bts s)) (hcs : s.length ≤ c') (hcms : c' ≤ 140737488351232) :
    LawCalls Try.prog 13 #[.int .i64 n, .slice A b.length c, .int .i64 next, .slice A' s.length c'] w := by
  have k1 := fun W (hb : Below w.heap.size w W) => pgEncode_both b b.length rfl A c next W w.heap.size (hr.below hb) hb.size hc (by omega)
  have k2 := fun W (hb : Below w.heap.size w W) => rPage_both b b.length rfl A c next W w.heap.size (hr.below hb) hb.size
  have k3 := fun W (hb : Below w.heap.size w W) => (pgDecode_any s s.length rfl A' c' W w.heap.size (hrs.below hb) hb.size hcs (by omega)).mono (fun _ _ h => decPost_out h)
  have k4 := fun W (hb : Below w.heap.size w W) => (rUnpage_any s s.length rfl A' c' W w.heap.size (hrs.below hb) hb.size hcs (by omega)).mono (fun _ _ h => decPost_out h)
  have q1 := fun W => count_any n hn W
  have q2 := fun W => rCount_any n hn W
  clear hr hrs hc hcm hcs hcms hn
  revert k1 k2 k3 k4 q1 q2
  generalize pgOut b next = x
  generalize pgErr b next = xe
  generalize pdOut s = y
  generalize pdX s = yx
  generalize pdE s = ye
  generalize cntZ n = cn
  generalize b.length = bn
  generalize s.length = sn
  intro k1 k2 k3 k4 q1 q2
  go_enter Try.func13, Try.ntmps13
  go_wp2_with fail
  refine (k1 _ (Below.refl _ _)).mono ?_
  rintro e w1 ⟨A1, n1, c1, rfl, l1, r1, _, _, b1⟩
  have L1 := Lib.hid l1
  clear k1 l1
  go_wp2_with fail
  refine (k2 _ b1).mono ?_
  rintro e w2 ⟨A2, n2, c2, rfl, l2, r2, _, _, b2⟩
  have r1 := (r1.below b2).more b2.size
  have b2 := b1.trans (b2.mono b1.size)
  have L2 := Lib.hid l2
  clear k2 l2 b1
  go_wp2_with fail
  refine (k3 _ b2).mono ?_
  rintro e w3 ⟨A3, n3, c3, rfl, l3, r3, b3⟩
  have r1 := (r1.below b3).more b3.size
  have r2 := (r2.below b3).more b3.size
  have b3 := b2.trans (b3.mono b2.size)
  have L3 := Lib.hid l3
  clear k3 l3 b2
  go_wp2_with fail
  refine (k4 _ b3).mono ?_
  rintro e w4 ⟨A4, n4, c4, rfl, l4, r4, b4⟩
  have r1 := (r1.below b4).more b4.size
  have r2 := (r2.below b4).more b4.size
  have r3 := (r3.below b4).more b4.size
  have b4 := b3.trans (b4.mono b3.size)
  have L4 := Lib.hid l4
  clear k4 l4 b3
  have s1 := str_of (P := Try.prog) (c := c1) r1 L1.out Try.underlying25 Try.underlying5 Try.underlying9
  have s2 := str_of (P := Try.prog) (c := c2) r2 L2.out Try.underlying25 Try.underlying5 Try.underlying9
  have s3 := str_of (P := Try.prog) (c := c3) r3 L3.out Try.underlying25 Try.underlying5 Try.underlying9
  have s4 := str_of (P := Try.prog) (c := c4) r4 L4.out Try.underlying25 Try.underlying5 Try.underlying9
  clear r1 r2 r3 r4
  go_wp2_with fail
  refine (q1 _).mono ?_
  rintro e w5 ⟨rfl, rfl⟩
  go_wp2_with fail
  refine (q2 _).mono ?_
  rintro e w5 ⟨rfl, rfl⟩
  clear q1 q2
  go_wp2_with fail
  repeat (refine (num09_any _ _).mono ?_; rintro e w6 ⟨rfl, rfl⟩; go_wp2_with fail)
  refine (alive09_any _).mono ?_
  rintro e w7 ⟨rfl, b7⟩
  have b7 := b4.trans (b7.mono b4.size)
  clear b4
  go_wp2_with fail
  go_ret
  exact ⟨rfl, b7⟩

theorem pagesTells_core (H : Type) (enc : TypeId × Value → H) (W : World) (args : Array Value) (ds : List (DataW H)) (h : ArgsIn enc Try.prog W [3, 25, 3, 25] args.toList ds) :
    LawCalls Try.prog 13 args W := by
  obtain ⟨v0, v1, v2, v3, d0, d1, d2, d3, rfl, rfl, h0, h1, h2, h3⟩ := argsIn4 h
  obtain ⟨n, rfl, wn⟩ := h0.int Try.underlying3
  obtain ⟨A, b, c, rfl, hc, hc2, hr, _⟩ := h1.bytes Try.underlying25 Try.underlying5 (by kernel_rfl) (by kernel_rfl)
  obtain ⟨next, rfl, wx⟩ := h2.int Try.underlying3
  obtain ⟨A', s, c', rfl, hc', hc2', hr', _⟩ := h3.bytes Try.underlying25 Try.underlying5 (by kernel_rfl) (by kernel_rfl)
  simp [Lit.wf, IntKind.min, IntKind.max, IntKind.signed, IntKind.bits] at wn
  exact pagesTells_any n b next s A A' c c' W (by omega) hr hc hc2 hr' hc' hc2'

theorem pagesTells_spec {H : Type} {enc : TypeId × Value → H} (vs : List Value) (ds : List (DataW H)) (W : World) (p : List MemPlace) (h : DataW.TrodAll enc Try.prog W 0 (fun _ => true) true [3, 25, 3, 25] vs ds p) :
    (Rows.pagesTellsSpec.fn H ds).results = [.lit (.bool true)] ∧ (Rows.pagesTellsSpec.fn H ds).args = ds ∧ (Rows.pagesTellsSpec.fn H ds).vars = [] := by
  obtain ⟨_, _, d0, ds0, _, _, rfl, rfl, _, _, r0⟩ := trodAll_cons h
  obtain ⟨_, _, d1, ds1, _, _, rfl, rfl, _, _, r1⟩ := trodAll_cons r0
  obtain ⟨_, _, d2, ds2, _, _, rfl, rfl, _, _, r2⟩ := trodAll_cons r1
  obtain ⟨_, _, d3, ds3, _, _, rfl, rfl, _, _, r3⟩ := trodAll_cons r2
  obtain ⟨rfl, rfl, rfl⟩ := trodAll_nil r3
  exact ⟨rfl, rfl, rfl⟩

set_option maxRecDepth 100000 in
theorem pagesTells_lifted (os : Os) (started : os.Started) (H : Type) (enc : TypeId × Value → H) :
    ReturnsInHanded {} Try.checked os 13 .any (Rows.pagesTellsSpec.pre6 enc Try.prog Try.f13 Rows.pagesTellsRow.domain false) (Rows.pagesTellsSpec.post enc Try.prog Try.f13 false true false false) := by
  refine returnsInHanded_of_change_sized (C := Try.checked) Try.own started (by kernel_rfl) Try.func13
    (ChangeSpec.witness6 (enc := enc) (C := Try.checked) false ⟨#[], #[.int .i64 0, .slice none 0 0, .int .i64 0, .slice none 0 0], []⟩ 8 (by kernel_rfl) (by kernel_rfl) (by kernel_rfl) (by kernel_rfl)) ?_
  intro W base args ds gs before hval hW _ hsz _
  exact law_contract Try.laidOut Try.underlying4 (ps := [3, 25, 3, 25]) rfl rfl rfl (by kernel_rfl) pagesTells_spec W base args ds gs before hval hW hsz (fun h _ => pagesTells_core H enc W args ds h)

theorem pagesTells_holds : Rows.PagesTellsSaid :=
  OpenClaim.holds_of_wide 13 Try.f13 rfl rfl rfl rfl rfl rfl rfl ⟨rfl, rfl, rfl, rfl, rfl⟩ rfl rfl rfl rfl rfl (by kernel_rfl) Try.func13 (by kernel_rfl)
    (of_decide_eq_true (by kernel_rfl)) (by unfold Func.isWrapper; first | (rw [if_pos (by decide +kernel)]; kernel_rfl) | (rw [if_neg (by decide +kernel)]; exact ⟨rfl, rfl⟩))
    (fun os started H enc _ => pagesTells_lifted os started H enc)

end Go.Proofs.Ytcchnoadclidcaa
