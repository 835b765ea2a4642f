/-
  OctetsBackUptoSaid: a number from 0 to 2^62 - 1 comes back from its eight octets; octets come back from their digits. Up to a bulk of 1048576.
-/
import Derived.Test.YtcchnoadclidcaaUnhex
import Derived.Test.YtcchnoadclidcaaFrame
import Derived.Test.YtcchnoadclidcaaUberLaw
import Derived.Test.YtcchnoadclidcaaUber2
namespace Go.Proofs.Ytcchnoadclidcaa
open Go.RowKit Go.ChangeShapes Go.WideShapes Go.ChangeAt

theorem num01_any (x : Int) (w : World) : Calls Try.prog 22 #[.int .i64 x] w fun e w' => e = .returned (.int .i64 x) ∧ w = w' := by
  go_enter Try.func22, Try.ntmps22
  go_wp2_with fail
  go_ret
  exact ⟨rfl, rfl⟩

theorem putL258 : putL 258 3 = [0, 1, 2] := by decide
set_option maxRecDepth 100000 in
theorem alive01_any (w : World) : Calls Try.prog 19 #[] w fun e w' => e = .returned (.bool true) ∧ Below w.heap.size w w' := by
  go_enter Try.func19, Try.ntmps19
  go_wp2_with fail
  refine (put_any 258 3 3 (by decide) _).mono ?_
  rintro e w1 ⟨v, rfl, hown, hb1⟩
  obtain ⟨A, c, rfl, _, _, hr⟩ := own_form hown
  have hs1 := str_of (P := Try.prog) (c := c) hr (putL_length _ _).symm Try.underlying25 Try.underlying5 Try.underlying9
  rw [putL258] at hs1
  clear hown hr
  go_wp2_with fail
  have hh := hex_any [10] 1 rfl (some ⟨w1.heap.size, 0, none⟩) 1 (w1.alloc (.cells #[.int .u8 10] 5)) (w1.heap.size + 1) (Reads.lit w1 #[.int .u8 10] 5 (n := 1) (size := 1) rfl) (by simp) (by omega)
  have hb2 := hb1.alloc hb1.size (.cells #[.int .u8 10] 5)
  clear hb1
  refine hh.mono ?_
  clear hh
  rintro e w2 ⟨rfl, hb3⟩
  have hb4 := hb2.trans (hb3.mono hb2.size)
  clear hb2 hb3
  have hx : (hexL [10] == [48, 97]) = true := by decide
  have HX := Lib.hid hx
  clear hx
  go_wp2_with fail
  rw [HX.out]
  go_ret
  exact ⟨rfl, hb4⟩

theorem numE8 (n : Int) (h : 0 ≤ n ∧ n ≤ 4611686018427387903) : numE (putL n 8) = 0 := by
  have := numN8e n
  unfold numE
  rw [if_neg (by rw [putL_length]; omega), if_neg (by rw [putL_length]; omega), if_neg (by omega)]
theorem num8_bad (n : Int) (h : n < 0 ∨ 4611686018427387903 < n) (h2 : -9223372036854775808 ≤ n ∧ n ≤ 9223372036854775807) : numE (putL n 8) = 4 ∧ numV (putL n 8) = 0 := by
  have := numN8e n
  unfold numE numV
  rw [if_neg (by rw [putL_length]; omega), if_neg (by rw [putL_length]; omega), if_pos (by omega), if_pos (by omega)]
  exact ⟨rfl, rfl⟩

set_option maxRecDepth 100000 in
set_option maxHeartbeats 1000000 in
theorem octetsBack_any (n : Int) (b : List UInt8) (A : Option Addr) (c : Nat) (w : World) (hr : Reads w w.heap.size 1 A b.length (bts b)) (h2 : -9223372036854775808 ≤ n ∧ n ≤ 9223372036854775807) (hb : b.length ≤ 1048576) :
    LawCalls Try.prog 5 #[.int .i64 n, .slice A b.length c] w := by
  have hH := fun W (hbl : Below w.heap.size w W) => hex_any b b.length rfl A c W w.heap.size (hr.below hbl) hbl.size (by omega)
  have hU := fun W => unhex_hex b W (by omega)
  have hput := fun W => put_any n 8 8 (by decide) W
  have hstr : ∀ W, Below w.heap.size w W → (convert 25 9 (.slice A b.length c)).run Try.prog W = .ok (.string ⟨b.toArray⟩) W := fun W hbl => str_of (P := Try.prog) (c := c) (hr.below hbl) rfl Try.underlying25 Try.underlying5 Try.underlying9
  have HST := Lib.hid hstr
  have hok := fun (h : 0 ≤ n ∧ n ≤ 4611686018427387903) => (⟨numV8 n h, numE8 n h⟩ : numV (putL n 8) = n ∧ numE (putL n 8) = 0)
  have hbad := fun (h : n < 0 ∨ 4611686018427387903 < n) => num8_bad n h h2
  have HOK := Lib.hid hok
  have HBAD := Lib.hid hbad
  have hlen := Lib.hid (putL_length n 8)
  clear hr hstr hok hbad h2 hb
  revert hH hU hput HST HOK HBAD hlen
  generalize hexL b = hx
  generalize putL n 8 = pl
  generalize hbn : b.length = bn
  intro hH hU hput HST HOK HBAD hlen
  have HBN := Lib.hid hbn
  clear hbn
  go_enter Try.func5, Try.ntmps5
  go_wp2_with fail
  refine (alive01_any _).mono ?_
  rintro e w1 ⟨rfl, hb1⟩
  go_wp2_with fail
  refine (hH _ hb1).mono ?_
  rintro e w2 ⟨rfl, hb2⟩
  have hb2' := hb1.trans (hb2.mono hb1.size)
  clear hH hb1 hb2
  go_wp2_with fail
  refine (hU _).mono ?_
  rintro e w3 ⟨v, rfl, hown, hb3⟩
  have hb3' := hb2'.trans (hb3.mono hb2'.size)
  obtain ⟨A3, c3, rfl, _, _, hr3⟩ := own_form hown
  have hs1 := str_of (P := Try.prog) (c := c3) hr3 HBN.out.symm Try.underlying25 Try.underlying5 Try.underlying9
  have hs2 := HST.out _ hb3'
  clear hU hb2' hb3 hown hr3 HST
  go_wp2_with fail
  refine (num01_any _ _).mono ?_
  rintro e w6 ⟨rfl, rfl⟩
  go_wp2_with fail
  refine (hput _).mono ?_
  rintro e w4 ⟨v4, rfl, hown4, hb4⟩
  have hb4' := hb3'.trans (hb4.mono hb3'.size)
  obtain ⟨A4, c4, rfl, _, _, hr4⟩ := own_form hown4
  clear hput hown4 hb4 hb3' hs1 hs2
  go_wp2_with fail
  refine (number_any pl 8 hlen.out.symm A4 c4 _ _ hr4 (by omega)).mono ?_
  rintro e w5 ⟨rfl, rfl⟩
  clear hr4
  by_cases hin : 0 ≤ n ∧ n ≤ 4611686018427387903
  · obtain ⟨e1, e2⟩ := HOK.out hin
    rw [e1, e2]
    obtain ⟨i1, i2⟩ := hin
    clear e1 e2 HOK HBAD hlen
    go_wp2_with fail
    refine (num01_any _ _).mono ?_
    rintro e w6 ⟨rfl, rfl⟩
    go_wp2_with fail
    go_ret
    exact ⟨rfl, hb4'⟩
  · obtain ⟨e1, e2⟩ := HBAD.out (by omega)
    rw [e1, e2]
    clear e1 e2 HOK HBAD hlen
    by_cases hneg : n < 0
    · clear hin
      go_wp2_with fail
      refine (num01_any _ _).mono ?_
      rintro e w6 ⟨rfl, rfl⟩
      go_wp2_with fail
      go_ret
      exact ⟨rfl, hb4'⟩
    · have hneg2 : ¬ n < 0 := hneg
      have hbig : 4611686018427387903 < n := by omega
      clear hin hneg
      go_wp2_with fail
      refine (num01_any _ _).mono ?_
      rintro e w6 ⟨rfl, rfl⟩
      go_wp2_with fail
      go_ret
      exact ⟨rfl, hb4'⟩

theorem octetsBack_core (H : Type) (enc : TypeId × Value → H) (W : World) (args : Array Value) (ds : List (DataW H)) (h : ArgsIn enc Try.prog W [3, 25] args.toList ds) (hk : Rows.uptoBulkAll ds ≤ 1048576) :
    LawCalls Try.prog 5 args W := by
  obtain ⟨v0, v1, d0, d1, rfl, rfl, h0, h1⟩ := argsIn2 h
  obtain ⟨n, rfl, wn⟩ := h0.int Try.underlying3
  obtain ⟨A, b, c, rfl, hc, hc2, hr, hd1⟩ := h1.bytes Try.underlying25 Try.underlying5 (by kernel_rfl) (by kernel_rfl)
  simp [Lit.wf, IntKind.min, IntKind.max, IntKind.signed, IntKind.bits] at wn
  have e1 := bulk_bytes hd1
  simp only [Rows.uptoBulkAll] at hk
  exact octetsBack_any n b A c W hr (by omega) (by omega)

theorem octetsBack_spec {H : Type} {enc : TypeId × Value → H} (vs : List Value) (ds : List (DataW H)) (W : World) (p : List MemPlace) (h : DataW.TrodAll enc Try.prog W 0 (fun _ => true) true [3, 25] vs ds p) :
    (Rows.octetsBackSpec.fn H ds).results = [.lit (.bool true)] ∧ (Rows.octetsBackSpec.fn H ds).args = ds ∧ (Rows.octetsBackSpec.fn H ds).vars = [] := by
  obtain ⟨_, _, d0, ds0, _, _, rfl, rfl, _, _, r0⟩ := trodAll_cons h
  obtain ⟨_, _, d1, ds1, _, _, rfl, rfl, _, _, r1⟩ := trodAll_cons r0
  obtain ⟨rfl, rfl, rfl⟩ := trodAll_nil r1
  exact ⟨rfl, rfl, rfl⟩

set_option maxRecDepth 100000 in
theorem octetsBack_lifted (os : Os) (started : os.Started) (H : Type) (enc : TypeId × Value → H) (F : Stop.Interp) :
    ReturnsInHanded {} Try.checked os 5 .any ((Rows.OpenSpec.upto Rows.octetsBackSpec).pre6 enc Try.prog Try.f5 Rows.octetsBackUptoRow.domain false) (((Rows.OpenSpec.upto Rows.octetsBackSpec).at F).post enc Try.prog Try.f5 false true false false) := by
  refine returnsInHanded_of_cond_sized (C := Try.checked) (s := Rows.OpenSpec.upto Rows.octetsBackSpec) (k := Rows.uptoSmall) rfl Try.own started (by kernel_rfl) Try.func5
    (OpenSpec.witness (enc := enc) (C := Try.checked) (s := Rows.OpenSpec.upto Rows.octetsBackSpec) (k := Rows.uptoSmall) rfl false ⟨#[], #[.int .i64 0, .slice none 0 0], []⟩ 8 (by kernel_rfl) (by kernel_rfl) (by kernel_rfl)
      (x := ([.lit (.int .i64 0), .nil], [], [])) (by kernel_rfl) rfl (by kernel_rfl)) ?_
  intro W base args ds gs before hval hW _ hk hsz _
  refine law_contract (s := Rows.octetsBackSpec) Try.laidOut Try.underlying4 (ps := [3, 25]) rfl rfl rfl (by kernel_rfl) octetsBack_spec W base args ds gs before hval hW hsz (fun h hg => ?_)
  subst hg
  exact octetsBack_core H enc W args ds h (of_decide_eq_true (show decide (Rows.uptoBulkAll ds ≤ 1048576) = true from by rw [List.append_nil] at hk; exact hk))

theorem octetsBack_holds : Rows.OctetsBackUptoSaid :=
  OpenClaim.holds_of_cond 5 Try.f5 rfl rfl rfl rfl rfl rfl rfl ⟨rfl, rfl, rfl, rfl, rfl⟩ rfl rfl rfl rfl rfl (by kernel_rfl) Try.func5 (by kernel_rfl)
    (of_decide_eq_true (by kernel_rfl)) (by unfold Func.isWrapper; first | (rw [if_pos (by decide +kernel)]; kernel_rfl) | (rw [if_neg (by decide +kernel)]; exact ⟨rfl, rfl⟩))
    (fun os started H enc _ F => octetsBack_lifted os started H enc F)

end Go.Proofs.Ytcchnoadclidcaa
