/-
  PagesSpoiltSaid: a page of which one octet is another one is none. No condition.
-/
import Derived.Test.YtcchnoadclidcaaPAlive
import Derived.Test.YtcchnoadclidcaaSpoil
namespace Go.Proofs.Ytcchnoadclidcaa
open Go.RowKit Go.ChangeShapes Go.WideShapes Go.ChangeAt

theorem spot64p (at_ : Int) : ∃ q : Nat, (wrap64 (at_.tmod 64 + 64)).tmod 64 = (q : Int) ∧ q < 64 := by
  have h1 := Int.tmod_lt_of_pos at_ (show (0 : Int) < 64 by omega)
  have h2 : -64 < at_.tmod 64 := by
    have := Int.tmod_lt_of_pos (-at_) (show (0 : Int) < 64 by omega)
    rw [Int.neg_tmod] at this
    omega
  rw [IntWalk.wrap64_in _ ⟨by omega, by omega⟩]
  have h3 : 0 ≤ at_.tmod 64 + 64 := by omega
  have h4 := Int.tmod_nonneg 64 h3
  have h5 := Int.tmod_lt_of_pos (at_.tmod 64 + 64) (show (0 : Int) < 64 by omega)
  exact ⟨((at_.tmod 64 + 64).tmod 64).toNat, by omega, by omega⟩
theorem xor_neP (x y : UInt8) (h : y ≠ 0) : x ^^^ y ≠ x := by
  intro e
  apply h
  have := congrArg (fun z => x ^^^ z) e
  simp only [← UInt8.xor_assoc, UInt8.xor_self, UInt8.zero_xor] at this
  exact this

set_option maxRecDepth 100000 in
set_option maxHeartbeats 1000000 in
theorem pagesSpoilt_any (b : List UInt8) (next at_ : Int) (by_ : UInt8) (A : Option Addr) (c : Nat) (w : World) (hr : Reads w w.heap.size 1 A b.length (bts b)) (hc : b.length ≤ c) (hcm : c ≤ 140737488351232) :
    LawCalls Try.prog 15 #[.slice A b.length c, .int .i64 next, .int .i64 at_, .int .u8 (by_.toNat : Int)] w := by
  by_cases hgood : b.length ≤ 52 ∧ 0 ≤ next ∧ next < 8192
  · obtain ⟨g1, g2, g3⟩ := hgood
    have hen := fun W (hb : Below w.heap.size w W) => pgEncode_ok b b.length rfl A c next W w.heap.size (hr.below hb) hb.size hc (by omega) g1 g2 g3
    obtain ⟨q, hqq, hq⟩ := spot64p at_
    have hlaw := Lib.hid (page_spoilt b next g1 q ((pageL b next).getD q 0 ^^^ by_) hq)
    have hEL := Lib.hid (pageL_length b next g1)
    have hget : Hid ((bts (pageL b next))[q]? = some (.int .u8 (((pageL b next).getD q 0).toNat : Int))) := by
      show _ = _
      rw [bts_get, List.getElem?_eq_getElem (by rw [pageL_length b next g1]; omega)]
      simp [List.getD_eq_getElem?_getD, List.getElem?_eq_getElem (show q < (pageL b next).length by rw [pageL_length b next g1]; omega)]
    clear hr hc hcm
    revert hen hlaw hEL hget
    generalize pageL b next = pg
    intro hen hlaw hEL hget
    obtain ⟨yb, hyb⟩ : ∃ yb, yb = pg.getD q 0 := ⟨_, rfl⟩
    rw [← hyb] at hlaw hget
    clear hyb
    have hxy := Lib.hid (xorB yb by_)
    have hxn := Lib.hid (xor_neP yb by_)
    have hyy := yb.toNat_lt
    have hby := by_.toNat_lt
    obtain ⟨yv, hyv⟩ : ∃ yv, yv = yb.toNat := ⟨_, rfl⟩
    obtain ⟨bv, hbv⟩ : ∃ bv, bv = by_.toNat := ⟨_, rfl⟩
    rw [← hyv] at hxy hyy hget
    rw [← hbv] at hxy hby
    rw [← hbv]
    have HBV := Lib.hid hbv
    clear hyv hbv
    by_cases hb0 : bv = 0
    · have hz : ((bv : Int) == 0) = true := by simp [hb0]
      subst hb0
      clear hqq hq hxy hyy hby hget hlaw hxn HBV hz g1 g2 g3
      go_enter Try.func15, Try.ntmps15
      go_wp2_with fail
      refine (alive09_any _).mono ?_
      rintro e w1 ⟨rfl, hb1⟩
      go_wp2_with fail
      refine (hen _ hb1).mono ?_
      rintro e w2 ⟨v, rfl, hown, hb2⟩
      obtain ⟨A2, c2, rfl, _, _, _⟩ := own_form hown
      have hbb := hb1.trans (hb2.mono hb1.size)
      clear hen hown hb1 hb2
      go_wp2_with fail
      repeat (refine (num09_any _ _).mono ?_; rintro e w6 ⟨rfl, rfl⟩; go_wp2_with fail)
      go_ret
      exact ⟨rfl, hbb⟩
    · have hz : ((bv : Int) == 0) = false := by simp; omega
      have hz2 : ¬ (bv : Int) = 0 := by omega
      have hne : by_ ≠ 0 := by
        intro e
        apply hb0
        rw [HBV.out, e]
        rfl
      have hlaw2 := Lib.hid (hlaw.out (hxn.out hne))
      clear hne hlaw hxn hb0 g1 g2 g3
      have hqi : (q : Int) < 64 := by omega
      go_enter Try.func15, Try.ntmps15
      go_wp2_with fail
      refine (alive09_any _).mono ?_
      rintro e w1 ⟨rfl, hb1⟩
      go_wp2_with fail
      refine (hen _ hb1).mono ?_
      rintro e w2 ⟨v, rfl, hown, hb2⟩
      have hbb := hb1.trans (hb2.mono hb1.size)
      have hsz := hb1.size
      clear hen hb1
      rcases hown.2 with ⟨_, h⟩ | ⟨g, cap, cur, rfl, hg, hcur, hle1, hle2, hcs, hcur2⟩
      · exact absurd h (by omega)
      have hcell : w2.cell? ⟨g, q, none⟩ = some (.int .u8 (yv : Int)) := by rw [hown.cellAt q (by omega)]; exact hget.out
      have hfz : w2.frozen? ⟨g, q, none⟩ = false := hown.frozenAt q
      have hst := (hown.stored q (.int .u8 ((yb ^^^ by_).toNat : Int))).1
      rw [← bts_setX] at hst
      have hbs := hbb.setCell (p := ⟨g, q, none⟩) (by simp; omega) (.int .u8 ((yb ^^^ by_).toNat : Int))
      rw [← hxy.out] at hst hbs
      clear hcur hcs hcur2 hown hb2 hbb hget
      go_wp2_with fail
      repeat (refine (num09_any _ _).mono ?_; rintro e w6 ⟨rfl, rfl⟩; go_wp2_with fail)
      revert hst hbs
      generalize w2.setCell ⟨g, q, none⟩ (.int .u8 (bits .xor .u8 (yv : Int) (bv : Int))) = w5
      intro hst hbs
      obtain ⟨hc5, hm5, hr5⟩ := own_reads hst
      have hl5 : (64 : Nat) = (pg.set q (yb ^^^ by_)).length := by rw [List.length_set]; exact hEL.out.symm
      unfold maxLen at hm5
      have HL5 := Lib.hid hl5
      clear hl5
      refine (pgDecode_any (pg.set q (yb ^^^ by_)) 64 HL5.out _ cap w5 w5.heap.size hr5 (Nat.le_refl _) hc5 hm5).mono ?_
      rintro e w6 ⟨hd, hb6⟩
      have hbz := hbs.trans (hb6.mono hbs.size)
      rcases hd with ⟨hyes, _⟩ | ⟨_, rfl⟩
      · exact absurd hyes hlaw2.out
      · have hr6 := (hr5.below hb6).more hb6.size
        have hal : Below w6.heap.size w6 (w6.alloc (.cells #[.slice (some ⟨g, 0, none⟩) 64 cap] 25)) := (Below.refl _ _).alloc (Nat.le_refl _) _
        have hgl := glue_bad (pg.set q (yb ^^^ by_)) hlaw2.out 64 HL5.out (some ⟨g, 0, none⟩) cap (w6.alloc (.cells #[.slice (some ⟨g, 0, none⟩) 64 cap] 25)) w6.heap.size (Blk.new _ _ _) ((hr6.below hal).more hal.size) hc5 hm5
        have hbz2 := hbz.trans (hal.mono hbz.size)
        clear hst hbs hb6 hr5 hr6 hcell hfz hal hbz
        go_wp2_with fail
        refine hgl.mono ?_
        clear hgl
        rintro e w7 ⟨rfl, hb7⟩
        have hbz3 := hbz2.trans (hb7.mono hbz2.size)
        clear hb7 hbz2
        go_wp2_with fail
        repeat (refine (num09_any _ _).mono ?_; rintro e w6 ⟨rfl, rfl⟩; go_wp2_with fail)
        go_ret
        exact ⟨rfl, hbz3⟩
  · have hbad : ∃ E : Int, E ≠ 0 ∧ ∀ W, Calls Try.prog 46 #[.slice A b.length c, .int .i64 next] W (PgBad W E) := by
      by_cases h : 52 < b.length
      · exact ⟨5, by decide, fun W => pgEncode_long b.length A c next W h⟩
      · exact ⟨4, by decide, fun W => pgEncode_range b.length A c next W (by omega) (by omega)⟩
    obtain ⟨E, hE, hen⟩ := hbad
    have e1 : (E == 0) = false := by simp [hE]
    have e2 : (E != 0) = true := by simp [hE]
    clear hgood hr hc hcm hE
    generalize b.length = bn at *
    go_enter Try.func15, Try.ntmps15
    go_wp2_with fail
    refine (alive09_any _).mono ?_
    rintro e w1 ⟨rfl, hb1⟩
    go_wp2_with fail
    refine (hen _).mono ?_
    rintro e w2 ⟨rfl, rfl⟩
    clear hen
    go_wp2_with fail
    repeat (refine (num09_any _ _).mono ?_; rintro e w6 ⟨rfl, rfl⟩; go_wp2_with fail)
    go_ret
    exact ⟨rfl, hb1⟩

theorem pagesSpoilt_core (H : Type) (enc : TypeId × Value → H) (W : World) (args : Array Value) (ds : List (DataW H)) (h : ArgsIn enc Try.prog W [25, 3, 3, 5] args.toList ds) :
    LawCalls Try.prog 15 args W := by
  obtain ⟨v0, v1, v2, v3, d0, d1, d2, d3, rfl, rfl, h0, h1, h2, h3⟩ := argsIn4 h
  obtain ⟨A, b, c, rfl, hc, hc2, hr, _⟩ := h0.bytes Try.underlying25 Try.underlying5 (by kernel_rfl) (by kernel_rfl)
  obtain ⟨next, rfl, wx⟩ := h1.int Try.underlying3
  obtain ⟨at_, rfl, wa⟩ := h2.int Try.underlying3
  obtain ⟨y, rfl, wy⟩ := h3.int Try.underlying5
  simp [Lit.wf, IntKind.min, IntKind.max, IntKind.signed, IntKind.bits] at wy
  have hy : ((UInt8.ofNat y.toNat).toNat : Int) = y := by
    rw [UInt8.toNat_ofNat_of_lt' (by show y.toNat < 256; omega)]
    omega
  rw [← hy]
  exact pagesSpoilt_any b next at_ _ A c W hr hc hc2

theorem pagesSpoilt_spec {H : Type} {enc : TypeId × Value → H} (vs : List Value) (ds : List (DataW H)) (W : World) (p : List MemPlace) (h : DataW.TrodAll enc Try.prog W 0 (fun _ => true) true [25, 3, 3, 5] vs ds p) :
    (Rows.pagesSpoiltSpec.fn H ds).results = [.lit (.bool true)] ∧ (Rows.pagesSpoiltSpec.fn H ds).args = ds ∧ (Rows.pagesSpoiltSpec.fn H ds).vars = [] := by
  obtain ⟨_, _, d0, ds0, _, _, rfl, rfl, _, _, r0⟩ := trodAll_cons h
  obtain ⟨_, _, d1, ds1, _, _, rfl, rfl, _, _, r1⟩ := trodAll_cons r0
  obtain ⟨_, _, d2, ds2, _, _, rfl, rfl, _, _, r2⟩ := trodAll_cons r1
  obtain ⟨_, _, d3, ds3, _, _, rfl, rfl, _, _, r3⟩ := trodAll_cons r2
  obtain ⟨rfl, rfl, rfl⟩ := trodAll_nil r3
  exact ⟨rfl, rfl, rfl⟩

set_option maxRecDepth 100000 in
theorem pagesSpoilt_lifted (os : Os) (started : os.Started) (H : Type) (enc : TypeId × Value → H) :
    ReturnsInHanded {} Try.checked os 15 .any (Rows.pagesSpoiltSpec.pre6 enc Try.prog Try.f15 Rows.pagesSpoiltRow.domain false) (Rows.pagesSpoiltSpec.post enc Try.prog Try.f15 false true false false) := by
  refine returnsInHanded_of_change_sized (C := Try.checked) Try.own started (by kernel_rfl) Try.func15
    (ChangeSpec.witness6 (enc := enc) (C := Try.checked) false ⟨#[], #[.slice none 0 0, .int .i64 0, .int .i64 0, .int .u8 0], []⟩ 8 (by kernel_rfl) (by kernel_rfl) (by kernel_rfl) (by kernel_rfl)) ?_
  intro W base args ds gs before hval hW _ hsz _
  exact law_contract Try.laidOut Try.underlying4 (ps := [25, 3, 3, 5]) rfl rfl rfl (by kernel_rfl) pagesSpoilt_spec W base args ds gs before hval hW hsz (fun h _ => pagesSpoilt_core H enc W args ds h)

theorem pagesSpoilt_holds : Rows.PagesSpoiltSaid :=
  OpenClaim.holds_of_wide 15 Try.f15 rfl rfl rfl rfl rfl rfl rfl ⟨rfl, rfl, rfl, rfl, rfl⟩ rfl rfl rfl rfl rfl (by kernel_rfl) Try.func15 (by kernel_rfl)
    (of_decide_eq_true (by kernel_rfl)) (by unfold Func.isWrapper; first | (rw [if_pos (by decide +kernel)]; kernel_rfl) | (rw [if_neg (by decide +kernel)]; exact ⟨rfl, rfl⟩))
    (fun os started H enc _ => pagesSpoilt_lifted os started H enc)

end Go.Proofs.Ytcchnoadclidcaa
