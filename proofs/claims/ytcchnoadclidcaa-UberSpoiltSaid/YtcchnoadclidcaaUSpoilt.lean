/-
  UberSpoiltSaid: a sector of which one octet is another one is no uberblock's. No condition.
-/
import Derived.Test.YtcchnoadclidcaaUAlive
namespace Go.Proofs.Ytcchnoadclidcaa
open Go.RowKit Go.ChangeShapes Go.WideShapes Go.ChangeAt

theorem spot64 (at_ : Int) (_ha : -9223372036854775808 ≤ at_ ∧ at_ ≤ 9223372036854775807) : ∃ q : Nat, (wrap64 (at_.tmod 64 + 64)).tmod 64 = (q : Int) ∧ q < 64 := by
  have h1 := Int.tmod_lt_of_pos at_ (show (0 : Int) < 64 by omega)
  have h2 : -64 < at_.tmod 64 := by
    have := Int.tmod_lt_of_pos (-at_) (show (0 : Int) < 64 by omega)
    rw [Int.neg_tmod] at this
    omega
  rw [IntWalk.wrap64_in _ ⟨by omega, by omega⟩]
  have h3 : 0 ≤ at_.tmod 64 + 64 := by omega
  have h4 := Int.tmod_nonneg 64 h3
  have h5 := Int.tmod_lt_of_pos (at_.tmod 64 + 64) (show (0 : Int) < 64 by omega)
  exact ⟨((at_.tmod 64 + 64).tmod 64).toNat, by omega, by omega⟩
theorem xor_byte (x y : UInt8) : bits .xor .u8 (x.toNat : Int) (y.toNat : Int) = ((x ^^^ y).toNat : Int) := by
  rw [u8_xor_nat _ _ x.toNat_lt y.toNat_lt, UInt8.toNat_xor]
theorem xor_ne (x y : UInt8) (h : y ≠ 0) : x ^^^ y ≠ x := by
  intro e
  apply h
  have := congrArg (fun z => x ^^^ z) e
  simp only [← UInt8.xor_assoc, UInt8.xor_self, UInt8.zero_xor] at this
  exact this
theorem bts_setB (b : List UInt8) (i : Nat) (z : UInt8) : bts (b.set i z) = (bts b).set i (.int .u8 (z.toNat : Int)) := by simp [bts, List.map_set]

set_option maxRecDepth 100000 in
set_option maxHeartbeats 1000000 in
theorem uberSpoilt_any (u : Ub) (at_ : Int) (by_ : UInt8) (w : World) (ha : -9223372036854775808 ≤ at_ ∧ at_ ≤ 9223372036854775807) : LawCalls Try.prog 11 #[u.val, .int .i64 at_, .int .u8 (by_.toNat : Int)] w := by
  by_cases hu : u.ok
  · have hen := encode_ok u hu
    have hEL := Lib.hid (encL_length u)
    obtain ⟨q, hqq, hq⟩ := spot64 at_ ha
    have hlaw := Lib.hid (spoilt_law u q ((encL u).getD q 0 ^^^ by_) hq)
    have hget : Hid ((bts (encL u))[q]? = some (.int .u8 (((encL u).getD q 0).toNat : Int))) := by
      show _ = _
      rw [bts_get, List.getElem?_eq_getElem (by rw [encL_length]; omega)]
      simp [List.getD_eq_getElem?_getD, List.getElem?_eq_getElem (show q < (encL u).length by rw [encL_length]; omega)]
    obtain ⟨t, f, o⟩ := u
    show Calls _ _ #[.agg #[.int .i64 t, .int .i64 f, .int .i64 o], _, _] _ _
    clear hu
    obtain ⟨yb, hyb⟩ : ∃ yb, yb = (encL ⟨t, f, o⟩).getD q 0 := ⟨_, rfl⟩
    rw [← hyb] at hlaw hget
    clear hyb
    have hxy := Lib.hid (xor_byte yb by_)
    have hxn := Lib.hid (xor_ne yb by_)
    have hyy := yb.toNat_lt
    have hby := by_.toNat_lt
    obtain ⟨yv, hyv⟩ : ∃ yv, yv = yb.toNat := ⟨_, rfl⟩
    obtain ⟨bv, hbv⟩ : ∃ bv, bv = by_.toNat := ⟨_, rfl⟩
    rw [← hyv] at hxy hyy hget
    rw [← hbv] at hxy hby
    rw [← hbv]
    have HBV := Lib.hid hbv
    clear hyv hbv
    have hgo : ∀ w : World, w = w → True := fun _ _ => trivial
    clear hgo
    by_cases hb0 : bv = 0
    · have hz : ((bv : Int) == 0) = true := by simp [hb0]
      subst hb0
      clear hqq hq hxy hyy hby hget hlaw hxn HBV hz
      go_enter Try.func11, Try.ntmps11
      go_wp2_with fail
      refine (alive8_any _).mono ?_
      rintro e w1 ⟨rfl, hb1⟩
      have hk : Blk w1 w.heap.size 56 #[.int .i64 t, .int .i64 f, .int .i64 o] := (Blk.new w _ _).below hb1 (by simp)
      have hb : Below w.heap.size w w1 := ((Below.refl _ _).alloc (Nat.le_refl _) _).trans (hb1.mono (by simp))
      obtain ⟨d0, d1, d2, x0, x1, x2⟩ := blk3 hk
      clear hb1 hk x0 x1 x2
      go_wp2_with fail
      refine (hen _).mono ?_
      rintro e w2 ⟨v, rfl, hown, hb2⟩
      have hbb := hb.trans (hb2.mono hb.size)
      clear hen hown hb hb2
      go_wp2_with fail
      repeat (refine (numU_any _ _).mono ?_; rintro e w6 ⟨rfl, rfl⟩; go_wp2_with fail)
      go_ret
      exact ⟨rfl, hbb⟩
    · have hz : ((bv : Int) == 0) = false := by simp; omega
      have hz2 : ¬ (bv : Int) = 0 := by omega
      have hne : by_ ≠ 0 := by
        intro e
        apply hb0
        rw [HBV.out, e]
        rfl
      have hlaw2 := Lib.hid (hlaw.out (hxn.out hne))
      clear hne hlaw hxn hb0
      have hqi : (q : Int) < 64 := by omega
      go_enter Try.func11, Try.ntmps11
      go_wp2_with fail
      refine (alive8_any _).mono ?_
      rintro e w1 ⟨rfl, hb1⟩
      have hk : Blk w1 w.heap.size 56 #[.int .i64 t, .int .i64 f, .int .i64 o] := (Blk.new w _ _).below hb1 (by simp)
      have hb : Below w.heap.size w w1 := ((Below.refl _ _).alloc (Nat.le_refl _) _).trans (hb1.mono (by simp))
      obtain ⟨d0, d1, d2, x0, x1, x2⟩ := blk3 hk
      clear hb1 hk x0 x1 x2
      go_wp2_with fail
      refine (hen _).mono ?_
      rintro e w2 ⟨v, rfl, hown, hb2⟩
      have hbb := hb.trans (hb2.mono hb.size)
      have hsz := hb.size
      clear hen hb
      rcases hown.2 with ⟨_, h⟩ | ⟨g, cap, cur, rfl, hg, hcur, hle1, hle2, hcs, hcur2⟩
      · exact absurd h (by omega)
      have hcell : w2.cell? ⟨g, q, none⟩ = some (.int .u8 (yv : Int)) := by rw [hown.cellAt q (by omega)]; exact hget.out
      have hfz : w2.frozen? ⟨g, q, none⟩ = false := hown.frozenAt q
      have hst := (hown.stored q (.int .u8 ((yb ^^^ by_).toNat : Int))).1
      rw [← bts_setB] at hst
      have hbs := hbb.setCell (p := ⟨g, q, none⟩) (by simp; omega) (.int .u8 ((yb ^^^ by_).toNat : Int))
      rw [← hxy.out] at hst hbs
      clear hcur hcs hcur2 hown hb2 hbb hget
      go_wp2_with fail
      repeat (refine (numU_any _ _).mono ?_; rintro e w6 ⟨rfl, rfl⟩; go_wp2_with fail)
      revert hst hbs
      generalize w2.setCell ⟨g, q, none⟩ (.int .u8 (bits .xor .u8 (yv : Int) (bv : Int))) = w5
      intro hst hbs
      obtain ⟨hc5, hm5, hr5⟩ := own_reads hst
      refine (decode_any ((encL ⟨t, f, o⟩).set q (yb ^^^ by_)) 64 (by rw [List.length_set]; exact hEL.out.symm) _ cap w5 w5.heap.size hr5 (Nat.le_refl _) hc5 (by unfold maxLen at hm5; omega)).mono ?_
      rintro e w6 ⟨hd, hb6⟩
      have hbz := hbs.trans (hb6.mono hbs.size)
      rcases hd with ⟨hyes, _⟩ | ⟨_, rfl⟩
      · exact absurd hyes hlaw2.out
      · clear hst hbs hb6 hr5 hc5 hm5 hcell hfz d0 d1 d2
        go_wp2_with fail
        repeat (refine (numU_any _ _).mono ?_; rintro e w6 ⟨rfl, rfl⟩; go_wp2_with fail)
        go_ret
        exact ⟨rfl, hbz.alloc hbz.size _⟩
  · have hen := encode_bad u hu
    obtain ⟨t, f, o⟩ := u
    show Calls _ _ #[.agg #[.int .i64 t, .int .i64 f, .int .i64 o], _, _] _ _
    clear hu
    go_enter Try.func11, Try.ntmps11
    go_wp2_with fail
    refine (alive8_any _).mono ?_
    rintro e w1 ⟨rfl, hb1⟩
    have hk : Blk w1 w.heap.size 56 #[.int .i64 t, .int .i64 f, .int .i64 o] := (Blk.new w _ _).below hb1 (by simp)
    have hb : Below w.heap.size w w1 := ((Below.refl _ _).alloc (Nat.le_refl _) _).trans (hb1.mono (by simp))
    obtain ⟨d0, d1, d2, x0, x1, x2⟩ := blk3 hk
    clear hb1 hk x0 x1 x2
    go_wp2_with fail
    refine (hen _).mono ?_
    rintro e w2 ⟨rfl, hb2⟩
    have hbb := hb.trans (hb2.mono hb.size)
    clear hen hb hb2
    go_wp2_with fail
    repeat (refine (numU_any _ _).mono ?_; rintro e w6 ⟨rfl, rfl⟩; go_wp2_with fail)
    go_ret
    exact ⟨rfl, hbb⟩

theorem uberSpoilt_core (H : Type) (enc : TypeId × Value → H) (W : World) (args : Array Value) (ds : List (DataW H)) (h : ArgsIn enc Try.prog W [56, 3, 5] args.toList ds) :
    LawCalls Try.prog 11 args W := by
  obtain ⟨v0, v1, v2, d0, d1, d2, rfl, rfl, h0, h1, h2⟩ := argsIn3 h
  obtain ⟨u, rfl⟩ := h0.uber Try.underlying56 ⟨rfl, rfl, rfl⟩ Try.underlying3 (by kernel_rfl) (by kernel_rfl)
  obtain ⟨at_, rfl, wa⟩ := h1.int Try.underlying3
  obtain ⟨y, rfl, wy⟩ := h2.int Try.underlying5
  simp [Lit.wf, IntKind.min, IntKind.max, IntKind.signed, IntKind.bits] at wa wy
  have hy : ((UInt8.ofNat y.toNat).toNat : Int) = y := by
    rw [UInt8.toNat_ofNat_of_lt' (by show y.toNat < 256; omega)]
    omega
  rw [← hy]
  exact uberSpoilt_any u at_ _ W (by omega)

theorem uberSpoilt_spec {H : Type} {enc : TypeId × Value → H} (vs : List Value) (ds : List (DataW H)) (W : World) (p : List MemPlace) (h : DataW.TrodAll enc Try.prog W 0 (fun _ => true) true [56, 3, 5] vs ds p) :
    (Rows.uberSpoiltSpec.fn H ds).results = [.lit (.bool true)] ∧ (Rows.uberSpoiltSpec.fn H ds).args = ds ∧ (Rows.uberSpoiltSpec.fn H ds).vars = [] := by
  obtain ⟨_, _, d0, ds0, _, _, rfl, rfl, _, _, r0⟩ := trodAll_cons h
  obtain ⟨_, _, d1, ds1, _, _, rfl, rfl, _, _, r1⟩ := trodAll_cons r0
  obtain ⟨_, _, d2, ds2, _, _, rfl, rfl, _, _, r2⟩ := trodAll_cons r1
  obtain ⟨rfl, rfl, rfl⟩ := trodAll_nil r2
  exact ⟨rfl, rfl, rfl⟩

set_option maxRecDepth 100000 in
theorem uberSpoilt_lifted (os : Os) (started : os.Started) (H : Type) (enc : TypeId × Value → H) :
    ReturnsInHanded {} Try.checked os 11 .any (Rows.uberSpoiltSpec.pre6 enc Try.prog Try.f11 Rows.uberSpoiltRow.domain false) (Rows.uberSpoiltSpec.post enc Try.prog Try.f11 false true false false) := by
  refine returnsInHanded_of_change_sized (C := Try.checked) Try.own started (by kernel_rfl) Try.func11
    (ChangeSpec.witness6 (enc := enc) (C := Try.checked) false ⟨#[], #[.agg #[.int .i64 0, .int .i64 0, .int .i64 0], .int .i64 0, .int .u8 0], []⟩ 8 (by kernel_rfl) (by kernel_rfl) (by kernel_rfl) (by kernel_rfl)) ?_
  intro W base args ds gs before hval hW _ hsz _
  exact law_contract Try.laidOut Try.underlying4 (ps := [56, 3, 5]) rfl rfl rfl (by kernel_rfl) uberSpoilt_spec W base args ds gs before hval hW hsz (fun h _ => uberSpoilt_core H enc W args ds h)

theorem uberSpoilt_holds : Rows.UberSpoiltSaid :=
  OpenClaim.holds_of_wide 11 Try.f11 rfl rfl rfl rfl rfl rfl rfl ⟨rfl, rfl, rfl, rfl, rfl⟩ rfl rfl rfl rfl rfl (by kernel_rfl) Try.func11 (by kernel_rfl)
    (of_decide_eq_true (by kernel_rfl)) (by unfold Func.isWrapper; first | (rw [if_pos (by decide +kernel)]; kernel_rfl) | (rw [if_neg (by decide +kernel)]; exact ⟨rfl, rfl⟩))
    (fun os started H enc _ => uberSpoilt_lifted os started H enc)

end Go.Proofs.Ytcchnoadclidcaa
