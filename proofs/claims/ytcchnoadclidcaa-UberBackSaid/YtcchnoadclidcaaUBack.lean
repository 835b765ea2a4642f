/-
  UberBackSaid: an uberblock comes back from its sector; a sector from its uberblock. No condition.
-/
import Derived.Test.YtcchnoadclidcaaUAlive
namespace Go.Proofs.Ytcchnoadclidcaa
open Go.RowKit Go.ChangeShapes Go.WideShapes Go.ChangeAt

set_option maxRecDepth 100000 in
set_option maxHeartbeats 1000000 in
theorem uberBack_any (u : Ub) (b : List UInt8) (A : Option Addr) (c : Nat) (w : World) (hr : Reads w w.heap.size 1 A b.length (bts b)) (hc : b.length ≤ c) (hn : c ≤ 140737488351232) : LawCalls Try.prog 10 #[u.val, .slice A b.length c] w := by
  by_cases hu : u.ok
  · have hDE := Lib.hid (decOk_encL u hu)
    have hDU := Lib.hid (decU_encL u hu)
    have hEL := Lib.hid (encL_length u)
    have hen := encode_ok u hu
    obtain ⟨t, f, o⟩ := u
    show Calls _ _ #[.agg #[.int .i64 t, .int .i64 f, .int .i64 o], _] _ _
    clear hu
    go_enter Try.func10, Try.ntmps10
    go_wp2_with fail
    refine (alive8_any _).mono ?_
    rintro e w1 ⟨rfl, hb1⟩
    have hk : Blk w1 w.heap.size 56 #[.int .i64 t, .int .i64 f, .int .i64 o] := (Blk.new w _ _).below hb1 (by simp)
    have hb : Below w.heap.size w w1 := ((Below.refl _ _).alloc (Nat.le_refl _) _).trans (hb1.mono (by simp))
    obtain ⟨d0, d1, d2, _, _, _⟩ := blk3 hk
    clear hb1
    go_wp2_with fail
    refine (hen _).mono ?_
    rintro e w2 ⟨v, rfl, hown, hb2⟩
    obtain ⟨A2, c2, rfl, hc2, hm2, hr2⟩ := own_form hown
    have hk2 := hk.below hb2 hk.lt
    have hbb := hb.trans (hb2.mono hb.size)
    clear d0 d1 d2 hen hown hb hb2 hk
    go_wp2_with fail
    refine (decode_any (encL ⟨t, f, o⟩) 64 hEL.out.symm A2 c2 w2 w2.heap.size hr2 (Nat.le_refl _) hc2 (by unfold maxLen at hm2; omega)).mono ?_
    rintro e w3 ⟨hd, hb3⟩
    have hk3 := hk2.below hb3 hk2.lt
    have hbb3 := hbb.trans (hb3.mono hbb.size)
    clear hk2 hbb hb3 hr2
    rcases hd with ⟨_, rfl⟩ | ⟨hno, _⟩
    · rw [hDU.out]
      simp only [Ub.val]
      clear hDE hDU hEL
      have hbA : Below w.heap.size w (w3.alloc (.cells #[.int .i64 t, .int .i64 f, .int .i64 o] 56)) := hbb3.alloc hbb3.size _
      have hk7 := Blk.new w3 56 #[.int .i64 t, .int .i64 f, .int .i64 o]
      have hkA := hk3.alloc (.cells #[.int .i64 t, .int .i64 f, .int .i64 o] 56)
      clear hbb3 hk3
      go_wp2_with fail
      refine (decode_any b b.length rfl A c _ w.heap.size (hr.below hbA) hbA.size hc (by omega)).mono ?_
      rintro e w4 ⟨hd, hb4⟩
      have hr4 := hr.below (hbA.trans (hb4.mono hbA.size))
      have hbB := hbA.trans (hb4.mono hbA.size)
      have hkB := hkA.below hb4 hkA.lt
      have hk8 := hk7.below hb4 hk7.lt
      clear hbA hk7 hkA hb4 hr
      rcases hd with ⟨hok, rfl⟩ | ⟨hno, rfl⟩
      · have hne := encode_ok (decU b) hok.ok
        have henc := Lib.hid hok.enc
        have hel := Lib.hid hok.len
        clear hok
        revert hne henc
        generalize decU b = u2
        obtain ⟨t2, f2, o2⟩ := u2
        intro hne henc
        simp only [Ub.val] at hne ⊢
        rw [henc.out] at hne
        clear henc
        go_wp2_with fail
        refine (hne _).mono ?_
        rintro e w5 ⟨v5, rfl, hown5, hb5⟩
        clear hne
        have hb45 : Below w4.heap.size w4 w5 := ((Below.refl _ _).alloc (Nat.le_refl _) (.cells #[.int .i64 t2, .int .i64 f2, .int .i64 o2] 56)).trans (hb5.mono (by simp))
        obtain ⟨A5, c5, rfl, _, _, hr5⟩ := own_form hown5
        have hs1 := str_of (P := Try.prog) (c := c5) hr5 hel.out.symm Try.underlying25 Try.underlying5 Try.underlying9
        have hs2 := str_of (P := Try.prog) (c := c) (hr4.below (hb45.mono hbB.size)) rfl Try.underlying25 Try.underlying5 Try.underlying9
        obtain ⟨d0, d1, d2, x0, x1, x2⟩ := blk3 (hkB.below hb45 hkB.lt)
        obtain ⟨e0, e1, e2, y0, y1, y2⟩ := blk3 (hk8.below hb45 hk8.lt)
        have hbC := hbB.trans (hb45.mono hbB.size)
        clear hb45 hb5 hown5 hr5 hr4 hkB hk8 hbB x0 x1 x2 y0 y1 y2 hc hn
        go_wp2_with fail
        repeat (refine (numU_any _ _).mono ?_; rintro e w6 ⟨rfl, rfl⟩; go_wp2_with fail)
        go_ret
        exact ⟨rfl, hbC⟩
      · go_wp2_with fail
        refine (encode_bad ⟨0, 0, 0⟩ not_ok_zero _).mono ?_
        rintro e w5 ⟨rfl, hb5⟩
        have hb45 : Below w4.heap.size w4 w5 := ((Below.refl _ _).alloc (Nat.le_refl _) (.cells #[.int .i64 0, .int .i64 0, .int .i64 0] 56)).trans (hb5.mono (by simp))
        obtain ⟨d0, d1, d2, x0, x1, x2⟩ := blk3 (hkB.below hb45 hkB.lt)
        obtain ⟨e0, e1, e2, y0, y1, y2⟩ := blk3 (hk8.below hb45 hk8.lt)
        have hbC := hbB.trans (hb45.mono hbB.size)
        clear hb45 hb5 hr4 hkB hk8 hbB x0 x1 x2 y0 y1 y2 hc hn
        go_wp2_with fail
        repeat (refine (numU_any _ _).mono ?_; rintro e w6 ⟨rfl, rfl⟩; go_wp2_with fail)
        go_ret
        exact ⟨rfl, hbC⟩
    · exact absurd hDE.out hno
  · have hen := encode_bad u hu
    obtain ⟨t, f, o⟩ := u
    show Calls _ _ #[.agg #[.int .i64 t, .int .i64 f, .int .i64 o], _] _ _
    clear hu
    go_enter Try.func10, Try.ntmps10
    go_wp2_with fail
    refine (alive8_any _).mono ?_
    rintro e w1 ⟨rfl, hb1⟩
    have hk : Blk w1 w.heap.size 56 #[.int .i64 t, .int .i64 f, .int .i64 o] := (Blk.new w _ _).below hb1 (by simp)
    have hb : Below w.heap.size w w1 := ((Below.refl _ _).alloc (Nat.le_refl _) _).trans (hb1.mono (by simp))
    obtain ⟨d0, d1, d2, _, _, _⟩ := blk3 hk
    clear hb1
    go_wp2_with fail
    refine (hen _).mono ?_
    rintro e w2 ⟨rfl, hb2⟩
    have hk2 := hk.below hb2 hk.lt
    have hbb := hb.trans (hb2.mono hb.size)
    clear d0 d1 d2 hen hb hb2 hk
    go_wp2_with fail
    refine (decode_any [] 0 rfl none 0 w2 w2.heap.size Reads.none_ (Nat.le_refl _) (Nat.le_refl _) (by omega)).mono ?_
    rintro e w3 ⟨hd, hb3⟩
    have hk3 := hk2.below hb3 hk2.lt
    have hbb3 := hbb.trans (hb3.mono hbb.size)
    clear hk2 hbb hb3
    rcases hd with ⟨hyes, _⟩ | ⟨_, rfl⟩
    · exact absurd hyes not_decOk_nil
    · skip
      have hbA : Below w.heap.size w (w3.alloc (.cells #[.int .i64 0, .int .i64 0, .int .i64 0] 56)) := hbb3.alloc hbb3.size _
      have hk7 := Blk.new w3 56 #[.int .i64 0, .int .i64 0, .int .i64 0]
      have hkA := hk3.alloc (.cells #[.int .i64 0, .int .i64 0, .int .i64 0] 56)
      clear hbb3 hk3
      go_wp2_with fail
      refine (decode_any b b.length rfl A c _ w.heap.size (hr.below hbA) hbA.size hc (by omega)).mono ?_
      rintro e w4 ⟨hd, hb4⟩
      have hr4 := hr.below (hbA.trans (hb4.mono hbA.size))
      have hbB := hbA.trans (hb4.mono hbA.size)
      have hkB := hkA.below hb4 hkA.lt
      have hk8 := hk7.below hb4 hk7.lt
      clear hbA hk7 hkA hb4 hr
      rcases hd with ⟨hok, rfl⟩ | ⟨hno, rfl⟩
      · have hne := encode_ok (decU b) hok.ok
        have henc := Lib.hid hok.enc
        have hel := Lib.hid hok.len
        clear hok
        revert hne henc
        generalize decU b = u2
        obtain ⟨t2, f2, o2⟩ := u2
        intro hne henc
        simp only [Ub.val] at hne ⊢
        rw [henc.out] at hne
        clear henc
        go_wp2_with fail
        refine (hne _).mono ?_
        rintro e w5 ⟨v5, rfl, hown5, hb5⟩
        clear hne
        have hb45 : Below w4.heap.size w4 w5 := ((Below.refl _ _).alloc (Nat.le_refl _) (.cells #[.int .i64 t2, .int .i64 f2, .int .i64 o2] 56)).trans (hb5.mono (by simp))
        obtain ⟨A5, c5, rfl, _, _, hr5⟩ := own_form hown5
        have hs1 := str_of (P := Try.prog) (c := c5) hr5 hel.out.symm Try.underlying25 Try.underlying5 Try.underlying9
        have hs2 := str_of (P := Try.prog) (c := c) (hr4.below (hb45.mono hbB.size)) rfl Try.underlying25 Try.underlying5 Try.underlying9
        obtain ⟨d0, d1, d2, x0, x1, x2⟩ := blk3 (hkB.below hb45 hkB.lt)
        obtain ⟨e0, e1, e2, y0, y1, y2⟩ := blk3 (hk8.below hb45 hk8.lt)
        have hbC := hbB.trans (hb45.mono hbB.size)
        clear hb45 hb5 hown5 hr5 hr4 hkB hk8 hbB x0 x1 x2 y0 y1 y2 hc hn
        go_wp2_with fail
        repeat (refine (numU_any _ _).mono ?_; rintro e w6 ⟨rfl, rfl⟩; go_wp2_with fail)
        go_ret
        exact ⟨rfl, hbC⟩
      · go_wp2_with fail
        refine (encode_bad ⟨0, 0, 0⟩ not_ok_zero _).mono ?_
        rintro e w5 ⟨rfl, hb5⟩
        have hb45 : Below w4.heap.size w4 w5 := ((Below.refl _ _).alloc (Nat.le_refl _) (.cells #[.int .i64 0, .int .i64 0, .int .i64 0] 56)).trans (hb5.mono (by simp))
        obtain ⟨d0, d1, d2, x0, x1, x2⟩ := blk3 (hkB.below hb45 hkB.lt)
        obtain ⟨e0, e1, e2, y0, y1, y2⟩ := blk3 (hk8.below hb45 hk8.lt)
        have hbC := hbB.trans (hb45.mono hbB.size)
        clear hb45 hb5 hr4 hkB hk8 hbB x0 x1 x2 y0 y1 y2 hc hn
        go_wp2_with fail
        repeat (refine (numU_any _ _).mono ?_; rintro e w6 ⟨rfl, rfl⟩; go_wp2_with fail)
        go_ret
        exact ⟨rfl, hbC⟩

theorem uberBack_core (H : Type) (enc : TypeId × Value → H) (W : World) (args : Array Value) (ds : List (DataW H)) (h : ArgsIn enc Try.prog W [56, 25] args.toList ds) :
    LawCalls Try.prog 10 args W := by
  obtain ⟨v0, v1, d0, d1, rfl, rfl, h0, h1⟩ := argsIn2 h
  obtain ⟨u, rfl⟩ := h0.uber Try.underlying56 ⟨rfl, rfl, rfl⟩ Try.underlying3 (by kernel_rfl) (by kernel_rfl)
  obtain ⟨A, b, c, rfl, hc, hc2, hr, _⟩ := h1.bytes Try.underlying25 Try.underlying5 (by kernel_rfl) (by kernel_rfl)
  exact uberBack_any u b A c W hr hc hc2

theorem uberBack_spec {H : Type} {enc : TypeId × Value → H} (vs : List Value) (ds : List (DataW H)) (W : World) (p : List MemPlace) (h : DataW.TrodAll enc Try.prog W 0 (fun _ => true) true [56, 25] vs ds p) :
    (Rows.uberBackSpec.fn H ds).results = [.lit (.bool true)] ∧ (Rows.uberBackSpec.fn H ds).args = ds ∧ (Rows.uberBackSpec.fn H ds).vars = [] := by
  obtain ⟨_, _, d0, ds0, _, _, rfl, rfl, _, _, r0⟩ := trodAll_cons h
  obtain ⟨_, _, d1, ds1, _, _, rfl, rfl, _, _, r1⟩ := trodAll_cons r0
  obtain ⟨rfl, rfl, rfl⟩ := trodAll_nil r1
  exact ⟨rfl, rfl, rfl⟩

set_option maxRecDepth 100000 in
theorem uberBack_lifted (os : Os) (started : os.Started) (H : Type) (enc : TypeId × Value → H) :
    ReturnsInHanded {} Try.checked os 10 .any (Rows.uberBackSpec.pre6 enc Try.prog Try.f10 Rows.uberBackRow.domain false) (Rows.uberBackSpec.post enc Try.prog Try.f10 false true false false) := by
  refine returnsInHanded_of_change_sized (C := Try.checked) Try.own started (by kernel_rfl) Try.func10
    (ChangeSpec.witness6 (enc := enc) (C := Try.checked) false ⟨#[], #[.agg #[.int .i64 0, .int .i64 0, .int .i64 0], .slice none 0 0], []⟩ 8 (by kernel_rfl) (by kernel_rfl) (by kernel_rfl) (by kernel_rfl)) ?_
  intro W base args ds gs before hval hW _ hsz _
  exact law_contract Try.laidOut Try.underlying4 (ps := [56, 25]) rfl rfl rfl (by kernel_rfl) uberBack_spec W base args ds gs before hval hW hsz (fun h _ => uberBack_core H enc W args ds h)

theorem uberBack_holds : Rows.UberBackSaid :=
  OpenClaim.holds_of_wide 10 Try.f10 rfl rfl rfl rfl rfl rfl rfl ⟨rfl, rfl, rfl, rfl, rfl⟩ rfl rfl rfl rfl rfl (by kernel_rfl) Try.func10 (by kernel_rfl)
    (of_decide_eq_true (by kernel_rfl)) (by unfold Func.isWrapper; first | (rw [if_pos (by decide +kernel)]; kernel_rfl) | (rw [if_neg (by decide +kernel)]; exact ⟨rfl, rfl⟩))
    (fun os started H enc _ => uberBack_lifted os started H enc)

end Go.Proofs.Ytcchnoadclidcaa
