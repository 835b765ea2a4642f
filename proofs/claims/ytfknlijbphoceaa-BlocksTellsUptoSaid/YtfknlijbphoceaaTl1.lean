/-
  The page's Free of contents; blocks.Same; by their contracts.
-/
import Derived.Test.YtfknlijbphoceaaBkRef
import Derived.Test.YtfknlijbphoceaaBkFree
namespace Go.Proofs.Ytfknlijbphoceaa
open Go.RowKit

set_option maxRecDepth 100000 in
set_option maxHeartbeats 2000000 in
theorem rfree_any (l : BL) (n : Nat) (hnl : n = l.length) (A : Option Addr) (cp : Nat) (i c : Int) (w : World) (B : Nat) (hr : Reads w B 2 A n (bcells l)) (hB : B ≤ w.heap.size) (hn : n ≤ 5000000000000) :
    Calls Try.prog 19 #[.slice A n cp, .int .i64 i, .int .i64 c] w (FreePost w l i c) := by
  have hck := rcheck_any l n hnl A cp w B hr hB (by omega)
  by_cases hok : okL l = true
  · have h1 : okE l = 0 := by unfold okE; rw [if_pos hok]
    rw [h1] at hck
    by_cases hi : 0 ≤ i ∧ i < 1024 ∧ 1 ≤ c ∧ c ≤ 1024 - i
    · have hfe : freeE l i c = 0 := by unfold freeE; rw [if_pos hok, if_pos hi]
      have hfr : freeR l i c = freeL l i c := by unfold freeR; rw [if_pos hfe]
      obtain ⟨i1, i2, i3, i4⟩ := hi
      obtain ⟨i0, hi0, hz0, hz1, hz2⟩ := info_parts Try.infoB
      have hs := okL_small l hok
      have HFE := Lib.hid hfe
      have HFR := Lib.hid hfr
      have HN := Lib.hid hnl
      have hn1 : n ≤ 1024 := by omega
      have hw1 : IntKind.i64.wrap (i + c) = i + c := IntWalk.i64_in _ (by omega)
      clear hfe hfr h1 hok hnl hs
      go_enter Try.func19, Try.ntmps19
      go_wp2_with fail
      refine hck.mono ?_
      clear hck
      rintro e w1 ⟨rfl, hb1⟩
      go_wp2_with fail
      go_loopw [8, 9] (fun v j wr => ∃ k q : Nat, k ≤ n ∧ j = .int .i64 (k : Int) ∧ Hid (q = ((l.take k).filter fun x => !inB i c x).length) ∧ wr.ownsRow w1.heap.size 30 2 v q (bcells ((l.take k).filter fun x => !inB i c x)) ∧ Below w.heap.size w wr ∧ Below w1.heap.size w1 wr) (fun _ j _ => n - (intOf j).toNat)
      case atStart => exact ⟨0, 0, Nat.zero_le _, rfl, (show _ = _ by simp), World.ownsRow_nil _ _ _ _, hb1, Below.refl _ _⟩
      case round =>
        obtain ⟨k, q, hk, rfl, hq, hown, hbw, hbw1⟩ := hrel
        have HQ := Lib.hid hq.out
        have hqn : q ≤ n := by
          have h1 := HQ.out
          have h2 := List.length_filter_le (fun x => !inB i c x) (l.take k)
          have h3 := List.length_take_le k l
          omega
        have hsz := hbw.size
        have hsz1 := hbw1.size
        obtain ⟨A1, c1, rfl, _, _, _⟩ := own_form hown
        have HOWN := Lib.hid hown
        clear hown hq
        by_cases hkn : k < n
        · have hrw := hr.below (hbw.mono hB)
          obtain ⟨ad, rfl, hadB, e0, e1⟩ := hrw.blk2 HN.out hkn
          have hkl : k < l.length := by have := HN.out; omega
          obtain ⟨x, hx⟩ : ∃ x, x = l[k]'hkl := ⟨_, rfl⟩
          rw [← hx] at e0 e1
          have htk := List.take_succ_eq_append_getElem hkl
          rw [← hx] at htk
          have HTK := Lib.hid htk
          obtain ⟨xi, xs⟩ := x
          simp only at e0 e1
          have hki : (k : Int) < (n : Int) := by omega
          clear hx htk hrw hr
          by_cases h1 : xi < i
          · have HIN : Hid (inB i c (xi, xs) = false) := by show _ = _; unfold inB; simp; omega
            go_wp2_with (at_builtin; (refine wpList_push _ rfl (.tmp 53) (.tmp 58) 22 rfl w1.heap.size 30 i0 (.agg #[.int .i64 0, .string ByteArray.empty]) 2 24 Try.underlying22 hi0 hz0 hz1 hz2 rfl (by decide) (.slice A1 q c1) q _ rfl HOWN.out 1 #[.int .i64 xi, .string ⟨xs.toArray⟩] 30 rfl rfl (by simp [Value.oneCell']) (by unfold maxLen; omega) (by omega) hsz1 ?_); intro v2 w2 hown2 hb2 hg2; have HO2 := Lib.hid hown2; have HB2 := Lib.hid hb2; clear hown2 hb2 hg2)
            go_roundw
            case rel => exact ⟨k + 1, q + 1, by omega, by go_num, by rw [HTK.out, List.filter_append, List.filter_cons_of_pos (by rw [HIN.out]; rfl)]; show _ = _; rw [List.length_append]; simp [HQ.out], by rw [HTK.out, List.filter_append, List.filter_cons_of_pos (by rw [HIN.out]; rfl), bcells_append]; exact HO2.out, hbw.trans (HB2.out.mono hb1.size), hbw1.trans HB2.out⟩
            case measure => simp [intOf]; omega
          · by_cases h2 : xi < i + c
            · have HIN : Hid (inB i c (xi, xs) = true) := by show _ = _; unfold inB; simp; omega
              go_wp2_with fail
              go_roundw
              case rel => exact ⟨k + 1, q, by omega, by go_num, by rw [HTK.out, List.filter_append, List.filter_cons_of_neg (by rw [HIN.out]; simp), List.filter_nil, List.append_nil]; exact HQ.out, by rw [HTK.out, List.filter_append, List.filter_cons_of_neg (by rw [HIN.out]; simp), List.filter_nil, List.append_nil]; exact HOWN.out, hbw, hbw1⟩
              case measure => simp [intOf]; omega
            · have HIN : Hid (inB i c (xi, xs) = false) := by show _ = _; unfold inB; simp; omega
              go_wp2_with (at_builtin; (refine wpList_push _ rfl (.tmp 53) (.tmp 58) 22 rfl w1.heap.size 30 i0 (.agg #[.int .i64 0, .string ByteArray.empty]) 2 24 Try.underlying22 hi0 hz0 hz1 hz2 rfl (by decide) (.slice A1 q c1) q _ rfl HOWN.out 1 #[.int .i64 xi, .string ⟨xs.toArray⟩] 30 rfl rfl (by simp [Value.oneCell']) (by unfold maxLen; omega) (by omega) hsz1 ?_); intro v2 w2 hown2 hb2 hg2; have HO2 := Lib.hid hown2; have HB2 := Lib.hid hb2; clear hown2 hb2 hg2)
              go_roundw
              case rel => exact ⟨k + 1, q + 1, by omega, by go_num, by rw [HTK.out, List.filter_append, List.filter_cons_of_pos (by rw [HIN.out]; rfl)]; show _ = _; rw [List.length_append]; simp [HQ.out], by rw [HTK.out, List.filter_append, List.filter_cons_of_pos (by rw [HIN.out]; rfl), bcells_append]; exact HO2.out, hbw.trans (HB2.out.mono hb1.size), hbw1.trans HB2.out⟩
              case measure => simp [intOf]; omega
        · have hfin : (l.take k).filter (fun x => !inB i c x) = freeL l i c := by
            rw [List.take_of_length_le (by have := HN.out; omega)]; rfl
          have HFIN := Lib.hid hfin
          clear hfin hr
          go_wp2_with fail
          go_ret2
          refine ⟨_, by rw [HFE.out]; rfl, ?_, hbw⟩
          have h1 := HOWN.out
          rw [HFIN.out] at h1
          rw [HFR.out, show (freeL l i c).length = q by rw [← HFIN.out]; exact HQ.out.symm]
          exact own_mono h1 hb1.size
    · have hfe : freeE l i c = 4 := by unfold freeE; rw [if_pos hok, if_neg hi]
      have hfr : freeR l i c = [] := by unfold freeR; rw [if_neg (by omega)]
      have HFE := Lib.hid hfe
      have HFR := Lib.hid hfr
      clear hfe hfr h1 hok hnl hr
      have hw : 0 ≤ i → i < 1024 → IntKind.i64.wrap (1024 - i) = 1024 - i := fun _ _ => IntWalk.i64_in _ (by omega)
      by_cases ha : i < 0
      · clear hi hw
        go_enter Try.func19, Try.ntmps19
        go_wp2_with fail
        refine hck.mono ?_
        clear hck
        rintro e w1 ⟨rfl, hb1⟩
        go_wp2_with fail
        go_ret2
        refine ⟨.slice none 0 0, by rw [HFE.out]; rfl, ?_, hb1⟩
        rw [HFR.out]
        exact World.ownsRow_nil _ _ _ _
      by_cases hb : 1024 ≤ i
      · have ha' : 0 ≤ i := by omega
        clear hi hw ha
        go_enter Try.func19, Try.ntmps19
        go_wp2_with fail
        refine hck.mono ?_
        clear hck
        rintro e w1 ⟨rfl, hb1⟩
        go_wp2_with fail
        go_ret2
        refine ⟨.slice none 0 0, by rw [HFE.out]; rfl, ?_, hb1⟩
        rw [HFR.out]
        exact World.ownsRow_nil _ _ _ _
      have ha' : 0 ≤ i := by omega
      have hb' : i < 1024 := by omega
      by_cases hc : c < 1
      · clear hi hw ha hb
        go_enter Try.func19, Try.ntmps19
        go_wp2_with fail
        refine hck.mono ?_
        clear hck
        rintro e w1 ⟨rfl, hb1⟩
        go_wp2_with fail
        go_ret2
        refine ⟨.slice none 0 0, by rw [HFE.out]; rfl, ?_, hb1⟩
        rw [HFR.out]
        exact World.ownsRow_nil _ _ _ _
      · have hc' : 1 ≤ c := by omega
        have hd : 1024 - i < c := by omega
        have hw := hw ha' hb'
        clear hi ha hb hc
        go_enter Try.func19, Try.ntmps19
        go_wp2_with fail
        refine hck.mono ?_
        clear hck
        rintro e w1 ⟨rfl, hb1⟩
        go_wp2_with fail
        go_ret2
        refine ⟨.slice none 0 0, by rw [HFE.out]; rfl, ?_, hb1⟩
        rw [HFR.out]
        exact World.ownsRow_nil _ _ _ _
  · have h1 : okE l = 9 := by unfold okE; rw [if_neg hok]
    rw [h1] at hck
    have hfe : freeE l i c = 9 := by unfold freeE; rw [if_neg hok]
    have hfr : freeR l i c = [] := by unfold freeR; rw [if_neg (by omega)]
    have HFE := Lib.hid hfe
    have HFR := Lib.hid hfr
    clear hfe hfr h1 hok hnl hr
    go_enter Try.func19, Try.ntmps19
    go_wp2_with fail
    refine hck.mono ?_
    clear hck
    rintro e w1 ⟨rfl, hb1⟩
    go_wp2_with fail
    go_ret2
    refine ⟨.slice none 0 0, by rw [HFE.out]; rfl, ?_, hb1⟩
    rw [HFR.out]
    exact World.ownsRow_nil _ _ _ _
set_option maxRecDepth 100000 in
set_option maxHeartbeats 1000000 in
theorem equalB_any (l m : BL) (n n' : Nat) (hnl : n = l.length) (hnm : n' = m.length) (A A' : Option Addr) (c c' : Nat) (w : World) (B B' : Nat) (hr : Reads w B 2 A n (bcells l)) (hr' : Reads w B' 2 A' n' (bcells m)) (hn : n ≤ 140737488351232) :
    Calls Try.prog 42 #[.slice A n c, .slice A' n' c'] w fun e w' => e = .returned (.bool (l == m)) ∧ ∃ q, w' = w.drewN q := by
  by_cases hlen : n = n'
  · have e1 : ((n : Int) == (n' : Int)) = true := by simp [hlen]
    have e2 : ((n : Int) != (n' : Int)) = false := by simp [hlen]
    have HL := Lib.hid hlen
    have HN := Lib.hid hnl
    have HM := Lib.hid hnm
    clear hnl hnm hlen
    go_enter Try.func42, Try.ntmps42
    go_wp2_with fail
    clear e1 e2
    go_loopw [13] (fun j wr => ∃ k q : Nat, k ≤ n ∧ j = .int .i64 (k : Int) ∧ Hid (l.take k = m.take k) ∧ wr = w.drewN q) (fun j _ => n - (intOf j).toNat)
    case atStart => exact ⟨0, 0, Nat.zero_le _, rfl, (show _ = _ by simp), rfl⟩
    case round =>
      obtain ⟨k, q, hk, rfl, heq, rfl⟩ := hrel
      by_cases hlt : k < n
      · obtain ⟨ad, rfl, _, c0, c1⟩ := hr.blk2 HN.out hlt
        obtain ⟨ad', rfl, _, c0', c1'⟩ := hr'.blk2 HM.out (k := k) (by have := HL.out; omega)
        have hki : (k : Int) < (n : Int) := by omega
        have hki' : (k : Int) < (n' : Int) := by have := HL.out; omega
        have hkl : k < l.length := by have := HN.out; omega
        have hkm : k < m.length := by have := HL.out; have := HN.out; have := HM.out; omega
        obtain ⟨x, hx⟩ : ∃ x, x = l[k]'hkl := ⟨_, rfl⟩
        obtain ⟨y, hy⟩ : ∃ y, y = m[k]'hkm := ⟨_, rfl⟩
        rw [← hx] at c0 c1
        rw [← hy] at c0' c1'
        have htl := List.take_succ_eq_append_getElem hkl
        have htm := List.take_succ_eq_append_getElem hkm
        rw [← hx] at htl
        rw [← hy] at htm
        have HX := Lib.hid hx
        have HY := Lib.hid hy
        have HTL := Lib.hid htl
        have HTM := Lib.hid htm
        obtain ⟨xi, xs⟩ := x
        obtain ⟨yi, ys⟩ := y
        simp only at c0 c1 c0' c1'
        clear hx hy htl htm hr hr'
        go_wp2_with fail
        by_cases hxy : xi = yi
        · subst hxy
          by_cases hss : xs = ys
          · subst hss
            have hnext : Hid (l.take (k + 1) = m.take (k + 1)) := by
              show _ = _
              rw [HTL.out, HTM.out, heq.out]
            clear heq HTL HTM HX HY
            go_big_quiet (fail)
            go_wp2_with fail
            go_roundw
            case rel => exact ⟨k + 1, q + nq, by omega, by go_num, hnext, rfl⟩
            case measure => simp [intOf]; omega
          · have hb1 : (xs == ys) = false := by simpa using hss
            have hb2 : (xs != ys) = true := by simpa using hss
            have HF : Hid ((l == m) = false) := by
              show _ = _
              cases h : (l == m) with
              | false => rfl
              | true =>
                have e := eq_of_beq h
                subst e
                exact absurd (HX.out.trans HY.out.symm) (by intro e; injection e with e1 e2; exact hss e2)
            clear hss heq HX HY HTL HTM
            go_big_quiet (fail)
            go_wp2_with fail
            go_ret
            exact ⟨by rw [HF.out]; rfl, q + nq, World.drewN_drewN _ _ _⟩
        · have hb1 : (xi == yi) = false := by simpa using hxy
          have hb2 : (xi != yi) = true := by simpa using hxy
          have HF : Hid ((l == m) = false) := by
            show _ = _
            cases h : (l == m) with
            | false => rfl
            | true =>
              have e := eq_of_beq h
              subst e
              exact absurd (HX.out.trans HY.out.symm) (by intro e; injection e with e1 e2; exact hxy e1)
          clear hxy heq HX HY HTL HTM
          go_big_quiet (fail)
          go_wp2_with fail
          go_ret
          exact ⟨by rw [HF.out]; rfl, q + nq, World.drewN_drewN _ _ _⟩
      · obtain rfl : k = n := by omega
        have HF : Hid ((l == m) = true) := by
          show _ = _
          have h1 := heq.out
          rw [List.take_of_length_le (by rw [HN.out]; exact Nat.le_refl _), List.take_of_length_le (by rw [HL.out, HM.out]; exact Nat.le_refl _)] at h1
          rw [h1]
          exact beq_self_eq_true m
        clear heq hr hr'
        go_wp2_with fail
        go_ret
        exact ⟨by rw [HF.out]; rfl, q, rfl⟩
  · have e1 : ((n : Int) == (n' : Int)) = false := by simp; omega
    have e2 : ((n : Int) != (n' : Int)) = true := by simp; omega
    have e3 : ¬ (n : Int) = (n' : Int) := by omega
    have hne : (l == m) = false := by
      cases h : (l == m) with
      | false => rfl
      | true => exact absurd (by rw [hnl, hnm, (eq_of_beq h : l = m)]) hlen
    have HNE := Lib.hid hne
    clear hnl hnm hne hr hr'
    go_enter Try.func42, Try.ntmps42
    go_wp2_with fail
    go_ret
    exact ⟨by rw [HNE.out]; rfl, 0, rfl⟩


set_option maxRecDepth 100000 in
theorem bsame_any (l m : BL) (n n' : Nat) (hnl : n = l.length) (hnm : n' = m.length) (A A' : Option Addr) (c c' : Nat) (w : World) (B B' : Nat) (hr : Reads w B 2 A n (bcells l)) (hr' : Reads w B' 2 A' n' (bcells m)) (hn : n ≤ 140737488351232) :
    Calls Try.prog 26 #[.slice A n c, .slice A' n' c'] w fun e w' => e = .returned (.bool (l == m)) ∧ ∃ q, w' = w.drewN q := by
  have h := equalB_any l m n n' hnl hnm A A' c c' w B B' hr hr' hn
  generalize (l == m) = r at h ⊢
  clear hnl hnm hr hr'
  go_enter Try.func26, Try.ntmps26
  go_wp2_with fail
  refine h.mono ?_
  clear h
  rintro e w1 ⟨rfl, q, rfl⟩
  go_wp2_with fail
  go_ret
  exact ⟨rfl, q, rfl⟩
end Go.Proofs.Ytfknlijbphoceaa
