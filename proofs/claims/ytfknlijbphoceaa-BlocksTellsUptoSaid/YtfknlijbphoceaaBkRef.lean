/-
  The page's Check, Own, Put of contents, by their contracts.
-/
import Derived.Test.YtfknlijbphoceaaBkPut
namespace Go.Proofs.Ytfknlijbphoceaa
open Go.RowKit

set_option maxRecDepth 100000 in
set_option maxHeartbeats 2000000 in
theorem rcheck_any (l : BL) (n : Nat) (hnl : n = l.length) (A : Option Addr) (c : Nat) (w : World) (B : Nat) (hr : Reads w B 2 A n (bcells l)) (hB : B ≤ w.heap.size) (hn : n ≤ 140737488351232) :
    Calls Try.prog 23 #[.slice A n c] w (CheckBk w (okE l)) := by
  have HN := Lib.hid hnl
  clear hnl
  go_enter Try.func23, Try.ntmps23
  go_wp2_with fail
  go_loopw [3] (fun j wr => ∃ k : Nat, k ≤ n ∧ j = .int .i64 (k : Int) ∧ Hid (okL l = okFrom (prevAt l k) (l.drop k)) ∧ Below w.heap.size w wr) (fun j _ => n - (intOf j).toNat)
  case atStart => exact ⟨0, Nat.zero_le _, rfl, rfl, Below.refl _ _⟩
  case round =>
    obtain ⟨k, hk, rfl, hok, hbw⟩ := hrel
    by_cases hlt : k < n
    · have hrw := hr.below (hbw.mono hB)
      obtain ⟨ad, rfl, hadB, c0, c1⟩ := hrw.blk2 HN.out hlt
      have hki : (k : Int) < (n : Int) := by omega
      have hkl : k < l.length := by have := HN.out; omega
      obtain ⟨x, hx⟩ : ∃ x, x = l[k]'hkl := ⟨_, rfl⟩
      rw [← hx] at c0 c1
      have hdr := List.drop_eq_getElem_cons hkl
      rw [← hx] at hdr
      have HX := Lib.hid hx
      have HDR := Lib.hid hdr
      obtain ⟨xi, xs⟩ := x
      simp only at c0 c1
      have hbad : Hid ((xi < 0 ∨ 1024 ≤ xi ∨ xs.length ≠ 16 ∨ (∃ y, prevAt l k = some y ∧ xi ≤ y)) → okE l = 9) := by
        intro h
        have hf : okL l = false := by
          rw [hok.out, HDR.out]
          cases hfv : okFrom (prevAt l k) ((xi, xs) :: l.drop (k + 1)) with
          | false => rfl
          | true =>
            exfalso
            simp only [okFrom, Bool.and_eq_true, decide_eq_true_eq] at hfv
            obtain ⟨⟨⟨⟨h1, h2⟩, h3⟩, h4⟩, _⟩ := hfv
            rcases h with h | h | h | ⟨y, hy, h⟩
            · omega
            · omega
            · exact h h3
            · rw [hy] at h4; simp at h4; omega
        unfold okE
        rw [hf]
        rfl
      have hgood : Hid ((0 ≤ xi ∧ xi < 1024 ∧ xs.length = 16 ∧ (∀ y, prevAt l k = some y → y < xi)) → okL l = okFrom (prevAt l (k + 1)) (l.drop (k + 1))) := by
        rintro ⟨h1, h2, h3, h4⟩
        rw [hok.out, HDR.out]
        have hp : prevAt l (k + 1) = some xi := by
          show (l[k]?).map (·.1) = _
          rw [List.getElem?_eq_getElem hkl, ← HX.out]
          rfl
        rw [hp]
        simp only [okFrom, h1, h2, h3, decide_true, Bool.true_and]
        cases hq : prevAt l k with
        | none => rfl
        | some y => simp [h4 y hq]
      clear hx hdr hok
      by_cases g1 : xi < 0
      · have HB := Lib.hid (hbad.out (.inl g1))
        clear hr hrw hbad hgood
        go_wp2_with fail
        go_big_quiet (fail)
        go_wp2_with fail
        go_ret
        exact ⟨by rw [HB.out]; rfl, below_drewN hbw nq⟩
      by_cases g2 : 1024 ≤ xi
      · have HB := Lib.hid (hbad.out (.inr (.inl g2)))
        have d1 : decide (xi < 0) = false := by simp; omega
        have d2 : decide (1024 ≤ xi) = true := by simp; omega
        clear hr hrw hbad hgood g1 g2
        go_wp2_with fail
        go_big_quiet (fail)
        go_wp2_with fail
        go_ret
        exact ⟨by rw [HB.out]; rfl, below_drewN hbw nq⟩
      by_cases g3 : xs.length = 16
      · have g1' : 0 ≤ xi := by omega
        have g2' : xi < 1024 := by omega
        have g3a : ((xs.length : Int) == 16) = true := by simp [g3]
        have g3b : ((xs.length : Int) != 16) = false := by simp [g3]
        have d1 : decide (xi < 0) = false := by simp; omega
        have d2 : decide (1024 ≤ xi) = false := by simp; omega
        rcases Nat.eq_zero_or_pos k with h0 | h0
        · have HG := Lib.hid (hgood.out ⟨g1', g2', g3, fun y hy => by subst h0; cases hy⟩)
          have d4 : decide ((0 : Int) < (k : Int)) = false := by simp; omega
          have d4' : decide (0 < k) = false := by simp; omega
          have H0 := Lib.hid h0
          clear hr hrw hbad hgood g1 g2 g3 h0
          go_wp2_with fail
          go_big_quiet (fail)
          go_wp2_with fail
          go_roundw
          case rel => exact ⟨k + 1, by omega, by go_num, HG, below_drewN hbw nq⟩
          case measure => simp [intOf]; omega
        · have d4 : decide ((0 : Int) < (k : Int)) = true := by simp; omega
          have d4' : decide (0 < k) = true := by simp; omega
          have hk1l : k - 1 < l.length := by omega
          obtain ⟨y, hy⟩ : ∃ y, y = (l[k - 1]'hk1l).1 := ⟨_, rfl⟩
          have hpv : prevAt l k = some y := by
            obtain ⟨j, rfl⟩ : ∃ j, k = j + 1 := ⟨k - 1, by omega⟩
            show (l[j]?).map (·.1) = _
            have hj : j < l.length := by simpa using hk1l
            rw [List.getElem?_eq_getElem hj, hy]
            rfl
          have hcp := (hrw.blk2 HN.out (k := k - 1) (by omega))
          obtain ⟨ad2, e2, -, c2, -⟩ := hcp
          injection e2 with e2
          subst e2
          rw [← hy] at c2
          have i1 : (0 : Int) ≤ (k : Int) - 1 := by omega
          have i2 : (k : Int) - 1 < (n : Int) := by omega
          have i3 : IntKind.i64.wrap ((k : Int) - 1) = (k : Int) - 1 := IntWalk.i64_in _ (by omega)
          have i4 : ((k : Int) - 1).toNat = k - 1 := by omega
          by_cases g5 : y < xi
          · have HG := Lib.hid (hgood.out ⟨g1', g2', g3, fun y' hy' => by rw [hpv] at hy'; cases hy'; exact g5⟩)
            have d5 : decide (xi ≤ y) = false := by simp; omega
            clear hr hrw hbad hgood g1 g2 g3 h0 hpv hy g5
            go_wp2_with fail
            go_big_quiet (fail)
            clear i3 i4
            go_wp2_with fail
            go_roundw
            case rel => exact ⟨k + 1, by omega, by go_num, HG, below_drewN hbw nq⟩
            case measure => simp [intOf]; omega
          · have HB := Lib.hid (hbad.out (.inr (.inr (.inr ⟨y, hpv, by omega⟩))))
            have d5 : decide (xi ≤ y) = true := by simp; omega
            clear hr hrw hbad hgood g1 g2 g3 h0 hpv hy g5
            go_wp2_with fail
            go_big_quiet (fail)
            clear i3 i4
            go_wp2_with fail
            go_ret
            exact ⟨by rw [HB.out]; rfl, below_drewN hbw nq⟩
      · have g3a : ((xs.length : Int) == 16) = false := by simp; omega
        have g3b : ((xs.length : Int) != 16) = true := by simp; omega
        have g1' : 0 ≤ xi := by omega
        have g2' : xi < 1024 := by omega
        have HB := Lib.hid (hbad.out (.inr (.inr (.inl g3))))
        have d1 : decide (xi < 0) = false := by simp; omega
        have d2 : decide (1024 ≤ xi) = false := by simp; omega
        clear hr hrw hbad hgood g1 g2 g3
        go_wp2_with fail
        go_big_quiet (fail)
        go_wp2_with fail
        go_ret
        exact ⟨by rw [HB.out]; rfl, below_drewN hbw nq⟩
    · obtain rfl : k = n := by omega
      have HF : Hid (okE l = 0) := by
        show _ = _
        unfold okE
        rw [hok.out, List.drop_of_length_le (by rw [HN.out]; exact Nat.le_refl _)]
        rfl
      clear hok hr
      go_wp2_with fail
      go_ret
      exact ⟨by rw [HF.out]; rfl, hbw⟩

set_option maxRecDepth 100000 in
theorem rown_any (xs : List Value) (n : Nat) (A : Option Addr) (c : Nat) (w : World) (B : Nat) (hr : Reads w B 2 A n xs) (h1 : ∀ u ∈ xs, u.oneCell' = true) (hn : n ≤ 5000000000000) :
    Calls Try.prog 9 #[.slice A n c] w fun e w' => ∃ v, e = .returned v ∧ w'.ownsRow w.heap.size 30 2 v n xs ∧ Below w.heap.size w w' := by
  obtain ⟨i0, hi0, hz0, hz1, hz2⟩ := info_parts Try.infoB
  go_enter Try.func9, Try.ntmps9
  go_wp2_with (at_builtin; (refine wpList_append_any _ rfl (.tmp 4) (.tmp 5) _ rfl w.heap.size 30 i0 _ 2 24 Try.underlying22 hi0 hz0 hz1 hz2 rfl (by omega) (.slice none 0 0) 0 [] rfl (World.ownsRow_nil _ _ _ _) B A n c xs rfl hr h1 (by unfold maxLen; omega) (by omega) (Nat.le_refl _) ?_); intro v1 w1 hown1 hg1 _)
  go_ret
  refine ⟨v1, rfl, by simpa using hown1, grown_none_below hg1⟩

theorem posF_at (l : BL) (t : Int) (k : Nat) (hk : k ≤ l.length) (h1 : ∀ x ∈ l.take k, x.1 < t) (h2 : ∀ x, l[k]? = some x → t ≤ x.1) : posF (cfB t) l = k := by
  refine posF_eq (cfB t) l k hk (fun j x hj hx => ?_) (fun x hx => ?_)
  · unfold cfB
    rw [cmpI_neg]
    exact h1 x (List.mem_of_getElem? (by rw [List.getElem?_take, if_pos hj]; exact hx))
  · have := h2 x hx
    have h3 := cmpI_neg x.1 t
    unfold cfB
    rcases Int.lt_or_le (cmpI x.1 t) 0 with h | h
    · have := h3.1 h; omega
    · exact h
theorem atF_at (l : BL) (t : Int) (k : Nat) (hp : posF (cfB t) l = k) (x : Int × List UInt8) (hx : l[k]? = some x) : atF (cfB t) l = (x.1 == t) := by
  unfold atF
  rw [hp, hx]
  show (cmpI x.1 t == 0) = _
  rw [Bool.eq_iff_iff]
  simp [cmpI_zero]
theorem atF_end (l : BL) (t : Int) (k : Nat) (hp : posF (cfB t) l = k) (hx : l.length ≤ k) : atF (cfB t) l = false := by
  unfold atF
  rw [hp, List.getElem?_eq_none hx]
  rfl

set_option maxRecDepth 100000 in
set_option maxHeartbeats 2000000 in
theorem rput_any (l : BL) (n : Nat) (hnl : n = l.length) (A : Option Addr) (c : Nat) (hnc : n ≤ c) (hcm : c ≤ 9223372036854775807) (i : Int) (d : List UInt8) (w : World) (B : Nat) (hr : Reads w B 2 A n (bcells l)) (hB : B ≤ w.heap.size) (hn : n ≤ 5000000000000) :
    Calls Try.prog 12 #[.slice A n c, .int .i64 i, .string ⟨d.toArray⟩] w (PutPost w l i d) := by
  have hck := rcheck_any l n hnl A c w B hr hB (by omega)
  by_cases hok : okL l = true
  · have h1 : okE l = 0 := by unfold okE; rw [if_pos hok]
    rw [h1] at hck
    by_cases hi : 0 ≤ i ∧ i < 1024
    · obtain ⟨hi1, hi2⟩ := hi
      by_cases hdl : d.length = 16
      · have hpe : putE l i d = 0 := by unfold putE; rw [if_pos hok, if_pos ⟨hi1, hi2⟩, if_pos hdl]
        have hs := okL_small l hok
        obtain ⟨i0, hi0, hz0, hz1, hz2⟩ := info_parts Try.infoB
        have HPE := Lib.hid hpe
        have HASC := Lib.hid (okL_asc l hok)
        have HN := Lib.hid hnl
        have g3a : ((d.length : Int) == 16) = true := by simp [hdl]
        have g3b : ((d.length : Int) != 16) = false := by simp [hdl]
        have hn1 : n ≤ 1024 := by omega
        clear hnl hdl hpe h1 hok hs
        go_enter Try.func12, Try.ntmps12
        go_wp2_with fail
        refine hck.mono ?_
        clear hck
        rintro e w1 ⟨rfl, hb1⟩
        go_wp2_with fail
        clear g3a g3b
        go_loopw [8, 9] (fun v j wr => ∃ k : Nat, k ≤ n ∧ j = .int .i64 (k : Int) ∧ Hid (∀ x ∈ l.take k, x.1 < i) ∧ wr.ownsRow w1.heap.size 30 2 v k (bcells (l.take k)) ∧ Below w.heap.size w wr ∧ Below w1.heap.size w1 wr) (fun _ j _ => n - (intOf j).toNat)
        case atStart => exact ⟨0, Nat.zero_le _, rfl, (show ∀ x ∈ _, _ by simp), World.ownsRow_nil _ _ _ _, hb1, Below.refl _ _⟩
        case round =>
          obtain ⟨k, hk, rfl, hlt, hown, hbw, hbw1⟩ := hrel
          have hsz := hbw.size
          have hsz1 := hbw1.size
          obtain ⟨A1, c1, rfl, _, _, _⟩ := own_form hown
          by_cases hkn : k < n
          · have hrw := hr.below (hbw.mono hB)
            obtain ⟨ad, rfl, hadB, e0, e1⟩ := hrw.blk2 HN.out hkn
            have hkl : k < l.length := by have := HN.out; omega
            obtain ⟨x, hx⟩ : ∃ x, x = l[k]'hkl := ⟨_, rfl⟩
            rw [← hx] at e0 e1
            have htk := List.take_succ_eq_append_getElem hkl
            rw [← hx] at htk
            have HX := Lib.hid (show l[k]? = some x by rw [hx]; exact List.getElem?_eq_getElem _)
            have HTK := Lib.hid htk
            obtain ⟨xi, xs⟩ := x
            simp only at e0 e1
            have hki : (k : Int) < (n : Int) := by omega
            clear hx htk
            by_cases hxi : xi < i
            · have HLT : Hid (∀ x ∈ l.take (k + 1), x.1 < i) := by
                intro x hx
                rw [HTK.out, List.mem_append] at hx
                rcases hx with hx | hx
                · exact hlt.out x hx
                · simp at hx; subst hx; exact hxi
              have hpush := hown
              clear hlt hrw hr
              go_wp2_with (at_builtin; (refine wpList_push _ rfl (.tmp 35) (.tmp 40) 22 rfl w1.heap.size 30 i0 (.agg #[.int .i64 0, .string ByteArray.empty]) 2 24 Try.underlying22 hi0 hz0 hz1 hz2 rfl (by decide) (.slice A1 k c1) k (bcells (l.take k)) rfl hpush 1 #[.int .i64 xi, .string ⟨xs.toArray⟩] 30 rfl rfl (by simp [Value.oneCell']) (by unfold maxLen; omega) (by omega) hsz1 ?_); intro v2 w2 hown2 hb2 hg2)
              go_roundw
              case rel =>
                refine ⟨k + 1, by omega, by go_num, HLT, ?_, hbw.trans (hb2.mono hb1.size), hbw1.trans hb2⟩
                rw [HTK.out, bcells_append]
                exact hown2
              case measure => simp [intOf]; omega
            · have hle : i ≤ xi := by omega
              have hadw : (ad.add (k * 2)).block < w1.heap.size := by rw [block_of_add]; have := hb1.size; omega
              have hbE := Lib.hid (fun w2 (hb2 : Below w1.heap.size wr w2) => hb2.cell (p := ad.add (k * 2)) hadw)
              have hpos := posF_at l i k (by omega) hlt.out (fun x hx => by have := HX.out; rw [hx] at this; cases this; exact hle)
              have hatk := atF_at l i k hpos (xi, xs) HX.out
              by_cases hxe : xi = i
              · have HFIN : Hid (putL11 l i d = l.take k ++ [(i, d)] ++ l.drop (k + 1)) := by
                  show _ = _
                  unfold putL11
                  rw [hpos, hatk, if_pos (by simp [hxe])]
                obtain rfl : i = xi := hxe.symm
                clear hlt hrw hpos hatk hle hxi hxe
                by_cases hcj : c = k + 1
                · have hrest := fun w2 (hb2 : Below w1.heap.size w1 w2) => (hr.below ((hb1.trans (hb2.mono hb1.size)).mono hB)).cut (k := k + 1) (by omega) hnc
                  simp only [if_pos hcj] at hrest
                  clear hr
                  go_wp2_with (first
                    | (at_builtin; (refine wpList_push _ rfl (.tmp 44) (.tmp 48) 22 rfl w1.heap.size 30 i0 (.agg #[.int .i64 0, .string ByteArray.empty]) 2 24 Try.underlying22 hi0 hz0 hz1 hz2 rfl (by decide) (.slice A1 k c1) k (bcells (l.take k)) rfl hown 1 #[.int .i64 i, .string ⟨d.toArray⟩] 30 rfl rfl (by simp [Value.oneCell']) (by unfold maxLen; omega) (by omega) hsz1 ?_); intro v2 w2 hown2 hb2 hg2; have hbw2 := hbw1.trans hb2; have hrest2 := hrest w2 hbw2;  have e0b := (hbE.out w2 hb2).trans e0; clear e0; clear hrest; obtain ⟨A2, c2, rfl, _, _, _⟩ := own_form hown2)
                    | (at_builtin; (refine wpList_append_any _ rfl (.tmp 65) (.tmp 68) _ rfl w1.heap.size 30 i0 _ 2 24 Try.underlying22 hi0 hz0 hz1 hz2 rfl (by omega) (.slice A2 (k + 1) c2) (k + 1) _ rfl hown2 B _ _ _ _ rfl hrest2 (fun u hu => bcells_one l u (List.mem_of_mem_drop hu)) (by unfold maxLen; omega) (by omega) hbw2.size ?_); intro v3 w3 hown3 hg3 _))
                  go_ret2
                  refine ⟨v3, by rw [HPE.out]; rfl, ?_, hb1.trans (hbw2.mono hb1.size) |>.grown hg3 (by have := hbw2.size; have := hb1.size; omega) (fun r hr => by have := (hown2.lt r hr).1; have := hb1.size; omega)⟩
                  rw [if_pos HPE.out, HFIN.out]
                  have e : (l.take k ++ [(i, d)] ++ l.drop (k + 1)).length = k + 1 + (n - (k + 1)) := by simp only [List.length_append, List.length_take, List.length_drop, List.length_cons, List.length_nil]; have := HN.out; omega
                  rw [e, bcells_append, bcells_append, bcells_drop]
                  exact own_mono hown3 hb1.size
                · have hrest := fun w2 (hb2 : Below w1.heap.size w1 w2) => (hr.below ((hb1.trans (hb2.mono hb1.size)).mono hB)).cut (k := k + 1) (by omega) hnc
                  simp only [if_neg hcj] at hrest
                  clear hr
                  go_wp2_with (first
                    | (at_builtin; (refine wpList_push _ rfl (.tmp 44) (.tmp 48) 22 rfl w1.heap.size 30 i0 (.agg #[.int .i64 0, .string ByteArray.empty]) 2 24 Try.underlying22 hi0 hz0 hz1 hz2 rfl (by decide) (.slice A1 k c1) k (bcells (l.take k)) rfl hown 1 #[.int .i64 i, .string ⟨d.toArray⟩] 30 rfl rfl (by simp [Value.oneCell']) (by unfold maxLen; omega) (by omega) hsz1 ?_); intro v2 w2 hown2 hb2 hg2; have hbw2 := hbw1.trans hb2; have hrest2 := hrest w2 hbw2;  have e0b := (hbE.out w2 hb2).trans e0; clear e0; clear hrest; obtain ⟨A2, c2, rfl, _, _, _⟩ := own_form hown2)
                    | (at_builtin; (refine wpList_append_any _ rfl (.tmp 65) (.tmp 68) _ rfl w1.heap.size 30 i0 _ 2 24 Try.underlying22 hi0 hz0 hz1 hz2 rfl (by omega) (.slice A2 (k + 1) c2) (k + 1) _ rfl hown2 B _ _ _ _ rfl hrest2 (fun u hu => bcells_one l u (List.mem_of_mem_drop hu)) (by unfold maxLen; omega) (by omega) hbw2.size ?_); intro v3 w3 hown3 hg3 _))
                  go_ret2
                  refine ⟨v3, by rw [HPE.out]; rfl, ?_, hb1.trans (hbw2.mono hb1.size) |>.grown hg3 (by have := hbw2.size; have := hb1.size; omega) (fun r hr => by have := (hown2.lt r hr).1; have := hb1.size; omega)⟩
                  rw [if_pos HPE.out, HFIN.out]
                  have e : (l.take k ++ [(i, d)] ++ l.drop (k + 1)).length = k + 1 + (n - (k + 1)) := by simp only [List.length_append, List.length_take, List.length_drop, List.length_cons, List.length_nil]; have := HN.out; omega
                  rw [e, bcells_append, bcells_append, bcells_drop]
                  exact own_mono hown3 hb1.size
              · have HFIN : Hid (putL11 l i d = l.take k ++ [(i, d)] ++ l.drop k) := by
                  show _ = _
                  unfold putL11
                  rw [hpos, hatk, if_neg (by simp [hxe])]
                  rfl
                have hxb : (xi == i) = false := by simp [hxe]
                clear hlt hrw hpos hatk hxe
                by_cases hcj : c = k
                · omega
                · have hrest := fun w2 (hb2 : Below w1.heap.size w1 w2) => (hr.below ((hb1.trans (hb2.mono hb1.size)).mono hB)).cut (k := k) (by omega) hnc
                  simp only [if_neg hcj] at hrest
                  clear hr
                  go_wp2_with (first
                    | (at_builtin; (refine wpList_push _ rfl (.tmp 44) (.tmp 48) 22 rfl w1.heap.size 30 i0 (.agg #[.int .i64 0, .string ByteArray.empty]) 2 24 Try.underlying22 hi0 hz0 hz1 hz2 rfl (by decide) (.slice A1 k c1) k (bcells (l.take k)) rfl hown 1 #[.int .i64 i, .string ⟨d.toArray⟩] 30 rfl rfl (by simp [Value.oneCell']) (by unfold maxLen; omega) (by omega) hsz1 ?_); intro v2 w2 hown2 hb2 hg2; have hbw2 := hbw1.trans hb2; have hrest2 := hrest w2 hbw2;  have e0b := (hbE.out w2 hb2).trans e0; clear e0; clear hrest; obtain ⟨A2, c2, rfl, _, _, _⟩ := own_form hown2)
                    | (at_builtin; (refine wpList_append_any _ rfl (.tmp 65) (.tmp 68) _ rfl w1.heap.size 30 i0 _ 2 24 Try.underlying22 hi0 hz0 hz1 hz2 rfl (by omega) (.slice A2 (k + 1) c2) (k + 1) _ rfl hown2 B _ _ _ _ rfl hrest2 (fun u hu => bcells_one l u (List.mem_of_mem_drop hu)) (by unfold maxLen; omega) (by omega) hbw2.size ?_); intro v3 w3 hown3 hg3 _))
                  go_ret2
                  refine ⟨v3, by rw [HPE.out]; rfl, ?_, hb1.trans (hbw2.mono hb1.size) |>.grown hg3 (by have := hbw2.size; have := hb1.size; omega) (fun r hr => by have := (hown2.lt r hr).1; have := hb1.size; omega)⟩
                  rw [if_pos HPE.out, HFIN.out]
                  have e : (l.take k ++ [(i, d)] ++ l.drop (k)).length = k + 1 + (n - (k)) := by simp only [List.length_append, List.length_take, List.length_drop, List.length_cons, List.length_nil]; have := HN.out; omega
                  rw [e, bcells_append, bcells_append, bcells_drop]
                  exact own_mono hown3 hb1.size
          · have hnk : n ≤ k := by omega
            have hpos := posF_at l i k (by have := HN.out; omega) hlt.out (fun x hx => by rw [List.getElem?_eq_none (by have := HN.out; omega)] at hx; cases hx)
            have hatk := atF_end l i k hpos (by have := HN.out; omega)
            have HFIN : Hid (putL11 l i d = l.take k ++ [(i, d)] ++ l.drop k) := by
              show _ = _
              unfold putL11
              rw [hpos, hatk, if_neg (by simp)]
              rfl
            clear hlt hpos hatk
            by_cases hcj : c = k
            · clear hr
              go_wp2_with (first
                | (at_builtin; (refine wpList_push _ rfl (.tmp 44) (.tmp 48) 22 rfl w1.heap.size 30 i0 (.agg #[.int .i64 0, .string ByteArray.empty]) 2 24 Try.underlying22 hi0 hz0 hz1 hz2 rfl (by decide) (.slice A1 k c1) k (bcells (l.take k)) rfl hown 1 #[.int .i64 i, .string ⟨d.toArray⟩] 30 rfl rfl (by simp [Value.oneCell']) (by unfold maxLen; omega) (by omega) hsz1 ?_); intro v2 w2 hown2 hb2 hg2; have hbw2 := hbw1.trans hb2; have hrest2 : ∀ A', Reads w2 B 2 A' 0 ([] : List Value) := fun A' => ⟨rfl, fun h => absurd h (by omega)⟩; obtain ⟨A2, c2, rfl, _, _, _⟩ := own_form hown2)
                | (at_builtin; (refine wpList_append_any _ rfl (.tmp 65) (.tmp 68) _ rfl w1.heap.size 30 i0 _ 2 24 Try.underlying22 hi0 hz0 hz1 hz2 rfl (by omega) (.slice A2 (k + 1) c2) (k + 1) _ rfl hown2 B _ 0 _ [] rfl (hrest2 _) (fun u hu => by cases hu) (by unfold maxLen; omega) (by omega) hbw2.size ?_); intro v3 w3 hown3 hg3 _))
              go_ret2
              refine ⟨v3, by rw [HPE.out]; rfl, ?_, hb1.trans (hbw2.mono hb1.size) |>.grown hg3 (by have := hbw2.size; have := hb1.size; omega) (fun r hr => by have := (hown2.lt r hr).1; have := hb1.size; omega)⟩
              rw [if_pos HPE.out, HFIN.out]
              have e : (l.take k ++ [(i, d)] ++ l.drop k).length = k + 1 + 0 := by simp only [List.length_append, List.length_take, List.length_drop, List.length_cons, List.length_nil]; have := HN.out; omega
              have e2 : bcells (l.drop k) = [] := by rw [List.drop_eq_nil_of_le (by have := HN.out; omega)]; rfl
              rw [e, bcells_append, bcells_append, e2]
              exact own_mono hown3 hb1.size
            · clear hr
              go_wp2_with (first
                | (at_builtin; (refine wpList_push _ rfl (.tmp 44) (.tmp 48) 22 rfl w1.heap.size 30 i0 (.agg #[.int .i64 0, .string ByteArray.empty]) 2 24 Try.underlying22 hi0 hz0 hz1 hz2 rfl (by decide) (.slice A1 k c1) k (bcells (l.take k)) rfl hown 1 #[.int .i64 i, .string ⟨d.toArray⟩] 30 rfl rfl (by simp [Value.oneCell']) (by unfold maxLen; omega) (by omega) hsz1 ?_); intro v2 w2 hown2 hb2 hg2; have hbw2 := hbw1.trans hb2; have hrest2 : ∀ A', Reads w2 B 2 A' 0 ([] : List Value) := fun A' => ⟨rfl, fun h => absurd h (by omega)⟩; obtain ⟨A2, c2, rfl, _, _, _⟩ := own_form hown2)
                | (at_builtin; (refine wpList_append_any _ rfl (.tmp 65) (.tmp 68) _ rfl w1.heap.size 30 i0 _ 2 24 Try.underlying22 hi0 hz0 hz1 hz2 rfl (by omega) (.slice A2 (k + 1) c2) (k + 1) _ rfl hown2 B _ 0 _ [] rfl (hrest2 _) (fun u hu => by cases hu) (by unfold maxLen; omega) (by omega) hbw2.size ?_); intro v3 w3 hown3 hg3 _))
              go_ret2
              refine ⟨v3, by rw [HPE.out]; rfl, ?_, hb1.trans (hbw2.mono hb1.size) |>.grown hg3 (by have := hbw2.size; have := hb1.size; omega) (fun r hr => by have := (hown2.lt r hr).1; have := hb1.size; omega)⟩
              rw [if_pos HPE.out, HFIN.out]
              have e : (l.take k ++ [(i, d)] ++ l.drop k).length = k + 1 + 0 := by simp only [List.length_append, List.length_take, List.length_drop, List.length_cons, List.length_nil]; have := HN.out; omega
              have e2 : bcells (l.drop k) = [] := by rw [List.drop_eq_nil_of_le (by have := HN.out; omega)]; rfl
              rw [e, bcells_append, bcells_append, e2]
              exact own_mono hown3 hb1.size
      · have hpe : putE l i d = 5 := by unfold putE; rw [if_pos hok, if_pos ⟨hi1, hi2⟩, if_neg hdl]
        have g3a : ((d.length : Int) == 16) = false := by simp; omega
        have g3b : ((d.length : Int) != 16) = true := by simp; omega
        have HPE := Lib.hid hpe
        clear hpe hok h1 hdl hnl hr
        go_enter Try.func12, Try.ntmps12
        go_wp2_with fail
        refine hck.mono ?_
        clear hck
        rintro e w1 ⟨rfl, hb1⟩
        go_wp2_with fail
        go_ret2
        refine ⟨_, by rw [HPE.out]; rfl, ?_, hb1⟩
        rw [HPE.out, if_neg (by decide)]; rfl
    · have hpe : putE l i d = 4 := by unfold putE; rw [if_pos hok, if_neg hi]
      have HPE := Lib.hid hpe
      clear hpe hok h1 hnl hr
      by_cases hi0 : i < 0
      · clear hi
        go_enter Try.func12, Try.ntmps12
        go_wp2_with fail
        refine hck.mono ?_
        clear hck
        rintro e w1 ⟨rfl, hb1⟩
        go_wp2_with fail
        go_ret2
        refine ⟨_, by rw [HPE.out]; rfl, ?_, hb1⟩
        rw [HPE.out, if_neg (by decide)]; rfl
      · have hi1 : 0 ≤ i := by omega
        have hi2 : 1024 ≤ i := by omega
        clear hi hi0
        go_enter Try.func12, Try.ntmps12
        go_wp2_with fail
        refine hck.mono ?_
        clear hck
        rintro e w1 ⟨rfl, hb1⟩
        go_wp2_with fail
        go_ret2
        refine ⟨_, by rw [HPE.out]; rfl, ?_, hb1⟩
        rw [HPE.out, if_neg (by decide)]; rfl
  · have h1 : okE l = 9 := by unfold okE; rw [if_neg hok]
    rw [h1] at hck
    have hpe : putE l i d = 9 := by unfold putE; rw [if_neg hok]
    have HPE := Lib.hid hpe
    clear hpe hok h1 hnl hr
    go_enter Try.func12, Try.ntmps12
    go_wp2_with fail
    refine hck.mono ?_
    clear hck
    rintro e w1 ⟨rfl, hb1⟩
    go_wp2_with fail
    go_ret2
    refine ⟨_, by rw [HPE.out]; rfl, ?_, hb1⟩
    rw [HPE.out, if_neg (by decide)]; rfl
end Go.Proofs.Ytfknlijbphoceaa
