/-
  The page's Check, Own, Put of contents, by their contracts.
-/
import Derived.Test.YtcbeadldieeceaaZ12
namespace Go.Proofs.Ytcbeadldieeceaa
open Go.RowKit

set_option maxRecDepth 100000 in
set_option maxHeartbeats 2000000 in
theorem bkrcheck_any (l : BL) (n : Nat) (hnl : n = l.length) (A : Option Addr) (c : Nat) (w : World) (B : Nat) (hr : Reads w B 2 A n (bcells l)) (hB : B ≤ w.heap.size) (hn : n ≤ 140737488351232) :
    Calls Try.prog 44 #[.slice A n c] w (CheckBk w (okE l)) := by
  have HN := Lib.hid hnl
  clear hnl
  go_enter Try.func44, Try.ntmps44
  go_wp2_with fail
  go_loopw [3] (fun j wr => ∃ k : Nat, k ≤ n ∧ j = .int .i64 (k : Int) ∧ Hid (okL l = okFrom (prevAt l k) (l.drop k)) ∧ Below w.heap.size w wr) (fun j _ => n - (intOf j).toNat)
  case atStart => exact ⟨0, Nat.zero_le _, rfl, rfl, Below.refl _ _⟩
  case round =>
    obtain ⟨k, hk, rfl, hok, hbw⟩ := hrel
    by_cases hlt : k < n
    · have hrw := hr.below (hbw.mono hB)
      obtain ⟨ad, rfl, hadB, c0, c1⟩ := hrw.blk2 HN.out hlt
      have hki : (k : Int) < (n : Int) := by omega
      have hkl : k < l.length := by have := HN.out; omega
      obtain ⟨x, hx⟩ : ∃ x, x = l[k]'hkl := ⟨_, rfl⟩
      rw [← hx] at c0 c1
      have hdr := List.drop_eq_getElem_cons hkl
      rw [← hx] at hdr
      have HX := Lib.hid hx
      have HDR := Lib.hid hdr
      obtain ⟨xi, xs⟩ := x
      simp only at c0 c1
      have hbad : Hid ((xi < 0 ∨ 1024 ≤ xi ∨ xs.length ≠ 16 ∨ (∃ y, prevAt l k = some y ∧ xi ≤ y)) → okE l = 9) := by
        intro h
        have hf : okL l = false := by
          rw [hok.out, HDR.out]
          cases hfv : okFrom (prevAt l k) ((xi, xs) :: l.drop (k + 1)) with
          | false => rfl
          | true =>
            exfalso
            simp only [okFrom, Bool.and_eq_true, decide_eq_true_eq] at hfv
            obtain ⟨⟨⟨⟨h1, h2⟩, h3⟩, h4⟩, _⟩ := hfv
            rcases h with h | h | h | ⟨y, hy, h⟩
            · omega
            · omega
            · exact h h3
            · rw [hy] at h4; simp at h4; omega
        unfold okE
        rw [hf]
        rfl
      have hgood : Hid ((0 ≤ xi ∧ xi < 1024 ∧ xs.length = 16 ∧ (∀ y, prevAt l k = some y → y < xi)) → okL l = okFrom (prevAt l (k + 1)) (l.drop (k + 1))) := by
        rintro ⟨h1, h2, h3, h4⟩
        rw [hok.out, HDR.out]
        have hp : prevAt l (k + 1) = some xi := by
          show (l[k]?).map (·.1) = _
          rw [List.getElem?_eq_getElem hkl, ← HX.out]
          rfl
        rw [hp]
        simp only [okFrom, h1, h2, h3, decide_true, Bool.true_and]
        cases hq : prevAt l k with
        | none => rfl
        | some y => simp [h4 y hq]
      clear hx hdr hok
      by_cases g1 : xi < 0
      · have HB := Lib.hid (hbad.out (.inl g1))
        clear hr hrw hbad hgood
        go_wp2_with fail
        go_big_quiet (fail)
        go_wp2_with fail
        go_ret
        exact ⟨by rw [HB.out]; rfl, below_drewN hbw nq⟩
      by_cases g2 : 1024 ≤ xi
      · have HB := Lib.hid (hbad.out (.inr (.inl g2)))
        have d1 : decide (xi < 0) = false := by simp; omega
        have d2 : decide (1024 ≤ xi) = true := by simp; omega
        clear hr hrw hbad hgood g1 g2
        go_wp2_with fail
        go_big_quiet (fail)
        go_wp2_with fail
        go_ret
        exact ⟨by rw [HB.out]; rfl, below_drewN hbw nq⟩
      by_cases g3 : xs.length = 16
      · have g1' : 0 ≤ xi := by omega
        have g2' : xi < 1024 := by omega
        have g3a : ((xs.length : Int) == 16) = true := by simp [g3]
        have g3b : ((xs.length : Int) != 16) = false := by simp [g3]
        have d1 : decide (xi < 0) = false := by simp; omega
        have d2 : decide (1024 ≤ xi) = false := by simp; omega
        rcases Nat.eq_zero_or_pos k with h0 | h0
        · have HG := Lib.hid (hgood.out ⟨g1', g2', g3, fun y hy => by subst h0; cases hy⟩)
          have d4 : decide ((0 : Int) < (k : Int)) = false := by simp; omega
          have d4' : decide (0 < k) = false := by simp; omega
          have H0 := Lib.hid h0
          clear hr hrw hbad hgood g1 g2 g3 h0
          go_wp2_with fail
          go_big_quiet (fail)
          go_wp2_with fail
          go_roundw
          case rel => exact ⟨k + 1, by omega, by go_num, HG, below_drewN hbw nq⟩
          case measure => simp [intOf]; omega
        · have d4 : decide ((0 : Int) < (k : Int)) = true := by simp; omega
          have d4' : decide (0 < k) = true := by simp; omega
          have hk1l : k - 1 < l.length := by omega
          obtain ⟨y, hy⟩ : ∃ y, y = (l[k - 1]'hk1l).1 := ⟨_, rfl⟩
          have hpv : prevAt l k = some y := by
            obtain ⟨j, rfl⟩ : ∃ j, k = j + 1 := ⟨k - 1, by omega⟩
            show (l[j]?).map (·.1) = _
            have hj : j < l.length := by simpa using hk1l
            rw [List.getElem?_eq_getElem hj, hy]
            rfl
          have hcp := (hrw.blk2 HN.out (k := k - 1) (by omega))
          obtain ⟨ad2, e2, -, c2, -⟩ := hcp
          injection e2 with e2
          subst e2
          rw [← hy] at c2
          have i1 : (0 : Int) ≤ (k : Int) - 1 := by omega
          have i2 : (k : Int) - 1 < (n : Int) := by omega
          have i3 : IntKind.i64.wrap ((k : Int) - 1) = (k : Int) - 1 := IntWalk.i64_in _ (by omega)
          have i4 : ((k : Int) - 1).toNat = k - 1 := by omega
          by_cases g5 : y < xi
          · have HG := Lib.hid (hgood.out ⟨g1', g2', g3, fun y' hy' => by rw [hpv] at hy'; cases hy'; exact g5⟩)
            have d5 : decide (xi ≤ y) = false := by simp; omega
            clear hr hrw hbad hgood g1 g2 g3 h0 hpv hy g5
            go_wp2_with fail
            go_big_quiet (fail)
            clear i3 i4
            go_wp2_with fail
            go_roundw
            case rel => exact ⟨k + 1, by omega, by go_num, HG, below_drewN hbw nq⟩
            case measure => simp [intOf]; omega
          · have HB := Lib.hid (hbad.out (.inr (.inr (.inr ⟨y, hpv, by omega⟩))))
            have d5 : decide (xi ≤ y) = true := by simp; omega
            clear hr hrw hbad hgood g1 g2 g3 h0 hpv hy g5
            go_wp2_with fail
            go_big_quiet (fail)
            clear i3 i4
            go_wp2_with fail
            go_ret
            exact ⟨by rw [HB.out]; rfl, below_drewN hbw nq⟩
      · have g3a : ((xs.length : Int) == 16) = false := by simp; omega
        have g3b : ((xs.length : Int) != 16) = true := by simp; omega
        have g1' : 0 ≤ xi := by omega
        have g2' : xi < 1024 := by omega
        have HB := Lib.hid (hbad.out (.inr (.inr (.inl g3))))
        have d1 : decide (xi < 0) = false := by simp; omega
        have d2 : decide (1024 ≤ xi) = false := by simp; omega
        clear hr hrw hbad hgood g1 g2 g3
        go_wp2_with fail
        go_big_quiet (fail)
        go_wp2_with fail
        go_ret
        exact ⟨by rw [HB.out]; rfl, below_drewN hbw nq⟩
    · obtain rfl : k = n := by omega
      have HF : Hid (okE l = 0) := by
        show _ = _
        unfold okE
        rw [hok.out, List.drop_of_length_le (by rw [HN.out]; exact Nat.le_refl _)]
        rfl
      clear hok hr
      go_wp2_with fail
      go_ret
      exact ⟨by rw [HF.out]; rfl, hbw⟩

theorem posF_at (l : BL) (t : Int) (k : Nat) (hk : k ≤ l.length) (h1 : ∀ x ∈ l.take k, x.1 < t) (h2 : ∀ x, l[k]? = some x → t ≤ x.1) : posF (cfB t) l = k := by
  refine posF_eq (cfB t) l k hk (fun j x hj hx => ?_) (fun x hx => ?_)
  · unfold cfB
    rw [cmpI_neg]
    exact h1 x (List.mem_of_getElem? (by rw [List.getElem?_take, if_pos hj]; exact hx))
  · have := h2 x hx
    have h3 := cmpI_neg x.1 t
    unfold cfB
    rcases Int.lt_or_le (cmpI x.1 t) 0 with h | h
    · have := h3.1 h; omega
    · exact h
theorem atF_at (l : BL) (t : Int) (k : Nat) (hp : posF (cfB t) l = k) (x : Int × List UInt8) (hx : l[k]? = some x) : atF (cfB t) l = (x.1 == t) := by
  unfold atF
  rw [hp, hx]
  show (cmpI x.1 t == 0) = _
  rw [Bool.eq_iff_iff]
  simp [cmpI_zero]
theorem atF_end (l : BL) (t : Int) (k : Nat) (hp : posF (cfB t) l = k) (hx : l.length ≤ k) : atF (cfB t) l = false := by
  unfold atF
  rw [hp, List.getElem?_eq_none hx]
  rfl

end Go.Proofs.Ytcbeadldieeceaa
