/-
  The laws of space, walked.
-/
import Derived.Test.YthfjfkjlgdnohaaSpRef2
import Derived.Test.YthfjfkjlgdnohaaFrame
namespace Go.Proofs.Ythfjfkjlgdnohaa
open Go.RowKit Go.Maps

set_option maxRecDepth 100000 in
theorem alive07_any (w : World) : Calls Try.prog 35 #[] w fun e w' => e = .returned (.bool true) ∧ Below w.heap.size w w' := by
  have hb0 : Below w.heap.size w (w.alloc (.cells #[.int .i64 2] 3)) := (Below.refl _ w).alloc (Nat.le_refl _) _
  have hal : (w.alloc (.cells #[.int .i64 2] 3)).heap.size = w.heap.size + 1 := by show (w.heap.push _).size = _; rw [Array.size_push]
  have ht := take_any 5 [2] 1 1 rfl (some ⟨w.heap.size, 0, none⟩) 1 (w.alloc (.cells #[.int .i64 2] 3)) (w.heap.size + 1) (Reads.lit w #[.int .i64 2] 3 rfl) (by omega) (by intro x hx; rw [List.mem_singleton] at hx; subst hx; decide) (by omega)
  have hE : takeE 5 [2] 1 = 0 := by decide +kernel
  have hF : freeL 5 [2] = [3, 4] := by decide +kernel
  rw [hE, hF] at ht
  clear hE hF
  go_enter Try.func35, Try.ntmps35
  go_wp2_with fail
  refine ht.mono ?_
  clear ht
  rintro e w1 ⟨v, rfl, hv, hb1⟩
  rw [if_pos rfl] at hv
  obtain ⟨A', k, hk, _, rfl, hr⟩ := hv
  obtain rfl : k = 1 := by omega
  obtain ⟨ad, rfl, hcell⟩ := ints_at hr rfl (k := 0) (by omega)
  simp only [List.take_succ_cons, List.getElem_cons_zero] at hcell
  rw [add_zero] at hcell
  have hbb := hb0.trans (hb1.mono (by omega))
  clear hr hb0 hb1 hal hk
  go_wp2_with fail
  refine (num07_any 0 _).mono ?_
  rintro e w2 ⟨rfl, rfl⟩
  go_wp2_with fail
  go_ret
  exact ⟨rfl, hbb⟩
theorem below_reads {w W : World} {B size n : Nat} {A : Option Addr} {xs : List Value} (h : Reads w B size A n xs) (hb : Below w.heap.size w W) (hB : B ≤ w.heap.size) : Reads W W.heap.size size A n xs :=
  (h.below (hb.mono hB)).lift (Nat.le_trans hB hb.size)
set_option maxRecDepth 100000 in
set_option maxHeartbeats 2000000 in
theorem spaceTells_any (T m : Int) (l : List Int) (n : Nat) (hnl : n = l.length) (A : Option Addr) (c : Nat) (hnc : n ≤ c) (w : World) (hr : Reads w w.heap.size 1 A n (ints l)) (hwf : wfZ l) (hn : n ≤ 17592186044000) :
    LawCalls Try.prog 8 #[.int .i64 T, .slice A n c, .int .i64 m] w := by
  have c1 := free_any T l n hnl A c w _ hr (Nat.le_refl _) hwf hn
  have c2 := fun W (hb : Below w.heap.size w W) => refFree_any T l n hnl A c hnc W _ (below_reads hr hb (Nat.le_refl _)) (Nat.le_refl _) hn
  have c3 := fun W (hb : Below w.heap.size w W) => take_any T l m n hnl A c W _ (below_reads hr hb (Nat.le_refl _)) (Nat.le_refl _) hwf hn
  have c4 := fun W (hb : Below w.heap.size w W) => spCheck_any T l n hnl A c W _ (below_reads hr hb (Nat.le_refl _)) (Nat.le_refl _) hwf hn
  have hTE : Hid (takeE T l m = if usedE T l = 0 then (if m < 0 then 4 else if ((freeL T l).length : Int) < m then 17 else 0) else usedE T l) := rfl
  have hlen : usedE T l = 0 → (freeL T l).length ≤ 8192 := by
    intro h
    have h1 := (usedE_zero T l).1 h
    have h2 := (List.length_filter_le (fun n => !l.contains n) (upTo T))
    have h3 := length_upTo T
    unfold freeL
    omega
  obtain ⟨R, hR⟩ : ∃ R, R = takeE T l m := ⟨_, rfl⟩
  obtain ⟨F, hF⟩ : ∃ F, F = freeL T l := ⟨_, rfl⟩
  obtain ⟨E, hE⟩ : ∃ E, E = usedE T l := ⟨_, rfl⟩
  rw [← hR, ← hF, ← hE] at hTE
  rw [← hR, ← hF] at c3
  rw [← hF, ← hE] at c1 hlen
  rw [← hE] at c4
  simp only [← hF, ← hE] at c2
  clear hR hF hE hr hwf hnl
  have C2 := Lib.hid c2
  have C3 := Lib.hid c3
  have C4 := Lib.hid c4
  clear c2 c3 c4
  show Calls _ _ _ _ _
  go_enter Try.func8, Try.ntmps8
  go_wp2_with fail
  refine c1.mono ?_
  clear c1
  rintro e w1 ⟨v1, rfl, hv1, hb1⟩
  go_wp2_with fail
  refine (C2.out w1 hb1).mono ?_
  clear C2
  rintro e w2 ⟨v2, rfl, hv2, hb2⟩
  have hb12 := hb1.trans (hb2.mono hb1.size)
  go_wp2_with fail
  refine (C3.out w2 hb12).mono ?_
  clear C3
  rintro e w3 ⟨v3, rfl, hv3, hb3⟩
  have hb13 := hb12.trans (hb3.mono hb12.size)
  by_cases hE : E = 0
  · subst hE
    rw [if_pos rfl] at hv1 hv2
    have hl := hlen rfl
    obtain ⟨A1, k1, rfl, h11, h12, r1⟩ := own_form hv1.1
    obtain ⟨A2, k2, rfl, h21, h22, r2⟩ := own_form hv2
    have r1 := below_reads (below_reads r1 hb2 (Nat.le_refl _)) hb3 (Nat.le_refl _)
    have r2 := below_reads r2 hb3 (Nat.le_refl _)
    obtain ⟨q, hq⟩ : ∃ q, q = F.length := ⟨_, rfl⟩
    have c5 := intsSame_any F F q q hq hq A1 A2 k1 k2 w3 _ _ (by rw [hq]; exact r1) (by rw [hq]; exact r2) (by omega) (by omega)
    rw [decide_eq_true (show F = F from rfl)] at c5
    have HQ := Lib.hid hq
    have R2 := Lib.hid r2
    rw [← hq] at h21 hl hTE ⊢
    clear hv1 hv2 r1 r2 hb1 hb2 hb3 hb12 h11 h12 hlen hq
    go_wp2_with fail
    refine c5.mono ?_
    clear c5
    rintro e w4 ⟨rfl, q4, rfl⟩
    go_wp2_with fail
    refine (num07_any 0 _).mono ?_
    rintro e w5 ⟨rfl, rfl⟩
    go_wp2_with fail
    refine (C4.out _ (below_drewN hb13 q4)).mono ?_
    clear C4
    rintro e w6 ⟨rfl, hb6⟩
    have hb16 := (below_drewN hb13 q4).trans (hb6.mono hb13.size)
    have h36 : Below w3.heap.size w3 w6 := (below_drewN (Below.refl _ w3) q4).trans hb6
    go_wp2_with fail
    refine (num07_any 0 _).mono ?_
    rintro e w5 ⟨rfl, rfl⟩
    by_cases hm0 : m < 0
    · have hR : R = 4 := by rw [hTE.out, if_pos trivial, if_pos hm0]
      subst hR
      rw [if_neg (by decide)] at hv3
      subst hv3
      clear R2 HQ
      go_wp2_with fail
      refine (num07_any 4 _).mono ?_
      rintro e w7 ⟨rfl, rfl⟩
      go_wp2_with fail
      refine (alive07_any _).mono ?_
      rintro e w8 ⟨rfl, hb8⟩
      go_wp2_with fail
      go_ret
      exact ⟨rfl, hb16.trans (hb8.mono hb16.size)⟩
    · by_cases hmq : (q : Int) < m
      · have hR : R = 17 := by rw [hTE.out, if_pos trivial, if_neg hm0, if_pos hmq]
        subst hR
        rw [if_neg (by decide)] at hv3
        subst hv3
        clear R2 HQ
        go_wp2_with fail
        refine (num07_any 17 _).mono ?_
        rintro e w7 ⟨rfl, rfl⟩
        go_wp2_with fail
        refine (alive07_any _).mono ?_
        rintro e w8 ⟨rfl, hb8⟩
        go_wp2_with fail
        go_ret
        exact ⟨rfl, hb16.trans (hb8.mono hb16.size)⟩
      · have hR : R = 0 := by rw [hTE.out, if_pos trivial, if_neg hm0, if_neg hmq]
        subst hR
        rw [if_pos rfl] at hv3
        obtain ⟨A3, k, hk, hkF, rfl, r3⟩ := hv3
        subst hk
        have hkq : k ≤ q := by omega
        have hkc : (k : Int) ≤ (k2 : Int) := by omega
        have r2 := below_reads R2.out h36 (Nat.le_refl _)
        have r3 := below_reads r3 h36 (Nat.le_refl _)
        have r2k := r2.pre (k := k) (by rw [← HQ.out]; exact hkq)
        rw [Nat.mul_one, ← ints_take] at r2k
        have hkl : k = (F.take k).length := by rw [List.length_take, ← HQ.out]; omega
        have c6 := intsSame_any (F.take k) (F.take k) k k hkl hkl A3 A2 k k2 _ _ _ r3 r2k (by omega) (by omega)
        rw [decide_eq_true (show F.take k = F.take k from rfl)] at c6
        have hA2 : A2 = none → k = 0 := fun e => by
          subst e
          rcases Nat.eq_zero_or_pos k with h | h
          · exact h
          · obtain ⟨ad, e, _⟩ := r2k.2 h; cases e
        clear R2 HQ r2 r3 r2k hkl
        cases A2 with
        | none =>
          obtain rfl := hA2 rfl
          clear hA2
          go_wp2_with fail
          refine (num07_any 0 _).mono ?_
          rintro e w7 ⟨rfl, rfl⟩
          go_wp2_with fail
          refine c6.mono ?_
          clear c6
          rintro e w7 ⟨rfl, q7, rfl⟩
          go_wp2_with fail
          refine (alive07_any _).mono ?_
          rintro e w8 ⟨rfl, hb8⟩
          go_wp2_with fail
          go_ret
          exact ⟨rfl, (below_drewN hb16 q7).trans (hb8.mono hb16.size)⟩
        | some a2 =>
          clear hA2
          go_wp2_with fail
          refine (num07_any 0 _).mono ?_
          rintro e w7 ⟨rfl, rfl⟩
          go_wp2_with fail
          refine c6.mono ?_
          clear c6
          rintro e w7 ⟨rfl, q7, rfl⟩
          go_wp2_with fail
          refine (alive07_any _).mono ?_
          rintro e w8 ⟨rfl, hb8⟩
          go_wp2_with fail
          go_ret
          exact ⟨rfl, (below_drewN hb16 q7).trans (hb8.mono hb16.size)⟩
  · rw [if_neg hE] at hv1 hv2 hTE
    have hR : R = E := hTE.out
    subst hR
    rw [if_neg hE] at hv3
    subst hv1 hv2 hv3
    have c5 := intsSame_any [] [] 0 0 rfl rfl none none 0 0 w3 0 0 Reads.none_ Reads.none_ (by omega) (by omega)
    rw [decide_eq_true (show ([] : List Int) = [] from rfl)] at c5
    have hd1 : (R != R) = false := by simp
    have hd2 : (R == R) = true := by simp
    have hd3 : (R != 0) = true := by simp [hE]
    have hd4 : (R == 0) = false := by simp [hE]
    clear hE hTE hlen hb1 hb2 hb3 hb12
    go_wp2_with fail
    refine c5.mono ?_
    clear c5
    rintro e w4 ⟨rfl, q4, rfl⟩
    go_wp2_with fail
    refine (num07_any R _).mono ?_
    rintro e w5 ⟨rfl, rfl⟩
    go_wp2_with fail
    refine (C4.out _ (below_drewN hb13 q4)).mono ?_
    clear C4
    rintro e w6 ⟨rfl, hb6⟩
    have hb16 := (below_drewN hb13 q4).trans (hb6.mono hb13.size)
    go_wp2_with fail
    refine (num07_any R _).mono ?_
    rintro e w5 ⟨rfl, rfl⟩
    go_wp2_with fail
    refine (num07_any R _).mono ?_
    rintro e w5 ⟨rfl, rfl⟩
    go_wp2_with fail
    refine (alive07_any _).mono ?_
    rintro e w8 ⟨rfl, hb8⟩
    go_wp2_with fail
    go_ret
    exact ⟨rfl, hb16.trans (hb8.mono hb16.size)⟩
end Go.Proofs.Ythfjfkjlgdnohaa
