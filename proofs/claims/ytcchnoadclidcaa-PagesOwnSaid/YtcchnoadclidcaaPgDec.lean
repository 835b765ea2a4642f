/-
  pages.Decode and the page's Unpage, pages.Count and the page's Count, by their contracts.
-/
import Derived.Test.YtcchnoadclidcaaRPage
import Derived.Test.YtcchnoadclidcaaRNum
import Derived.Test.YtcchnoadclidcaaUber2
import Derived.Test.YtcchnoadclidcaaClone
namespace Go.Proofs.Ytcchnoadclidcaa
open Go.RowKit

theorem numV_nn (b : List UInt8) : 0 ≤ numV b := by unfold numV; split <;> omega
theorem numV_lt2 (b : List UInt8) (h : b.length = 2) : numV b < 65536 := by
  have := numN_lt b
  rw [h] at this
  unfold numV
  split <;> omega
def pgN (s : List UInt8) : Nat := (numV (s.take 2)).toNat
def pgX (s : List UInt8) : Int := numV ((s.drop 2).take 2)
def pay (s : List UInt8) : List UInt8 := (s.drop 4).take (pgN s)
structure PDecOk (s : List UInt8) : Prop where
  len : s.length = 64
  n : pgN s ≤ 52
  x : pgX s < 8192
  enc : pageL (pay s) (pgX s) = s
def DecPost (w : World) (s : List UInt8) (e : Ending) (w' : World) : Prop :=
  ((PDecOk s ∧ ∃ v, e = .returned (.tuple #[v, .int .i64 (pgX s), .int .i64 0]) ∧ w'.ownsRow w.heap.size 5 1 v (pgN s) (bts (pay s))) ∨ (¬ PDecOk s ∧ e = .returned (.tuple #[.slice none 0 0, .int .i64 0, .int .i64 21]))) ∧ Below w.heap.size w w'

set_option maxRecDepth 100000 in
set_option maxHeartbeats 1000000 in
theorem pgDecode_any (s : List UInt8) (n : Nat) (hns : n = s.length) (A : Option Addr) (c : Nat) (w : World) (B : Nat) (hr : Reads w B 1 A n (bts s)) (hB : B ≤ w.heap.size) (hc : n ≤ c) (hcm : c ≤ 9223372036854775807) :
    Calls Try.prog 48 #[.slice A n c] w (DecPost w s) := by
  by_cases h64 : n = 64
  · subst h64
    obtain ⟨ad, rfl, _, _⟩ := hr.2 (by omega)
    have hcut : ∀ (f t : Nat), 0 < t → f + t ≤ 64 → ∀ W, Below w.heap.size w W → Reads W B 1 (some (ad.add f)) t (bts ((s.drop f).take t)) ∧ t = ((s.drop f).take t).length := by
      intro f t ht hft W hb
      have hrW := hr.below (hb.mono hB)
      refine ⟨?_, by simp; omega⟩
      have h1 := hrW.cut (k := f) (cap := c) (by omega) hc
      rw [if_neg (by omega)] at h1
      simp only [Nat.mul_one, Option.map_some] at h1
      have h2 := h1.pre (k := t) (by omega)
      rw [Nat.mul_one, ← bts_drop, ← bts_take] at h2
      exact h2
    have k1 := hcut 0 2 (by omega) (by omega) w (Below.refl _ _)
    have k2 := hcut 2 2 (by omega) (by omega) w (Below.refl _ _)
    rw [add_zero, List.drop_zero] at k1
    have n1 := number_any (s.take 2) 2 k1.2 (some ad) c w B k1.1 (by omega)
    have n2 := number_any ((s.drop 2).take 2) 2 k2.2 (some (ad.add 2)) (c - 2) w B k2.1 (by omega)
    have b1 := numV_lt2 (s.take 2) k1.2.symm
    have b2 := numV_lt2 ((s.drop 2).take 2) k2.2.symm
    have b3 := numV_nn (s.take 2)
    have b4 := numV_nn ((s.drop 2).take 2)
    obtain ⟨k, hk⟩ : ∃ k : Nat, k = pgN s := ⟨_, rfl⟩
    obtain ⟨x, hx⟩ : ∃ x : Int, x = pgX s := ⟨_, rfl⟩
    have e1 : numV (s.take 2) = (k : Int) := by rw [hk]; unfold pgN; omega
    have e2 : numV ((s.drop 2).take 2) = x := hx.symm
    rw [e1] at n1
    rw [e2] at n2 b2 b4
    have HPAY := Lib.hid (show (s.drop 4).take k = pay s by rw [hk]; rfl)
    have HK := Lib.hid hk
    have HX := Lib.hid hx
    have HS := Lib.hid hns
    have HC := Lib.hid hcut
    have i2 : (2 : Int) ≤ (c : Int) := by omega
    have i4 : (4 : Int) ≤ (c : Int) := by omega
    clear k1 k2 b1 b3 e1 e2 hk hx hns hcut
    generalize numE (s.take 2) = q1 at *
    generalize numE ((s.drop 2).take 2) = q2 at *
    by_cases hk52 : 52 < k
    · have hno : ¬ PDecOk s := fun h => by have := h.n; rw [← HK.out] at this; omega
      have hki : (52 : Int) < (k : Int) := by omega
      go_enter Try.func48, Try.ntmps48
      go_wp2_with fail
      refine n1.mono ?_
      clear n1
      rintro e w1 ⟨rfl, rfl⟩
      go_wp2_with fail
      refine n2.mono ?_
      clear n2
      rintro e w1 ⟨rfl, rfl⟩
      go_wp2_with fail
      go_ret3
      exact ⟨.inr ⟨hno, rfl⟩, Below.refl _ _⟩
    · have hki : (k : Int) ≤ 52 := by omega
      have j1 : (4 : Int) + (k : Int) ≤ (c : Int) := by omega
      have i5 : 4 < c := by omega
      have hrp : Reads w B 1 (some (ad.add 4)) k (bts (pay s)) ∧ k = (pay s).length := by
        rw [← HPAY.out]
        rcases Nat.eq_zero_or_pos k with h0 | h0
        · subst h0
          exact ⟨⟨by simp [bts], fun h => absurd h (by omega)⟩, by simp⟩
        · exact HC.out 4 k h0 (by omega) w (Below.refl _ _)
      obtain ⟨hrp, hpl⟩ := hrp
      have HPL := Lib.hid hpl
      clear hpl
      by_cases hx8 : x < 8192
      · have hen := pgEncode_ok (pay s) k HPL.out (some (ad.add 4)) (c - 4) x w B hrp hB (by omega) (by omega) (by omega) b4 hx8
        go_enter Try.func48, Try.ntmps48
        go_wp2_with fail
        refine n1.mono ?_
        clear n1
        rintro e w1 ⟨rfl, rfl⟩
        go_wp2_with fail
        refine n2.mono ?_
        clear n2
        rintro e w1 ⟨rfl, rfl⟩
        go_wp2_with fail
        refine hen.mono ?_
        clear hen
        rintro e w2 ⟨v2, rfl, hown2, hb2⟩
        obtain ⟨A2, c2, rfl, _, _, hr2⟩ := own_form hown2
        have heq := equal_any s (pageL (pay s) x) 64 64 HS.out (pageL_length _ _ (by rw [← HPL.out]; omega)).symm (some ad) A2 c c2 w2 B _ (hr.below (hb2.mono hB)) hr2
        have hcl := clone_any (bts (pay s)) k (some (ad.add 4)) (c - 4) w2 B (hrp.below (hb2.mono hB)) (Nat.le_trans hB hb2.size) (bts_one _) (by omega)
        have HO := Lib.hid (fun h : pageL (pay s) x = s => (⟨HS.out.symm, by rw [← HK.out]; omega, by rw [← HX.out]; exact hx8, by rw [← HX.out]; exact h⟩ : PDecOk s))
        have HI := Lib.hid (fun h : PDecOk s => (by have := h.enc; rwa [← HX.out] at this : pageL (pay s) x = s))
        clear hown2 hr2 hr hrp
        by_cases hq : s = pageL (pay s) x
        · have hok := HO.out hq.symm
          have hbq : (s == pageL (pay s) x) = true := by simpa using hq
          rw [hbq] at heq
          clear hbq hq HO HI
          go_wp2_with fail
          refine heq.mono ?_
          clear heq
          rintro e w3 ⟨rfl, rfl⟩
          go_wp2_with fail
          refine hcl.mono ?_
          clear hcl
          rintro e w4 ⟨v4, rfl, hown4, hb4⟩
          have hb5 := below_step hb2 hb4
          have hown5 := own_mono hown4 hb2.size
          clear hown4 hb4
          go_wp2_with fail
          go_ret3
          exact ⟨.inl ⟨hok, v4, by rw [← HX.out]; rfl, by rw [← HK.out]; exact hown5⟩, hb5⟩
        · have hno : ¬ PDecOk s := fun h => hq (HI.out h).symm
          have hbq : (s == pageL (pay s) x) = false := by simpa using hq
          rw [hbq] at heq
          clear hbq hq HO HI hcl
          go_wp2_with fail
          refine heq.mono ?_
          clear heq
          rintro e w3 ⟨rfl, rfl⟩
          go_wp2_with fail
          go_ret3
          exact ⟨.inr ⟨hno, rfl⟩, hb2⟩
      · have hen := pgEncode_range k (some (ad.add 4)) (c - 4) x w (by omega) (.inr (by omega))
        have hno : ¬ PDecOk s := fun h => hx8 (by rw [HX.out]; exact h.x)
        clear hrp hr
        go_enter Try.func48, Try.ntmps48
        go_wp2_with fail
        refine n1.mono ?_
        clear n1
        rintro e w1 ⟨rfl, rfl⟩
        go_wp2_with fail
        refine n2.mono ?_
        clear n2
        rintro e w1 ⟨rfl, rfl⟩
        go_wp2_with fail
        refine hen.mono ?_
        clear hen
        rintro e w2 ⟨rfl, rfl⟩
        go_wp2_with fail
        go_ret3
        exact ⟨.inr ⟨hno, rfl⟩, Below.refl _ _⟩
  · have e1 : ((n : Int) == 64) = false := by simp; omega
    have e2 : ((n : Int) != 64) = true := by simp; omega
    have e3 : ¬ (n : Int) = 64 := by omega
    have hno : ¬ PDecOk s := fun h => h64 (hns.trans h.len)
    clear hns
    go_enter Try.func48, Try.ntmps48
    go_wp2_with fail
    go_ret3
    exact ⟨.inr ⟨hno, rfl⟩, Below.refl _ _⟩
set_option maxRecDepth 100000 in
set_option maxHeartbeats 1000000 in
theorem rUnpage_any (s : List UInt8) (n : Nat) (hns : n = s.length) (A : Option Addr) (c : Nat) (w : World) (B : Nat) (hr : Reads w B 1 A n (bts s)) (hB : B ≤ w.heap.size) (hc : n ≤ c) (hcm : c ≤ 9223372036854775807) :
    Calls Try.prog 49 #[.slice A n c] w (DecPost w s) := by
  obtain ⟨i0, hi0, hz0, hz1, hz2⟩ := info_parts Try.infoU8'
  by_cases h64 : n = 64
  · subst h64
    obtain ⟨ad, rfl, _, _⟩ := hr.2 (by omega)
    have hcut : ∀ (f t : Nat), 0 < t → f + t ≤ 64 → ∀ W, Below w.heap.size w W → Reads W B 1 (some (ad.add f)) t (bts ((s.drop f).take t)) ∧ t = ((s.drop f).take t).length := by
      intro f t ht hft W hb
      have hrW := hr.below (hb.mono hB)
      refine ⟨?_, by simp; omega⟩
      have h1 := hrW.cut (k := f) (cap := c) (by omega) hc
      rw [if_neg (by omega)] at h1
      simp only [Nat.mul_one, Option.map_some] at h1
      have h2 := h1.pre (k := t) (by omega)
      rw [Nat.mul_one, ← bts_drop, ← bts_take] at h2
      exact h2
    have k1 := hcut 0 2 (by omega) (by omega) w (Below.refl _ _)
    have k2 := hcut 2 2 (by omega) (by omega) w (Below.refl _ _)
    rw [add_zero, List.drop_zero] at k1
    have n1 := rnumber_any (s.take 2) 2 k1.2 (some ad) c w B k1.1 (by omega)
    have n2 := rnumber_any ((s.drop 2).take 2) 2 k2.2 (some (ad.add 2)) (c - 2) w B k2.1 (by omega)
    have b1 := numV_lt2 (s.take 2) k1.2.symm
    have b2 := numV_lt2 ((s.drop 2).take 2) k2.2.symm
    have b3 := numV_nn (s.take 2)
    have b4 := numV_nn ((s.drop 2).take 2)
    obtain ⟨k, hk⟩ : ∃ k : Nat, k = pgN s := ⟨_, rfl⟩
    obtain ⟨x, hx⟩ : ∃ x : Int, x = pgX s := ⟨_, rfl⟩
    have e1 : numV (s.take 2) = (k : Int) := by rw [hk]; unfold pgN; omega
    have e2 : numV ((s.drop 2).take 2) = x := hx.symm
    rw [e1] at n1
    rw [e2] at n2 b2 b4
    have HPAY := Lib.hid (show (s.drop 4).take k = pay s by rw [hk]; rfl)
    have HK := Lib.hid hk
    have HX := Lib.hid hx
    have HS := Lib.hid hns
    have HC := Lib.hid hcut
    have i2 : (2 : Int) ≤ (c : Int) := by omega
    have i4 : (4 : Int) ≤ (c : Int) := by omega
    clear k1 k2 b1 b3 e1 e2 hk hx hns hcut
    generalize numE (s.take 2) = q1 at *
    generalize numE ((s.drop 2).take 2) = q2 at *
    by_cases hk52 : 52 < k
    · have hno : ¬ PDecOk s := fun h => by have := h.n; rw [← HK.out] at this; omega
      have hki : (52 : Int) < (k : Int) := by omega
      go_enter Try.func49, Try.ntmps49
      go_wp2_with fail
      refine n1.mono ?_
      clear n1
      rintro e w1 ⟨rfl, rfl⟩
      go_wp2_with fail
      refine n2.mono ?_
      clear n2
      rintro e w1 ⟨rfl, rfl⟩
      go_wp2_with fail
      go_ret3
      exact ⟨.inr ⟨hno, rfl⟩, Below.refl _ _⟩
    · have hki : (k : Int) ≤ 52 := by omega
      have j1 : (4 : Int) + (k : Int) ≤ (c : Int) := by omega
      have i5 : 4 < c := by omega
      have hrp : Reads w B 1 (some (ad.add 4)) k (bts (pay s)) ∧ k = (pay s).length := by
        rw [← HPAY.out]
        rcases Nat.eq_zero_or_pos k with h0 | h0
        · subst h0
          exact ⟨⟨by simp [bts], fun h => absurd h (by omega)⟩, by simp⟩
        · exact HC.out 4 k h0 (by omega) w (Below.refl _ _)
      obtain ⟨hrp, hpl⟩ := hrp
      have HPL := Lib.hid hpl
      clear hpl
      by_cases hx8 : x < 8192
      · have hen := rPage_ok (pay s) k HPL.out (some (ad.add 4)) (c - 4) x w B hrp hB (by omega) b4 hx8
        go_enter Try.func49, Try.ntmps49
        go_wp2_with fail
        refine n1.mono ?_
        clear n1
        rintro e w1 ⟨rfl, rfl⟩
        go_wp2_with fail
        refine n2.mono ?_
        clear n2
        rintro e w1 ⟨rfl, rfl⟩
        go_wp2_with fail
        refine hen.mono ?_
        clear hen
        rintro e w2 ⟨v2, rfl, hown2, hb2⟩
        obtain ⟨A2, c2, rfl, _, _, hr2⟩ := own_form hown2
        have hs1 := str_of (P := Try.prog) (c := c2) hr2 (pageL_length (pay s) x (by rw [← HPL.out]; omega)).symm Try.underlying25 Try.underlying5 Try.underlying9
        have hs2 := str_of (P := Try.prog) (c := c) (hr.below (hb2.mono hB)) HS.out Try.underlying25 Try.underlying5 Try.underlying9
        have hrp2 := hrp.below (hb2.mono hB)
        have HO := Lib.hid (fun h : pageL (pay s) x = s => (⟨HS.out.symm, by rw [← HK.out]; omega, by rw [← HX.out]; exact hx8, by rw [← HX.out]; exact h⟩ : PDecOk s))
        have HI := Lib.hid (fun h : PDecOk s => (by have := h.enc; rwa [← HX.out] at this : pageL (pay s) x = s))
        clear hown2 hr2 hr hrp
        by_cases hq : pageL (pay s) x = s
        · have hok := HO.out hq
          have hbq : (pageL (pay s) x == s) = true := by simpa using hq
          have hbq2 : (pageL (pay s) x != s) = false := by simpa using hq
          have hkk : (4 + k - 4) = k := by omega
          clear hq HO HI
          go_wp2_with (at_builtin; (refine wpList_append_any _ rfl (.tmp 47) (.tmp 51) _ rfl w.heap.size 5 i0 _ 1 1 Try.underlying25 hi0 hz0 hz1 hz2 rfl (by omega) (.slice none 0 0) 0 [] rfl (World.ownsRow_nil _ _ _ _) B _ k (c - 4) (bts (pay s)) ?c1 hrp2 (bts_one _) (by unfold maxLen; omega) (by omega) hb2.size ?_); (case c1 => simp [Act.eval, Addr.add]); intro v3 w3 hown3 hg3 _)
          have hb5 := hb2.grown hg3 hb2.size (fun j hj => by cases hj)
          have hown5 : w3.ownsRow w.heap.size 5 1 v3 k (bts (pay s)) := by simpa using hown3
          clear hown3 hg3
          go_ret3
          exact ⟨.inl ⟨hok, v3, by rw [← HX.out]; rfl, by rw [← HK.out]; exact hown5⟩, hb5⟩
        · have hno : ¬ PDecOk s := fun h => hq (HI.out h)
          have hbq : (pageL (pay s) x == s) = false := by simpa using hq
          have hbq2 : (pageL (pay s) x != s) = true := by simpa using hq
          clear hq HO HI hrp2
          go_wp2_with fail
          go_ret3
          exact ⟨.inr ⟨hno, rfl⟩, hb2⟩
      · have hen := rPage_range k (some (ad.add 4)) (c - 4) x w (by omega) (.inr (by omega))
        have hno : ¬ PDecOk s := fun h => hx8 (by rw [HX.out]; exact h.x)
        clear hrp hr
        go_enter Try.func49, Try.ntmps49
        go_wp2_with fail
        refine n1.mono ?_
        clear n1
        rintro e w1 ⟨rfl, rfl⟩
        go_wp2_with fail
        refine n2.mono ?_
        clear n2
        rintro e w1 ⟨rfl, rfl⟩
        go_wp2_with fail
        refine hen.mono ?_
        clear hen
        rintro e w2 ⟨rfl, rfl⟩
        go_wp2_with fail
        go_ret3
        exact ⟨.inr ⟨hno, rfl⟩, Below.refl _ _⟩
  · have e1 : ((n : Int) == 64) = false := by simp; omega
    have e2 : ((n : Int) != 64) = true := by simp; omega
    have e3 : ¬ (n : Int) = 64 := by omega
    have hno : ¬ PDecOk s := fun h => h64 (hns.trans h.len)
    clear hns
    go_enter Try.func49, Try.ntmps49
    go_wp2_with fail
    go_ret3
    exact ⟨.inr ⟨hno, rfl⟩, Below.refl _ _⟩

/-- how many pages so many octets need -/
def cntZ (n : Int) : Int := if n ≤ 0 then 0 else (n - 1) / 52 + 1
theorem count_any (n : Int) (h : -9223372036854775808 ≤ n ∧ n ≤ 9223372036854775807) (w : World) : Calls Try.prog 50 #[.int .i64 n] w fun e w' => e = .returned (.int .i64 (cntZ n)) ∧ w = w' := by
  by_cases h0 : n ≤ 0
  · have hc := Lib.hid (show cntZ n = 0 by simp [cntZ, h0])
    go_enter Try.func50, Try.ntmps50
    go_wp2_with fail
    go_ret
    exact ⟨by rw [hc.out]; rfl, rfl⟩
  · have h1 : 0 < n := by omega
    obtain ⟨h2, h3⟩ := h
    have hc := Lib.hid (show cntZ n = (n - 1) / 52 + 1 by simp [cntZ, h0])
    go_enter Try.func50, Try.ntmps50
    go_wp2_with fail
    go_ret
    exact ⟨by rw [hc.out]; rfl, rfl⟩
theorem rCount_any (n : Int) (h : -9223372036854775808 ≤ n ∧ n ≤ 9223372036854775807) (w : World) : Calls Try.prog 51 #[.int .i64 n] w fun e w' => e = .returned (.int .i64 (cntZ n)) ∧ w = w' := by
  by_cases h0 : n ≤ 0
  · have hc := Lib.hid (show cntZ n = 0 by simp [cntZ, h0])
    go_enter Try.func51, Try.ntmps51
    go_wp2_with fail
    go_ret
    exact ⟨by rw [hc.out]; rfl, rfl⟩
  · have h1 : 0 < n := by omega
    obtain ⟨h2, h3⟩ := h
    by_cases h4 : 0 < n % 52
    · have hc := Lib.hid (show cntZ n = n / 52 + 1 by simp only [cntZ, h0, if_false]; omega)
      go_enter Try.func51, Try.ntmps51
      go_wp2_with fail
      go_ret
      exact ⟨by rw [hc.out]; rfl, rfl⟩
    · have hc := Lib.hid (show cntZ n = n / 52 by simp only [cntZ, h0, if_false]; omega)
      go_enter Try.func51, Try.ntmps51
      go_wp2_with fail
      go_ret
      exact ⟨by rw [hc.out]; rfl, rfl⟩
end Go.Proofs.Ytcchnoadclidcaa
