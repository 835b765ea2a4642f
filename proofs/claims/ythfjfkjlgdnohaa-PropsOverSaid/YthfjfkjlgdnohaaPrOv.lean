/-
  PropsOver, walked.
-/
import Derived.Test.YthfjfkjlgdnohaaRefOver
import Derived.Test.YthfjfkjlgdnohaaPrArg
namespace Go.Proofs.Ythfjfkjlgdnohaa
open Go.RowKit Go.Maps

theorem PropsIn.lift {w : World} {B B' : Nat} {v : Value} {l : PL} (h : PropsIn w B v l) (hB : B ≤ B') : PropsIn w B' v l := by
  obtain ⟨A, n, c, rfl, hn, hm, hr⟩ := h.ex
  exact ⟨⟨A, n, c, rfl, hn, hm, ⟨hr.1, fun h0 => by obtain ⟨ad, e, hb, hc⟩ := hr.2 h0; exact ⟨ad, e, by omega, hc⟩⟩⟩, h.ok⟩
theorem overLift {f : FuncId} (hf : ∀ (ls : List (Value × PL)) (n : Nat) (_ : n = ls.length) (A : Option Addr) (c : Nat) (w : World) (B : Nat) (_ : Reads w B 1 A n (ls.map (·.1))) (_ : B ≤ w.heap.size) (_ : ∀ p ∈ ls, PropsIn w B p.1 p.2) (_ : n ≤ 100000),
      Calls Try.prog f #[.slice A n c] w (OverPost w (allP (ls.map (·.2)).flatten) (overE (ls.map (·.2)))))
    (ls : List (Value × PL)) (n : Nat) (hn : n = ls.length) (cs : Array Value) (hcs : cs.toList = ls.map (·.1)) (w : World) (B : Nat) (hB : B ≤ w.heap.size) (hin : ∀ p ∈ ls, PropsIn w B p.1 p.2) (h5 : n ≤ 100000) :
    Calls Try.prog f #[.slice (some ⟨w.heap.size, 0, none⟩) n n] (w.alloc (.cells cs 22)) (OverPost w (allP (ls.map (·.2)).flatten) (overE (ls.map (·.2)))) := by
  have hal : (w.alloc (.cells cs 22)).heap.size = w.heap.size + 1 := by show (w.heap.push _).size = _; rw [Array.size_push]
  have hb0 : Below w.heap.size w (w.alloc (.cells cs 22)) := (Below.refl _ w).alloc (Nat.le_refl _) _
  have hsz : cs.size = n * 1 := by rw [← Array.length_toList, hcs, List.length_map, hn, Nat.mul_one]
  have hrd := Reads.lit w cs 22 hsz
  rw [hcs] at hrd
  refine (hf ls n hn _ n _ (w.heap.size + 1) hrd (by omega) (fun p hp => ((hin p hp).below (hb0.mono hB)).lift (by omega)) h5).mono ?_
  rintro e w' ⟨v, rfl, hv, hb⟩
  refine ⟨v, rfl, ?_, hb0.trans (hb.mono (by omega))⟩
  split
  · rename_i hE
    rw [if_pos hE] at hv
    exact own_mono hv (by omega)
  · rename_i hE
    rw [if_neg hE] at hv
    exact hv
theorem overE_small {ls : List PL} (h : overE ls = 0) : (allP ls.flatten).length ≤ 8 ∧ ∀ l ∈ ls, propsB l = true := by
  unfold overE at h
  split at h
  · rename_i h1
    split at h
    · cases h
    · exact ⟨by omega, List.all_eq_true.1 h1⟩
  · cases h
set_option maxRecDepth 100000 in
set_option maxHeartbeats 2000000 in
theorem propsOver_any (a b c : PL) (n m q : Nat) (hna : n = a.length) (hmb : m = b.length) (hqc : q = c.length) (A1 A2 A3 : Option Addr) (c1 c2 c3 : Nat) (w : World) (hr1 : Reads w w.heap.size 2 A1 n (pcells a)) (hr2 : Reads w w.heap.size 2 A2 m (pcells b)) (hr3 : Reads w w.heap.size 2 A3 q (pcells c))
    (h1 : strOk a) (h2 : strOk b) (h3 : strOk c) (hn : n ≤ 5000000000000) (hm : m ≤ 5000000000000) (hq : q ≤ 5000000000000) :
    LawCalls Try.prog 7 #[.slice A1 n c1, .slice A2 m c2, .slice A3 q c3] w := by
  have hin : ∀ W, Below w.heap.size w W → ∀ p ∈ [((.slice A1 n c1 : Value), a), (.slice A2 m c2, b), (.slice A3 q c3, c)], PropsIn W w.heap.size p.1 p.2 := by
    intro W hb p hp
    rcases List.mem_cons.1 hp with rfl | hp
    · exact ⟨⟨A1, n, c1, rfl, hna, hn, hr1.below hb⟩, h1⟩
    rcases List.mem_cons.1 hp with rfl | hp
    · exact ⟨⟨A2, m, c2, rfl, hmb, hm, hr2.below hb⟩, h2⟩
    · rw [List.mem_singleton] at hp
      subst hp
      exact ⟨⟨A3, q, c3, rfl, hqc, hq, hr3.below hb⟩, h3⟩
  have hin2 : ∀ W, Below w.heap.size w W → ∀ p ∈ [((.slice A1 n c1 : Value), a), (.slice A1 n c1, a)], PropsIn W w.heap.size p.1 p.2 := by
    intro W hb p hp
    have : p = (.slice A1 n c1, a) := by simpa using hp
    subst this
    exact ⟨⟨A1, n, c1, rfl, hna, hn, hr1.below hb⟩, h1⟩
  have o1 := fun W (hb : Below w.heap.size w W) => overLift (f := 24) (fun ls n h A c w B h2 h3 h4 h5 => over_any ls n h A c w B h2 h3 h4 (by omega)) [(.slice A1 n c1, a), (.slice A2 m c2, b), (.slice A3 q c3, c)] 3 rfl #[.slice A1 n c1, .slice A2 m c2, .slice A3 q c3] rfl W _ hb.size (hin W hb) (by omega)
  have o2 := fun W (hb : Below w.heap.size w W) => overLift (f := 25) refOver_any [(.slice A1 n c1, a), (.slice A2 m c2, b), (.slice A3 q c3, c)] 3 rfl #[.slice A1 n c1, .slice A2 m c2, .slice A3 q c3] rfl W _ hb.size (hin W hb) (by omega)
  have o3 := fun W (hb : Below w.heap.size w W) => overLift (f := 24) (fun ls n h A c w B h2 h3 h4 h5 => over_any ls n h A c w B h2 h3 h4 (by omega)) [(.slice A1 n c1, a), (.slice A1 n c1, a)] 2 rfl #[.slice A1 n c1, .slice A1 n c1] rfl W _ hb.size (hin2 W hb) (by omega)
  simp only [List.map_cons, List.map_nil] at o1 o2 o3
  have s1 := @overE_small [a, b, c]
  have s2 := @overE_small [a, a]
  have hself : overE [a, a] = 0 → allP [a, a].flatten = a := by
    intro h
    have hs := propsB_sort a ((s2 h).2 a (by simp))
    refine sortP_ext _ _ (sort_allP _) hs (fun k => ?_)
    have : [a, a].flatten = a ++ a := by simp
    rw [this, allP_over a a hs, allP_self a hs]
    cases getP a k <;> rfl
  obtain ⟨E1, hE1⟩ : ∃ E, E = overE [a, b, c] := ⟨_, rfl⟩
  obtain ⟨E2, hE2⟩ : ∃ E, E = overE [a, a] := ⟨_, rfl⟩
  obtain ⟨F1, hF1⟩ : ∃ F, F = allP [a, b, c].flatten := ⟨_, rfl⟩
  obtain ⟨F2, hF2⟩ : ∃ F, F = allP [a, a].flatten := ⟨_, rfl⟩
  rw [← hE1, ← hF1] at s1
  rw [← hE2, ← hF2] at s2
  rw [← hE2, ← hF2] at hself
  simp only [← hE1, ← hF1] at o1 o2
  simp only [← hE2, ← hF2] at o3
  have O1 := Lib.hid o1
  have O2 := Lib.hid o2
  have O3 := Lib.hid o3
  have S1 := Lib.hid s1
  have S2 := Lib.hid s2
  have SE := Lib.hid hself
  have R1 := Lib.hid hr1
  have HN := Lib.hid hna
  clear o1 o2 o3 s1 s2 hself hE1 hE2 hF1 hF2 hin hin2 hr1 hr2 hr3 h1 h2 h3 hna hmb hqc
  show Calls _ _ _ _ _
  go_enter Try.func7, Try.ntmps7
  go_wp2_with fail
  refine (O1.out _ (Below.refl _ _)).mono ?_
  clear O1
  rintro e w1 ⟨v1, rfl, hv1, hb1⟩
  go_wp2_with fail
  refine (O2.out _ hb1).mono ?_
  clear O2
  rintro e w2 ⟨v2, rfl, hv2, hb2⟩
  have hb12 := hb1.trans (hb2.mono hb1.size)
  go_wp2_with fail
  refine (O3.out _ hb12).mono ?_
  clear O3
  rintro e w3 ⟨v3, rfl, hv3, hb3⟩
  have hb13 := hb12.trans (hb3.mono hb12.size)
  have hb23 := hb2.trans (hb3.mono hb2.size)
  -- the first two are one
  obtain ⟨A4, k4, c4, A5, c5, rfl, rfl, hk4, hk8, r4, r5⟩ : ∃ (A4 : Option Addr) (k4 c4 : Nat) (A5 : Option Addr) (c5 : Nat), v1 = .slice A4 k4 c4 ∧ v2 = .slice A5 k4 c5 ∧ (∃ L : PL, k4 = L.length ∧ Reads w3 w3.heap.size 2 A4 k4 (pcells L) ∧ Reads w3 w3.heap.size 2 A5 k4 (pcells L)) ∧ k4 ≤ 8 ∧ True ∧ True := by
    by_cases h : E1 = 0
    · rw [if_pos h] at hv1 hv2
      obtain ⟨A4, c4, rfl, _, _, r4⟩ := own_form hv1
      obtain ⟨A5, c5, rfl, _, _, r5⟩ := own_form hv2
      refine ⟨A4, _, c4, A5, c5, rfl, rfl, ⟨F1, rfl, ?_, ?_⟩, (S1.out h).1, trivial, trivial⟩
      · have := r4.below hb23
        exact ⟨this.1, fun h0 => by obtain ⟨ad, e, hb, hc⟩ := this.2 h0; have := hb23.size; exact ⟨ad, e, by omega, hc⟩⟩
      · have := r5.below hb3
        exact ⟨this.1, fun h0 => by obtain ⟨ad, e, hb, hc⟩ := this.2 h0; have := hb3.size; exact ⟨ad, e, by omega, hc⟩⟩
    · rw [if_neg h] at hv1 hv2
      exact ⟨none, 0, 0, none, 0, hv1, hv2, ⟨[], rfl, Reads.none_, Reads.none_⟩, by omega, trivial, trivial⟩
  obtain ⟨L, hkL, rA, rB⟩ := hk4
  have cs1 := sameProps_any L L k4 k4 hkL hkL A4 A5 c4 c5 w3 _ _ rA rB (by omega) (by omega)
  rw [decide_eq_true (show L = L from rfl)] at cs1
  have hd1 : (E1 == E1) = true := by simp
  clear hv1 hv2 hb1 hb2 hb3 hkL rA rB r4 r5 hb12 hb23 S1
  go_wp2_with fail
  refine cs1.mono ?_
  clear cs1
  rintro e w4 ⟨rfl, q4, rfl⟩
  go_wp2_with fail
  refine (num12_any E1 _).mono ?_
  rintro e w5 ⟨rfl, rfl⟩
  go_wp2_with fail
  refine (num12_any E2 _).mono ?_
  rintro e w5 ⟨rfl, rfl⟩
  by_cases h : E2 = 0
  · subst h
    rw [if_pos rfl] at hv3
    obtain ⟨A6, c6, rfl, _, _, r6⟩ := own_form hv3
    have hFa := SE.out rfl
    obtain ⟨k6, hk6⟩ : ∃ k, k = F2.length := ⟨_, rfl⟩
    have hk8b : k6 ≤ 8 := by have := (S2.out rfl).1; omega
    have cs2 := sameProps_any F2 a k6 n hk6 HN.out A6 A1 c6 c1 (w3.drewN q4) w3.heap.size w.heap.size (by rw [hk6]; exact r6) (R1.out.below (below_drewN hb13 q4)) (by omega) hn
    rw [decide_eq_true hFa] at cs2
    rw [← hk6]
    clear hv3 r6 hFa SE S2 R1 hk6
    go_wp2_with fail
    refine cs2.mono ?_
    clear cs2
    rintro e w5 ⟨rfl, q5, rfl⟩
    go_wp2_with fail
    refine (alive12_any _).mono ?_
    rintro e w8 ⟨rfl, hb8⟩
    go_wp2_with fail
    go_ret
    exact ⟨rfl, (below_drewN hb13 (q4 + q5)).trans (hb8.mono hb13.size)⟩
  · have hd2 : (E2 != 0) = true := by simp [h]
    clear hv3 h SE S2 R1
    go_wp2_with fail
    refine (alive12_any _).mono ?_
    rintro e w8 ⟨rfl, hb8⟩
    go_wp2_with fail
    go_ret
    exact ⟨rfl, (below_drewN hb13 q4).trans (hb8.mono hb13.size)⟩
end Go.Proofs.Ythfjfkjlgdnohaa
