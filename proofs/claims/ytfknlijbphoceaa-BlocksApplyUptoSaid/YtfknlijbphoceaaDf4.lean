/-
  The law BlocksDiff, walked.
-/
import Derived.Test.YtfknlijbphoceaaDf3
import Derived.Test.YtfknlijbphoceaaFrame
namespace Go.Proofs.Ytfknlijbphoceaa
open Go.RowKit

theorem diffO_small (a b : BL) : (diffO a b).length ≤ 3000 := by
  unfold diffO
  split
  · rename_i h
    obtain ⟨ha, hb⟩ := (diffE_ok a b).1 h
    rw [diff_ref a b ha hb]
    have key : ∀ (m : Nat) (k : Int) (s : RL × Bool), (runFrom a b m k s).1.length ≤ s.1.length + m := by
      intro m
      induction m with
      | zero => intro k s; exact Nat.le_refl _
      | succ m ih =>
        intro k s
        refine Nat.le_trans (ih _ _) ?_
        have : (refStep a b k s).1.length ≤ s.1.length + 1 := by
          unfold refStep
          simp only
          split
          · rw [bump_len]; omega
          · split
            · simp
            · split <;> simp
        omega
    have := key 1024 0 ([], false)
    simp at this
    omega
  · simp
set_option maxRecDepth 100000 in
set_option maxHeartbeats 4000000 in
theorem blocksDiff_any (a b : BL) (n m : Nat) (hna : n = a.length) (hmb : m = b.length) (A B : Option Addr) (c c2 : Nat) (hc : n ≤ c) (hc2 : m ≤ c2) (w : World) (hra : Reads w w.heap.size 2 A n (bcells a)) (hrb : Reads w w.heap.size 2 B m (bcells b)) (hn : n ≤ 5000000000000) (hm : m ≤ 5000000000000) :
    LawCalls Try.prog 4 #[.slice A n c, .slice B m c2] w := by
  have h1 := bkDiff_any a b n m hna hmb A B c c2 w hra hrb hc hc2 hn hm
  have h2 := fun W (hb : Below w.heap.size w W) => rdiff_any a b n m hna hmb A B c c2 W ((hra.below hb).more hb.size) ((hrb.below hb).more hb.size) hn hm
  have hs := diffO_small a b
  unfold DiffPost at h1 h2
  obtain ⟨z, hz⟩ : ∃ z, z = diffE a b := ⟨_, rfl⟩
  obtain ⟨o, ho⟩ : ∃ o, o = diffO a b := ⟨_, rfl⟩
  obtain ⟨M, hM⟩ : ∃ M, M = o.length := ⟨_, rfl⟩
  rw [← ho] at h1 h2 hs
  rw [← hz, ← hM] at h1 h2
  rw [← hM] at hs
  have HM := Lib.hid hM
  clear hz ho hM hna hmb hra hrb
  go_enter Try.func4, Try.ntmps4
  go_wp2_with fail
  refine h1.mono ?_
  clear h1
  rintro e w1 ⟨v1, rfl, hown1, hb1⟩
  obtain ⟨A1, c1, rfl, _, _, hr1⟩ := own_form hown1
  go_wp2_with fail
  refine (h2 _ hb1).mono ?_
  clear h2
  rintro e w2 ⟨v2, rfl, hown2, hb2⟩
  obtain ⟨A2, cc2, rfl, _, _, hr2⟩ := own_form hown2
  have hr1' := Lib.hid ((hr1.below hb2).more hb2.size)
  have hr2' := Lib.hid hr2
  have hbb := Lib.hid (hb1.trans (hb2.mono hb1.size))
  clear hr1 hr2 hown1 hown2 hb1 hb2
  go_wp2_with fail
  refine (num11 _ _).mono ?_
  rintro e w3 ⟨rfl, rfl⟩
  go_wp2_with fail
  go_loopw [9] (fun j wr => ∃ k q : Nat, k ≤ M ∧ j = .int .i64 (k : Int) ∧ wr = w2.drewN q) (fun j _ => M - (intOf j).toNat)
  case atStart => exact ⟨0, 0, Nat.zero_le _, rfl, rfl⟩
  case round =>
    obtain ⟨k, q, hk, rfl, rfl⟩ := hrel
    by_cases hlt : k < M
    · have hki : (k : Int) < (M : Int) := by omega
      obtain ⟨ad, rfl, _, cx⟩ := Reads.elK encR_len hr1'.out HM.out hlt
      obtain ⟨bd, rfl, _, cy⟩ := Reads.elK encR_len hr2'.out HM.out hlt
      generalize (o[k]'(by have := HM.out; omega)) = r at cx cy
      have x0 := cx 0 (by omega)
      have x1 := cx 1 (by omega)
      have x4 := cx 4 (by omega)
      have x5 := cx 5 (by omega)
      have x6 := cx 6 (by omega)
      have x7 := cx 7 (by omega)
      have y0 := cy 0 (by omega)
      have y5 := cy 5 (by omega)
      have y6 := cy 6 (by omega)
      have y7 := cy 7 (by omega)
      rw [add_zero] at x0 y0
      rw [addr_add_succ] at x1 x4 x5 x6 x7 y5 y6 y7
      simp only [encR, List.getElem?_cons_zero, List.getElem?_cons_succ, Nat.reduceAdd, Nat.zero_add] at x0 x1 x4 x5 x6 x7 y0 y5 y6 y7
      clear cx cy
      obtain ⟨r0, r1, r2, r3⟩ := r
      simp only at x0 x1 x4 x5 x6 x7 y0 y5 y6 y7
      go_wp2_with fail
      dsimp only [List.append]
      go_big_quiet (fail)
      go_wp2_with fail
      go_roundw
      case rel => exact ⟨k + 1, q + nq, by omega, by go_num, rfl⟩
      case measure => simp [intOf]; omega
    · obtain rfl : k = M := by omega
      go_wp2_with fail
      refine (alive11_any _).mono ?_
      rintro e w5 ⟨rfl, hb5⟩
      go_wp2_with fail
      go_ret
      exact ⟨rfl, (below_drewN hbb.out q).trans (hb5.mono (by have := hbb.out.size; exact this))⟩
end Go.Proofs.Ytfknlijbphoceaa
