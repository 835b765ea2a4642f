/-
  BlocksBack (the law's walk): a content comes back from its octets, and octets from theirs.
-/
import Derived.Test.YtfknlijbphoceaaBkAlive
import Derived.Test.YtfknlijbphoceaaFrame
namespace Go.Proofs.Ytfknlijbphoceaa
open Go.RowKit Go.ChangeShapes Go.WideShapes Go.ChangeAt

set_option maxRecDepth 100000 in
set_option maxHeartbeats 4000000 in
theorem blocksBack_any (l : BL) (n : Nat) (hnl : n = l.length) (A : Option Addr) (c : Nat) (b : List UInt8) (m : Nat) (hmb : m = b.length) (A' : Option Addr) (c' : Nat) (w : World) (hr : Reads w w.heap.size 2 A n (bcells l)) (hr' : Reads w w.heap.size 1 A' m (bts b)) (hn : n ≤ 5000000000000) (hm : m ≤ 5000000000000) (hc' : m ≤ c') (hcm' : c' ≤ 9223372036854775807) :
    LawCalls Try.prog 6 #[.slice A n c, .slice A' m c'] w := by
  have hoct := fun W (hb : Below w.heap.size w W) => bkOctets_any l n hnl A c W w.heap.size (hr.below hb) hb.size hn
  have HR := Lib.hid hr
  have HR' := Lib.hid hr'
  have HN := Lib.hid hnl
  have HM := Lib.hid hmb
  clear hr hr' hnl hmb
  cases hok : okL l with
  | false =>
    go_enter Try.func6, Try.ntmps6
    go_wp2_with fail
    refine (alive11_any _).mono ?_
    rintro e w1 ⟨rfl, hb1⟩
    go_wp2_with fail
    refine (hoct _ hb1).mono ?_
    rintro e w2 ⟨v2, m2, rfl, hp2, hb2⟩
    rw [show okE l = 9 by unfold okE; rw [hok]; rfl]
    have hbb := hb1.trans (hb2.mono hb1.size)
    clear hp2 hoct hb1 hb2
    go_wp2_with fail
    refine (num11 _ _).mono ?_
    rintro e w3 ⟨rfl, rfl⟩
    go_wp2_with fail
    by_cases hs : m % 18 ≠ 0
    · refine (bkRead_short m A' c' _ hs).mono ?_
      rintro e w7 ⟨rfl, rfl⟩
      go_wp2_with fail
      refine (num11 _ _).mono ?_
      rintro e w8 ⟨rfl, rfl⟩
      go_wp2_with fail
      go_ret
      exact ⟨rfl, hbb⟩
    · cases hok2 : okL (readL b) with
      | false =>
        have hrd := bkRead_any b m HM.out A' c' _ w.heap.size (HR'.out.below hbb) hbb.size hc' hcm' hm (m / 18) (by omega)
        refine hrd.mono ?_
        clear hrd
        rintro e w7 ⟨⟨v7, rfl, hv7⟩, hb7⟩
        rw [if_neg (by rw [hok2]; decide)] at hv7
        subst hv7
        rw [show okE (readL b) = 9 by unfold okE; rw [hok2]; rfl]
        have hbb := hbb.trans (hb7.mono hbb.size)
        clear hb7
        go_wp2_with fail
        refine (num11 _ _).mono ?_
        rintro e w8 ⟨rfl, rfl⟩
        go_wp2_with fail
        go_ret
        exact ⟨rfl, hbb⟩
      | true =>
        have hrd := bkRead_any b m HM.out A' c' _ w.heap.size (HR'.out.below hbb) hbb.size hc' hcm' hm (m / 18) (by omega)
        refine hrd.mono ?_
        clear hrd
        rintro e w7 ⟨⟨v7, rfl, hv7⟩, hb7⟩
        rw [if_pos hok2] at hv7
        rw [show okE (readL b) = 0 by unfold okE; rw [hok2]; rfl]
        obtain ⟨A7, c7, rfl, _, _, hr7⟩ := own_form hv7
        have hbb := hbb.trans (hb7.mono hbb.size)
        have ho7 := bkOctets_any (readL b) (m / 18) (by rw [HM.out]; simp [readL, rdL]) A7 c7 w7 w7.heap.size hr7 (Nat.le_refl _) (by omega)
        clear hb7 hv7 hr7
        go_wp2_with fail
        refine (num11 _ _).mono ?_
        rintro e w8 ⟨rfl, rfl⟩
        go_wp2_with fail
        refine ho7.mono ?_
        clear ho7
        rintro e w9 ⟨v9, m9, rfl, hp9, hb9⟩
        rw [show okE (readL b) = 0 by unfold okE; rw [hok2]; rfl]
        rw [if_pos hok2, oct_read b (by rw [← HM.out]; omega)] at hp9
        have hbb := hbb.trans (hb9.mono hbb.size)
        obtain ⟨hm9, A9, c9, rfl, _, _, hr9⟩ := hp9
        have s1 := strE_of (P := Try.prog) (c := c9) hr9 hm9 Try.underlying47 Try.underlying5 Try.underlying9
        have s2 := strE_of (P := Try.prog) (c := c') (HR'.out.below hbb) HM.out Try.underlying47 Try.underlying5 Try.underlying9
        clear hr9 hb9 hm9
        go_wp2_with fail
        refine (num11 _ _).mono ?_
        rintro e w10 ⟨rfl, rfl⟩
        go_wp2_with fail
        go_ret
        exact ⟨rfl, hbb⟩
  | true =>
    go_enter Try.func6, Try.ntmps6
    go_wp2_with fail
    refine (alive11_any _).mono ?_
    rintro e w1 ⟨rfl, hb1⟩
    go_wp2_with fail
    refine (hoct _ hb1).mono ?_
    rintro e w2 ⟨v2, m2, rfl, hp2, hb2⟩
    rw [show okE l = 0 by unfold okE; rw [hok]; rfl]
    rw [if_pos hok] at hp2
    obtain ⟨hm2, A2, c2, rfl, hc2, hcm2, hr2⟩ := hp2
    unfold maxLen at hcm2
    have hbb := hb1.trans (hb2.mono hb1.size)
    obtain ⟨ro1, ro2⟩ := read_oct l hok
    have hsm := okL_small l hok
    have hrd := bkRead_any (bkOct l) m2 hm2 A2 c2 w2 w2.heap.size hr2 (Nat.le_refl _) hc2 (by omega) (by omega) l.length (by omega)
    have HN2 := Lib.hid hm2
    clear hoct hb1 hb2 hr2 hc2 hcm2 hm2 ro1
    go_wp2_with fail
    refine (num11 _ _).mono ?_
    rintro e w3 ⟨rfl, rfl⟩
    go_wp2_with fail
    refine hrd.mono ?_
    clear hrd
    rintro e w4 ⟨⟨v4, rfl, hv4⟩, hb4⟩
    rw [ro2] at hv4
    rw [ro2, show okE l = 0 by unfold okE; rw [hok]; rfl]
    rw [if_pos hok] at hv4
    have hbb := hbb.trans (hb4.mono hbb.size)
    obtain ⟨A4, c4, rfl, _, _, hr4⟩ := own_form hv4
    have hsame := fun q => rsame_any l l n l.length HN.out rfl A A4 c c4 (w4.drewN q) w.heap.size w4.heap.size ((HR.out.below hbb).drewN q) (hr4.drewN q) (by omega)
    rw [show (l == l) = true by simp] at hsame
    clear hv4 hr4 hb4 ro2
    go_wp2_with fail
    refine (num11 _ _).mono ?_
    rintro e w5 ⟨rfl, rfl⟩
    go_wp2_with fail
    refine (hsame 0).mono ?_
    clear hsame
    rintro e w6 ⟨rfl, q, rfl⟩
    have hbb := below_drewN (below_drewN hbb 0) q
    go_wp2_with fail
    by_cases hs : m % 18 ≠ 0
    · refine (bkRead_short m A' c' _ hs).mono ?_
      rintro e w7 ⟨rfl, rfl⟩
      go_wp2_with fail
      refine (num11 _ _).mono ?_
      rintro e w8 ⟨rfl, rfl⟩
      go_wp2_with fail
      go_ret
      exact ⟨rfl, hbb⟩
    · cases hok2 : okL (readL b) with
      | false =>
        have hrd := bkRead_any b m HM.out A' c' _ w.heap.size (HR'.out.below hbb) hbb.size hc' hcm' hm (m / 18) (by omega)
        refine hrd.mono ?_
        clear hrd
        rintro e w7 ⟨⟨v7, rfl, hv7⟩, hb7⟩
        rw [if_neg (by rw [hok2]; decide)] at hv7
        subst hv7
        rw [show okE (readL b) = 9 by unfold okE; rw [hok2]; rfl]
        have hbb := hbb.trans (hb7.mono hbb.size)
        clear hb7
        go_wp2_with fail
        refine (num11 _ _).mono ?_
        rintro e w8 ⟨rfl, rfl⟩
        go_wp2_with fail
        go_ret
        exact ⟨rfl, hbb⟩
      | true =>
        have hrd := bkRead_any b m HM.out A' c' _ w.heap.size (HR'.out.below hbb) hbb.size hc' hcm' hm (m / 18) (by omega)
        refine hrd.mono ?_
        clear hrd
        rintro e w7 ⟨⟨v7, rfl, hv7⟩, hb7⟩
        rw [if_pos hok2] at hv7
        rw [show okE (readL b) = 0 by unfold okE; rw [hok2]; rfl]
        obtain ⟨A7, c7, rfl, _, _, hr7⟩ := own_form hv7
        have hbb := hbb.trans (hb7.mono hbb.size)
        have ho7 := bkOctets_any (readL b) (m / 18) (by rw [HM.out]; simp [readL, rdL]) A7 c7 w7 w7.heap.size hr7 (Nat.le_refl _) (by omega)
        clear hb7 hv7 hr7
        go_wp2_with fail
        refine (num11 _ _).mono ?_
        rintro e w8 ⟨rfl, rfl⟩
        go_wp2_with fail
        refine ho7.mono ?_
        clear ho7
        rintro e w9 ⟨v9, m9, rfl, hp9, hb9⟩
        rw [show okE (readL b) = 0 by unfold okE; rw [hok2]; rfl]
        rw [if_pos hok2, oct_read b (by rw [← HM.out]; omega)] at hp9
        have hbb := hbb.trans (hb9.mono hbb.size)
        obtain ⟨hm9, A9, c9, rfl, _, _, hr9⟩ := hp9
        have s1 := strE_of (P := Try.prog) (c := c9) hr9 hm9 Try.underlying47 Try.underlying5 Try.underlying9
        have s2 := strE_of (P := Try.prog) (c := c') (HR'.out.below hbb) HM.out Try.underlying47 Try.underlying5 Try.underlying9
        clear hr9 hb9 hm9
        go_wp2_with fail
        refine (num11 _ _).mono ?_
        rintro e w10 ⟨rfl, rfl⟩
        go_wp2_with fail
        go_ret
        exact ⟨rfl, hbb⟩
end Go.Proofs.Ytfknlijbphoceaa
