/-
  The law's num, alive; the walks of the laws NamesUnder, NamesBack.
-/
import Derived.Test.YtfknlijbphoceaaDoorNmRest
import Derived.Test.YtfknlijbphoceaaDoorFrame
namespace Go.Proofs.YtfknlijbphoceaaDoor
open Go.RowKit

set_option maxRecDepth 100000 in
theorem num03_any (n : Int) (w : World) : Calls Tryd.prog 13 #[.int .i64 n] w fun e w' => e = .returned (.int .i64 n) ∧ w' = w := by
  go_enter Tryd.func13, Tryd.ntmps13
  go_wp2_with fail
  go_ret
  exact ⟨rfl, rfl⟩
set_option maxRecDepth 100000 in
theorem alive03_any (w : World) (hm : HasMax w) : Calls Tryd.prog 5 #[] w fun e w' => e = .returned (.bool true) ∧ Below w.heap.size w w' := by
  go_enter Tryd.func5, Tryd.ntmps5
  go_wp2_with fail
  refine (canon_any ⟨#[65, 47, 98, 47]⟩ w (by decide) hm).mono ?_
  rintro e w1 ⟨rfl, hb1⟩
  have hm1 := hm.below hb1
  rw [show canonV (⟨#[65, 47, 98, 47]⟩ : ByteArray).data.toList = .tuple #[.string ⟨#[97, 47, 98]⟩, .int .i64 0] by kernel_rfl]
  go_wp2_with fail
  refine (num03_any _ _).mono ?_
  rintro e w2 ⟨rfl, rfl⟩
  go_wp2_with fail
  refine (under_any ⟨#[97, 47, 98]⟩ ⟨#[97]⟩ _ (by decide) (by decide) hm1).mono ?_
  rintro e w3 ⟨rfl, hb3⟩
  have hb := hb1.trans (hb3.mono hb1.size)
  rw [show underB (⟨#[97, 47, 98]⟩ : ByteArray).data.toList (⟨#[97]⟩ : ByteArray).data.toList = true by kernel_rfl]
  go_wp2_with fail
  go_ret
  exact ⟨rfl, hb⟩

theorem bytes_eq {a b : ByteArray} (h : a.data.toList = b.data.toList) : a = b := by rw [← mk_data a, ← mk_data b, h]
/-- Under, its answer named -/
theorem under_is (p f : ByteArray) (b : Bool) (w : World) (hb : underB p.data.toList f.data.toList = b) (hp : p.size ≤ 4000000000) (hf : f.size ≤ 4000000000) (hm : HasMax w) :
    Calls Tryd.prog 8 #[.string p, .string f] w fun e w' => e = .returned (.bool b) ∧ Below w.heap.size w w' ∧ HasMax w' := by
  subst hb
  exact (under_any p f w hp hf hm).mono fun _ _ ⟨h1, h2⟩ => ⟨h1, h2, hm.below h2⟩
theorem path_is (p : ByteArray) (b : Bool) (w : World) (hb : pathB p.data.toList = b) (hp : p.size ≤ 4000000000) (hm : HasMax w) :
    Calls Tryd.prog 7 #[.string p] w fun e w' => e = .returned (.bool b) ∧ Below w.heap.size w w' ∧ HasMax w' := by
  subst hb
  exact (path_any p w hp hm).mono fun _ _ ⟨h1, h2⟩ => ⟨h1, h2, hm.below h2⟩

set_option maxRecDepth 100000 in
set_option maxHeartbeats 2000000 in
theorem namesUnder_any (s t : ByteArray) (w : World) (hs : s.size ≤ 4000000000) (ht : t.size ≤ 4000000000) (hm : HasMax w) : LawCalls Tryd.prog 3 #[.string s, .string t] w := by
  unfold LawCalls
  have hts := Lib.hid (toList_data s)
  have htt := Lib.hid (toList_data t)
  go_enter Tryd.func3, Tryd.ntmps3
  go_wp2_with fail
  refine (alive03_any w hm).mono ?_
  rintro e w1 ⟨rfl, hb1⟩
  have hm1 := hm.below hb1
  go_wp2_with fail
  refine (parent_any s _ hs hm1).mono ?_
  rintro e w2 ⟨hb2, h2⟩
  have hm2 := hm1.below hb2
  have hb := hb1.trans (hb2.mono hb1.size)
  clear hm hm1 hb1 hb2
  by_cases hpath : pathB s.data.toList = true
  · -- s is a path
    by_cases hs0 : s.data.toList = []
    · rcases h2 with ⟨_, rfl⟩ | ⟨h, _, _⟩
      · have hsl : s.toList = [] := by rw [hts.out]; exact hs0
        have hp := Lib.hid hpath
        have h0 := Lib.hid hs0
        clear hpath hs0
        go_wp2_with fail
        refine (path_is s true _ hp.out hs hm2).mono ?_
        rintro e w3 ⟨rfl, hb3, hm3⟩
        replace hb := hb.trans (hb3.mono hb.size)
        clear hb3 hm2
        go_wp2_with fail
        refine (under_is s s true _ (under_self _ hp.out).1 hs hs hm3).mono ?_
        rintro e w4 ⟨rfl, hb4, hm4⟩
        replace hb := hb.trans (hb4.mono hb.size)
        clear hb4 hm3
        go_wp2_with fail
        refine (under_is s ⟨#[]⟩ true _ (under_self _ hp.out).2 hs (by decide) hm4).mono ?_
        rintro e w5 ⟨rfl, hb5, hm5⟩
        replace hb := hb.trans (hb5.mono hb.size)
        clear hb5 hm4
        go_wp2_with fail
        cases hst : underB s.data.toList t.data.toList with
        | false =>
          refine (under_is s t false _ hst hs ht hm5).mono ?_
          rintro e w6 ⟨rfl, hb6, hm6⟩
          replace hb := hb.trans (hb6.mono hb.size)
          clear hb6 hm5
          go_wp2_with fail
          go_ret
          exact ⟨rfl, hb⟩
        | true =>
          refine (under_is s t true _ hst hs ht hm5).mono ?_
          rintro e w6 ⟨rfl, hb6, hm6⟩
          replace hb := hb.trans (hb6.mono hb.size)
          clear hb6 hm5
          go_wp2_with fail
          cases hts2 : underB t.data.toList s.data.toList with
          | false =>
            refine (under_is t s false _ hts2 ht hs hm6).mono ?_
            rintro e w7 ⟨rfl, hb7, hm7⟩
            replace hb := hb.trans (hb7.mono hb.size)
            clear hb7 hm6
            go_wp2_with fail
            go_ret
            exact ⟨rfl, hb⟩
          | true =>
            obtain rfl := bytes_eq (under_both _ _ hst hts2)
            refine (under_is s s true _ hts2 ht hs hm6).mono ?_
            rintro e w7 ⟨rfl, hb7, hm7⟩
            replace hb := hb.trans (hb7.mono hb.size)
            clear hb7 hm6
            go_wp2_with fail
            go_ret
            exact ⟨rfl, hb⟩
      · exact absurd hs0 h
    · rcases h2 with ⟨h, _⟩ | ⟨_, _, rfl⟩
      · rcases h with h | h
        · exact absurd h hs0
        · rw [hpath] at h; cases h
      · have hsl : ¬ s.toList = [] := by rw [hts.out]; exact hs0
        obtain ⟨h1, h2, h3⟩ := path_up _ hpath hs0
        obtain ⟨up, hup⟩ : ∃ up : ByteArray, up = ⟨(upL s.data.toList).toArray⟩ := ⟨_, rfl⟩
        have hud : up.data.toList = upL s.data.toList := by rw [hup]
        have hus : up.size ≤ 4000000000 := by
          have h4 := Lib.size_eq s
          rw [Lib.size_eq up, hud]
          unfold upL
          rw [List.length_take]
          omega
        rw [← hup]
        rw [← hud] at h1 h2 h3
        clear hup hud
        have hp := Lib.hid hpath
        have h0 := Lib.hid hs0
        clear hpath hs0
        go_wp2_with fail
        refine (path_is s true _ hp.out hs hm2).mono ?_
        rintro e w3 ⟨rfl, hb3, hm3⟩
        replace hb := hb.trans (hb3.mono hb.size)
        clear hb3 hm2
        go_wp2_with fail
        refine (under_is s up true _ h2 hs hus hm3).mono ?_
        rintro e w4 ⟨rfl, hb4, hm4⟩
        replace hb := hb.trans (hb4.mono hb.size)
        clear hb4 hm3
        go_wp2_with fail
        refine (under_is up s false _ h3 hus hs hm4).mono ?_
        rintro e w5 ⟨rfl, hb5, hm5⟩
        replace hb := hb.trans (hb5.mono hb.size)
        clear hb5 hm4
        go_wp2_with fail
        refine (under_is s s true _ (under_self _ hp.out).1 hs hs hm5).mono ?_
        rintro e w6 ⟨rfl, hb6, hm6⟩
        replace hb := hb.trans (hb6.mono hb.size)
        clear hb6 hm5
        go_wp2_with fail
        refine (under_is s ⟨#[]⟩ true _ (under_self _ hp.out).2 hs (by decide) hm6).mono ?_
        rintro e w7 ⟨rfl, hb7, hm7⟩
        replace hb := hb.trans (hb7.mono hb.size)
        clear hb7 hm6
        go_wp2_with fail
        · exact absurd (List.isEmpty_iff.1 (by assumption)) hsl
        · skip
          cases hst : underB s.data.toList t.data.toList with
          | false =>
            refine (under_is s t false _ hst hs ht hm7).mono ?_
            rintro e w8 ⟨rfl, hb8, hm8⟩
            replace hb := hb.trans (hb8.mono hb.size)
            clear hb8 hm7
            go_wp2_with fail
            go_ret
            exact ⟨rfl, hb⟩
          | true =>
            refine (under_is s t true _ hst hs ht hm7).mono ?_
            rintro e w8 ⟨rfl, hb8, hm8⟩
            replace hb := hb.trans (hb8.mono hb.size)
            clear hb8 hm7
            go_wp2_with fail
            cases hts2 : underB t.data.toList s.data.toList with
            | false =>
              refine (under_is t s false _ hts2 ht hs hm8).mono ?_
              rintro e w9 ⟨rfl, hb9, hm9⟩
              replace hb := hb.trans (hb9.mono hb.size)
              clear hb9 hm8
              go_wp2_with fail
              go_ret
              exact ⟨rfl, hb⟩
            | true =>
              obtain rfl := bytes_eq (under_both _ _ hst hts2)
              refine (under_is s s true _ hts2 ht hs hm8).mono ?_
              rintro e w9 ⟨rfl, hb9, hm9⟩
              replace hb := hb.trans (hb9.mono hb.size)
              clear hb9 hm8
              go_wp2_with fail
              go_ret
              exact ⟨rfl, hb⟩
  · have hpf : pathB s.data.toList = false := by simpa using hpath
    rcases h2 with ⟨_, rfl⟩ | ⟨_, h, _⟩
    · have e1 : underB s.data.toList t.data.toList = false := by unfold underB; rw [hpf]; rfl
      have e2 : underB t.data.toList s.data.toList = false := by unfold underB; rw [hpf]; simp
      clear hpath
      go_wp2_with fail
      refine (path_is s false _ hpf hs hm2).mono ?_
      rintro e w3 ⟨rfl, hb3, hm3⟩
      replace hb := hb.trans (hb3.mono hb.size)
      clear hb3 hm2
      go_wp2_with fail
      refine (under_is s t false _ e1 hs ht hm3).mono ?_
      rintro e w4 ⟨rfl, hb4, hm4⟩
      replace hb := hb.trans (hb4.mono hb.size)
      clear hb4 hm3
      go_wp2_with fail
      refine (under_is t s false _ e2 ht hs hm4).mono ?_
      rintro e w5 ⟨rfl, hb5, hm5⟩
      replace hb := hb.trans (hb5.mono hb.size)
      clear hb5 hm4
      go_wp2_with fail
      go_ret
      exact ⟨rfl, hb⟩
    · exact absurd h hpath
end Go.Proofs.YtfknlijbphoceaaDoor
