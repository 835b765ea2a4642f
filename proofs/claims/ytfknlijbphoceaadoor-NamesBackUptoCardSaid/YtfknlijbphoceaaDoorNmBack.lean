/-
  The walk of the law NamesBack.
-/
import Derived.Test.YtfknlijbphoceaaDoorNmUnder
namespace Go.Proofs.YtfknlijbphoceaaDoor
open Go.RowKit

theorem name_is (p : ByteArray) (b : Bool) (w : World) (hb : nameB p.data.toList = b) (hm : HasMax w) :
    Calls Tryd.prog 11 #[.string p] w fun e w' => e = .returned (.bool b) ∧ Below w.heap.size w w' ∧ HasMax w' := by
  subst hb
  exact (name_any p w).mono fun _ _ ⟨h1, h2⟩ => ⟨h1, h2, hm.below h2⟩
/-- Canon's answer, taken apart -/
theorem canon_is (s : ByteArray) (w : World) (hs : s.size ≤ 4000000000) (hm : HasMax w) :
    ∃ (a : ByteArray) (f : Int), a.size ≤ 4000000000 ∧ (f = 0 ∧ pathB a.data.toList = true ∧ canonL a.data.toList = a.data.toList ∨ f = 31 ∧ a = ⟨#[]⟩) ∧
      Calls Tryd.prog 12 #[.string s] w fun e w' => e = .returned (.tuple #[.string a, .int .i64 f]) ∧ Below w.heap.size w w' ∧ HasMax w' := by
  have hc := (canon_any s w hs hm).mono (R' := fun e w' => e = .returned (canonV s.data.toList) ∧ Below w.heap.size w w' ∧ HasMax w') fun _ _ ⟨h1, h2⟩ => ⟨h1, h2, hm.below h2⟩
  by_cases h : pathB (canonL s.data.toList) = true
  · refine ⟨⟨(canonL s.data.toList).toArray⟩, 0, ?_, .inl ⟨rfl, h, canon_path _ h⟩, ?_⟩
    · have h1 := Lib.size_eq s
      have h2 := canonL_le s.data.toList
      rw [Lib.size_eq]
      show (canonL s.data.toList).length ≤ _
      omega
    · unfold canonV at hc
      rw [if_pos h] at hc
      exact hc
  · refine ⟨⟨#[]⟩, 31, by decide, .inr ⟨rfl, rfl⟩, ?_⟩
    unfold canonV at hc
    rw [if_neg h] at hc
    exact hc
theorem canon_same (a : ByteArray) (w : World) (ha : a.size ≤ 4000000000) (hp : pathB a.data.toList = true) (hc : canonL a.data.toList = a.data.toList) (hm : HasMax w) :
    Calls Tryd.prog 12 #[.string a] w fun e w' => e = .returned (.tuple #[.string a, .int .i64 0]) ∧ Below w.heap.size w w' ∧ HasMax w' := by
  refine (canon_any a w ha hm).mono fun e w' ⟨h1, h2⟩ => ⟨?_, h2, hm.below h2⟩
  rw [h1]
  unfold canonV
  rw [hc, if_pos hp, mk_data]
/-- Split's answer at what Join joined -/
theorem split_is (s n : ByteArray) (w : World) (hs : s.size ≤ 1000000000) (hn : n.size ≤ 1000000000) (hm : HasMax w) :
    ∃ (p m : ByteArray) (e : Int), (e = 0 ∧ (pathB s.data.toList && nameB n.data.toList) = true ∧ p = s ∧ m = n ∨ e = 31 ∧ (pathB s.data.toList && nameB n.data.toList) = false) ∧
      Calls Tryd.prog 9 #[.string ⟨(s.data.toList ++ 64 :: n.data.toList).toArray⟩] w fun e' w' => e' = .returned (.tuple #[.string p, .string m, .int .i64 e]) ∧ Below w.heap.size w w' ∧ HasMax w' := by
  have h1 := Lib.size_eq s
  have h2 := Lib.size_eq n
  have hc := (split_any ⟨(s.data.toList ++ 64 :: n.data.toList).toArray⟩ w (by rw [Lib.size_eq]; simp; omega) hm).mono (R' := fun e w' => e = .returned (splitV (s.data.toList ++ 64 :: n.data.toList)) ∧ Below w.heap.size w w' ∧ HasMax w') fun _ _ ⟨h1, h2⟩ => ⟨h1, h2, hm.below h2⟩
  obtain ⟨p, q, e, h3, h4⟩ := split_join s.data.toList n.data.toList
  unfold splitV at hc
  rw [e] at hc
  simp only at hc
  rw [h3] at hc
  cases hb : (pathB s.data.toList && nameB n.data.toList) with
  | true =>
    obtain ⟨rfl, rfl⟩ := h4 hb
    rw [hb] at hc
    exact ⟨s, n, 0, .inl ⟨rfl, rfl, rfl, rfl⟩, by simpa [mk_data] using hc⟩
  | false =>
    rw [hb] at hc
    exact ⟨⟨#[]⟩, ⟨#[]⟩, 31, .inr ⟨rfl, rfl⟩, by simpa using hc⟩

set_option maxRecDepth 100000 in
set_option maxHeartbeats 2000000 in
theorem namesBack_any (s n : ByteArray) (w : World) (hs : s.size ≤ 1000000000) (hn : n.size ≤ 1000000000) (hm : HasMax w) : LawCalls Tryd.prog 4 #[.string s, .string n] w := by
  unfold LawCalls
  go_enter Tryd.func4, Tryd.ntmps4
  go_wp2_with fail
  refine (alive03_any w hm).mono ?_
  rintro e w1 ⟨rfl, hb⟩
  have hm1 := hm.below hb
  clear hm
  go_wp2_with fail
  refine (join_any s n _ (by omega) (by omega)).mono ?_
  rintro e w2 ⟨rfl, rfl⟩
  obtain ⟨p, m, ee, hee, hsp⟩ := split_is s n w2 hs hn hm1
  go_wp2_with fail
  refine hsp.mono ?_
  clear hsp
  rintro e w3 ⟨rfl, hb3, hm3⟩
  replace hb := hb.trans (hb3.mono hb.size)
  clear hb3 hm1
  -- path and name
  cases hps : pathB s.data.toList with
  | true =>
    cases hnm : nameB n.data.toList with
    | true =>
      rcases hee with ⟨rfl, _, rfl, rfl⟩ | ⟨_, h⟩
      · go_wp2_with fail
        refine (path_is p true _ hps (by omega) hm3).mono ?_
        rintro e w4 ⟨rfl, hb4, hm4⟩
        replace hb := hb.trans (hb4.mono hb.size)
        clear hb4 hm3
        go_wp2_with fail
        refine (name_is m true _ hnm hm4).mono ?_
        rintro e w5 ⟨rfl, hb5, hm5⟩
        replace hb := hb.trans (hb5.mono hb.size)
        clear hb5 hm4
        go_wp2_with fail
        obtain ⟨a, f, ha, hf, hca⟩ := canon_is p w5 (by omega) hm5
        rcases hf with ⟨rfl, hpa, hcc⟩ | ⟨rfl, rfl⟩
        · refine (hca).mono ?_
          rintro e w6 ⟨rfl, hb6, hm6⟩
          replace hb := hb.trans (hb6.mono hb.size)
          clear hca hb6 hm5
          go_wp2_with fail
          refine (canon_same a _ ha hpa hcc hm6).mono ?_
          rintro e w7 ⟨rfl, hb7, hm7⟩
          replace hb := hb.trans (hb7.mono hb.size)
          clear hb7 hm6
          go_wp2_with fail
          refine (num03_any _ _).mono ?_
          rintro e w0 ⟨rfl, rfl⟩
          go_wp2_with fail
          refine (num03_any _ _).mono ?_
          rintro e w0 ⟨rfl, rfl⟩
          go_wp2_with fail
          refine (num03_any _ _).mono ?_
          rintro e w0 ⟨rfl, rfl⟩
          go_wp2_with fail
          refine (path_is a true _ hpa ha hm7).mono ?_
          rintro e w8 ⟨rfl, hb8, hm8⟩
          replace hb := hb.trans (hb8.mono hb.size)
          clear hb8 hm7
          go_wp2_with fail
          go_ret
          exact ⟨rfl, hb⟩
        · refine (hca).mono ?_
          rintro e w6 ⟨rfl, hb6, hm6⟩
          replace hb := hb.trans (hb6.mono hb.size)
          clear hca hb6 hm5
          go_wp2_with fail
          obtain ⟨b, g, _, _, hcb⟩ := canon_is ⟨#[]⟩ w6 (by decide) hm6
          refine (hcb).mono ?_
          rintro e w7 ⟨rfl, hb7, hm7⟩
          replace hb := hb.trans (hb7.mono hb.size)
          clear hb7 hm6
          go_wp2_with fail
          refine (num03_any _ _).mono ?_
          rintro e w0 ⟨rfl, rfl⟩
          go_wp2_with fail
          refine (num03_any _ _).mono ?_
          rintro e w0 ⟨rfl, rfl⟩
          go_wp2_with fail
          go_ret
          exact ⟨rfl, hb⟩
      · rw [hps, hnm] at h; cases h
    | false =>
      rcases hee with ⟨_, h, _⟩ | ⟨rfl, _⟩
      · rw [hps, hnm] at h; cases h
      · go_wp2_with fail
        refine (path_is s true _ hps (by omega) hm3).mono ?_
        rintro e w4 ⟨rfl, hb4, hm4⟩
        replace hb := hb.trans (hb4.mono hb.size)
        clear hb4 hm3
        go_wp2_with fail
        refine (name_is n false _ hnm hm4).mono ?_
        rintro e w5 ⟨rfl, hb5, hm5⟩
        replace hb := hb.trans (hb5.mono hb.size)
        clear hb5 hm4
        go_wp2_with fail
        obtain ⟨a, f, ha, hf, hca⟩ := canon_is s w5 (by omega) hm5
        rcases hf with ⟨rfl, hpa, hcc⟩ | ⟨rfl, rfl⟩
        · refine (hca).mono ?_
          rintro e w6 ⟨rfl, hb6, hm6⟩
          replace hb := hb.trans (hb6.mono hb.size)
          clear hca hb6 hm5
          go_wp2_with fail
          refine (canon_same a _ ha hpa hcc hm6).mono ?_
          rintro e w7 ⟨rfl, hb7, hm7⟩
          replace hb := hb.trans (hb7.mono hb.size)
          clear hb7 hm6
          go_wp2_with fail
          refine (num03_any _ _).mono ?_
          rintro e w0 ⟨rfl, rfl⟩
          go_wp2_with fail
          refine (num03_any _ _).mono ?_
          rintro e w0 ⟨rfl, rfl⟩
          go_wp2_with fail
          refine (num03_any _ _).mono ?_
          rintro e w0 ⟨rfl, rfl⟩
          go_wp2_with fail
          refine (path_is a true _ hpa ha hm7).mono ?_
          rintro e w8 ⟨rfl, hb8, hm8⟩
          replace hb := hb.trans (hb8.mono hb.size)
          clear hb8 hm7
          go_wp2_with fail
          go_ret
          exact ⟨rfl, hb⟩
        · refine (hca).mono ?_
          rintro e w6 ⟨rfl, hb6, hm6⟩
          replace hb := hb.trans (hb6.mono hb.size)
          clear hca hb6 hm5
          go_wp2_with fail
          obtain ⟨b, g, _, _, hcb⟩ := canon_is ⟨#[]⟩ w6 (by decide) hm6
          refine (hcb).mono ?_
          rintro e w7 ⟨rfl, hb7, hm7⟩
          replace hb := hb.trans (hb7.mono hb.size)
          clear hb7 hm6
          go_wp2_with fail
          refine (num03_any _ _).mono ?_
          rintro e w0 ⟨rfl, rfl⟩
          go_wp2_with fail
          refine (num03_any _ _).mono ?_
          rintro e w0 ⟨rfl, rfl⟩
          go_wp2_with fail
          go_ret
          exact ⟨rfl, hb⟩
  | false =>
    rcases hee with ⟨_, h, _⟩ | ⟨rfl, _⟩
    · rw [hps] at h; cases h
    · go_wp2_with fail
      refine (path_is s false _ hps (by omega) hm3).mono ?_
      rintro e w4 ⟨rfl, hb4, hm4⟩
      replace hb := hb.trans (hb4.mono hb.size)
      clear hb4 hm3
      go_wp2_with fail
      obtain ⟨a, f, ha, hf, hca⟩ := canon_is s w4 (by omega) hm4
      rcases hf with ⟨rfl, hpa, hcc⟩ | ⟨rfl, rfl⟩
      · refine (hca).mono ?_
        rintro e w5 ⟨rfl, hb5, hm5⟩
        replace hb := hb.trans (hb5.mono hb.size)
        clear hca hb5 hm4
        go_wp2_with fail
        refine (canon_same a _ ha hpa hcc hm5).mono ?_
        rintro e w6 ⟨rfl, hb6, hm6⟩
        replace hb := hb.trans (hb6.mono hb.size)
        clear hb6 hm5
        go_wp2_with fail
        refine (num03_any _ _).mono ?_
        rintro e w0 ⟨rfl, rfl⟩
        go_wp2_with fail
        refine (num03_any _ _).mono ?_
        rintro e w0 ⟨rfl, rfl⟩
        go_wp2_with fail
        refine (num03_any _ _).mono ?_
        rintro e w0 ⟨rfl, rfl⟩
        go_wp2_with fail
        refine (path_is a true _ hpa ha hm6).mono ?_
        rintro e w7 ⟨rfl, hb7, hm7⟩
        replace hb := hb.trans (hb7.mono hb.size)
        clear hb7 hm6
        go_wp2_with fail
        go_ret
        exact ⟨rfl, hb⟩
      · refine (hca).mono ?_
        rintro e w5 ⟨rfl, hb5, hm5⟩
        replace hb := hb.trans (hb5.mono hb.size)
        clear hca hb5 hm4
        go_wp2_with fail
        obtain ⟨b, g, _, _, hcb⟩ := canon_is ⟨#[]⟩ w5 (by decide) hm5
        refine (hcb).mono ?_
        rintro e w6 ⟨rfl, hb6, hm6⟩
        replace hb := hb.trans (hb6.mono hb.size)
        clear hb6 hm5
        go_wp2_with fail
        refine (num03_any _ _).mono ?_
        rintro e w0 ⟨rfl, rfl⟩
        go_wp2_with fail
        refine (num03_any _ _).mono ?_
        rintro e w0 ⟨rfl, rfl⟩
        go_wp2_with fail
        go_ret
        exact ⟨rfl, hb⟩
end Go.Proofs.YtfknlijbphoceaaDoor
