/-
  The reference's letter, Name, value, Props: by their contracts.
-/
import Derived.Test.YteafdncnnamakaaGreatDoorPrCheck
namespace Go.Proofs.YteafdncnnamakaaGreatDoor
open Go.RowKit

set_option maxRecDepth 100000 in
theorem letter_any (c : UInt8) (w : World) : Calls Tryz.prog 110 #[.int .u8 (c.toNat : Int)] w fun e w' => e = .returned (.bool (okB c)) ∧ w' = w := by
  have hc : c.toNat < 256 := c.toNat_lt
  have hk := Lib.hid (okB_iff c)
  go_enter Tryz.func110, Tryz.ntmps110
  go_wp2
  all_goals go_ret
  all_goals refine ⟨congrArg Ending.returned (congrArg Value.bool ?_), rfl⟩
  all_goals rw [Bool.eq_iff_iff, hk.out]
  all_goals simp
  all_goals omega
theorem bget (s : ByteArray) (k : Nat) (h : k < s.size) : s.data.toList[k]'h = s[k]'h := rfl
set_option maxRecDepth 100000 in
set_option maxHeartbeats 1000000 in
theorem refName_s (s : ByteArray) (w : World) (hs : s.size ≤ 140737488351232) : Calls Tryz.prog 53 #[.string s] w fun e w' => e = .returned (.bool (nameB s.data.toList)) ∧ w' = w := by
  have hsz : s.data.toList.length = s.size := (Lib.size_eq s).symm
  go_enter Tryz.func53, Tryz.ntmps53
  go_wp2_with fail
  go_loopw [3] (fun i wr => ∃ k : Nat, k ≤ s.size ∧ i = .int .i64 (k : Int) ∧ Hid ((s.data.toList.take k).all okB = true) ∧ wr = w) (fun i _ => s.size - (intOf i).toNat)
  case atStart => exact ⟨0, Nat.zero_le _, rfl, rfl, rfl⟩
  case round =>
    obtain ⟨k, hk, rfl, hok, hww⟩ := hrel
    have hww := hww.symm
    subst hww
    by_cases hlt : k < s.size
    · have hki : (k : Int) < (s.size : Int) := by omega
      have hkl : k < s.data.toList.length := by omega
      have htk := List.take_succ_eq_append_getElem hkl
      have hg := bget s k hlt
      obtain ⟨y, hy⟩ : ∃ y, y = s[k]'hlt := ⟨_, rfl⟩
      rw [hg, ← hy] at htk
      have HT := Lib.hid htk
      have HM := Lib.hid (show y ∈ s.data.toList by rw [hy, ← hg]; exact List.getElem_mem _)
      have hc := letter_any y w
      obtain ⟨b, hb⟩ : ∃ b, b = okB y := ⟨_, rfl⟩
      rw [← hb] at hc
      have HBB := Lib.hid hb
      have hyv : ((s[k]'hlt).toNat : Int) = (y.toNat : Int) := by rw [hy]
      have HSZ := Lib.hid hsz
      clear htk hg hy hb hsz
      go_wp2_with fail
      refine hc.mono ?_
      clear hc
      rintro e w1 ⟨rfl, rfl⟩
      cases b with
      | true =>
        go_wp2_with fail
        go_roundw
        case rel =>
          refine ⟨k + 1, by omega, by go_num, ?_, trivial⟩
          show List.all _ _ = _
          rw [HT.out, List.all_append, hok.out]
          simp [HBB.out.symm]
        case measure => simp [intOf]; omega
      | false =>
        have HN : Hid (nameB s.data.toList = false) := by
          show _ = _
          unfold nameB
          have : s.data.toList.all okB = false := by
            rw [← Bool.not_eq_true, List.all_eq_true]
            intro h
            have := h y HM.out
            rw [← HBB.out] at this
            cases this
          rw [this, Bool.and_false]
        go_wp2_with fail
        go_ret
        exact ⟨by rw [HN.out]; rfl, rfl⟩
    · have HA : Hid (s.data.toList.all okB = true) := by
        show _ = _
        have := hok.out
        rwa [List.take_of_length_le (by omega)] at this
      have HN : Hid (nameB s.data.toList = (!(s.data.toList.isEmpty) && decide (s.data.toList.length ≤ 16))) := by
        show _ = _
        unfold nameB
        rw [HA.out, Bool.and_true]
      have HE : Hid (nameB s.data.toList = true ↔ 1 ≤ s.size ∧ s.size ≤ 16) := by
        show _ ↔ _
        rw [HN.out, Bool.and_eq_true, decide_eq_true_eq, hsz, Bool.not_eq_true']
        constructor
        · rintro ⟨h1, h2⟩
          refine ⟨?_, h2⟩
          rcases Nat.eq_zero_or_pos s.size with h | h
          · rw [← hsz] at h
            rw [List.eq_nil_of_length_eq_zero h] at h1
            cases h1
          · exact h
        · rintro ⟨h1, h2⟩
          refine ⟨?_, h2⟩
          rw [← Bool.not_eq_true, List.isEmpty_iff]
          intro e
          rw [e] at hsz
          simp at hsz
          omega
      clear hsz HA HN hok
      by_cases h1 : 1 ≤ s.size
      · have h1i : (1 : Int) ≤ (s.size : Int) := by omega
        by_cases h2 : s.size ≤ 16
        · have h2i : (s.size : Int) ≤ 16 := by omega
          have HV : Hid (nameB s.data.toList = true) := HE.out.2 ⟨h1, h2⟩
          go_wp2_with fail
          go_ret
          exact ⟨by rw [HV.out]; rfl, rfl⟩
        · have h2i : ¬ (s.size : Int) ≤ 16 := by omega
          have HV : Hid (nameB s.data.toList = false) := by show _ = _; rw [← Bool.not_eq_true, HE.out]; omega
          go_wp2_with fail
          go_ret
          exact ⟨by rw [HV.out]; rfl, rfl⟩
      · have h1i : ¬ (1 : Int) ≤ (s.size : Int) := by omega
        have HV : Hid (nameB s.data.toList = false) := by show _ = _; rw [← Bool.not_eq_true, HE.out]; omega
        go_wp2_with fail
        go_ret
        exact ⟨by rw [HV.out]; rfl, rfl⟩
theorem refName_any (n : BS) (w : World) (hs : n.length ≤ 140737488351232) : Calls Tryz.prog 53 #[.string ⟨n.toArray⟩] w fun e w' => e = .returned (.bool (nameB n)) ∧ w' = w := by
  have := refName_s ⟨n.toArray⟩ w (by show n.length ≤ _; exact hs)
  simpa using this
set_option maxRecDepth 100000 in
set_option maxHeartbeats 1000000 in
theorem refValue_s (s : ByteArray) (w : World) (hs : s.size ≤ 140737488351232) : Calls Tryz.prog 117 #[.string s] w fun e w' => e = .returned (.bool (valB s.data.toList)) ∧ w' = w := by
  have hsz : s.data.toList.length = s.size := (Lib.size_eq s).symm
  go_enter Tryz.func117, Tryz.ntmps117
  go_wp2_with fail
  go_loopw [3] (fun i wr => ∃ k : Nat, k ≤ s.size ∧ i = .int .i64 (k : Int) ∧ Hid (∀ c ∈ s.data.toList.take k, 32 ≤ c.toNat ∧ c.toNat ≤ 126) ∧ wr = w) (fun i _ => s.size - (intOf i).toNat)
  case atStart => exact ⟨0, Nat.zero_le _, rfl, (show ∀ c ∈ _, _ by simp), rfl⟩
  case round =>
    obtain ⟨k, hk, rfl, hok, hww⟩ := hrel
    have hww := hww.symm
    subst hww
    by_cases hlt : k < s.size
    · have hki : (k : Int) < (s.size : Int) := by omega
      have hkl : k < s.data.toList.length := by omega
      have htk := List.take_succ_eq_append_getElem hkl
      have hg := bget s k hlt
      obtain ⟨y, hy⟩ : ∃ y, y = s[k]'hlt := ⟨_, rfl⟩
      rw [hg, ← hy] at htk
      have HT := Lib.hid htk
      have HM := Lib.hid (show y ∈ s.data.toList by rw [hy, ← hg]; exact List.getElem_mem _)
      have hyv : ((s[k]'hlt).toNat : Int) = (y.toNat : Int) := by rw [hy]
      have hy256 := y.toNat_lt
      have HSZ := Lib.hid hsz
      have hbad : Hid ((y.toNat < 32 ∨ 126 < y.toNat) → valB s.data.toList = false) := by
        show _ → _
        intro h
        unfold valB
        have : s.data.toList.all (fun c => decide (32 ≤ c) && decide (c ≤ 126)) = false := by
          rw [← Bool.not_eq_true, List.all_eq_true]
          intro h2
          have h3 := h2 y HM.out
          simp only [Bool.and_eq_true, decide_eq_true_eq, UInt8.le_iff_toNat_le] at h3
          have e1 : (32 : UInt8).toNat = 32 := rfl
          have e2 : (126 : UInt8).toNat = 126 := rfl
          omega
        rw [this, Bool.and_false]
      clear htk hg hy hsz
      by_cases h1 : y.toNat < 32
      · have h1i : (y.toNat : Int) < 32 := by omega
        have HV := Lib.hid (hbad.out (.inl h1))
        go_wp2_with fail
        go_ret
        exact ⟨by rw [HV.out]; rfl, rfl⟩
      · have h1i : ¬ (y.toNat : Int) < 32 := by omega
        by_cases h2 : 126 < y.toNat
        · have h2i : (126 : Int) < (y.toNat : Int) := by omega
          have HV := Lib.hid (hbad.out (.inr h2))
          go_wp2_with fail
          go_ret
          exact ⟨by rw [HV.out]; rfl, rfl⟩
        · have h2i : ¬ (126 : Int) < (y.toNat : Int) := by omega
          go_wp2_with fail
          go_roundw
          case rel =>
            refine ⟨k + 1, by omega, by go_num, ?_, trivial⟩
            show ∀ c ∈ _, _
            intro c hc
            rw [HT.out, List.mem_append, List.mem_singleton] at hc
            rcases hc with hc | rfl
            · exact hok.out c hc
            · exact ⟨by omega, by omega⟩
          case measure => simp [intOf]; omega
    · have HV : Hid (valB s.data.toList = decide ((s.size : Int) ≤ 32)) := by
        show _ = _
        unfold valB
        have h := hok.out
        rw [List.take_of_length_le (by omega)] at h
        have : s.data.toList.all (fun c => decide (32 ≤ c) && decide (c ≤ 126)) = true := by
          rw [List.all_eq_true]
          intro c hc
          have := h c hc
          simp only [Bool.and_eq_true, decide_eq_true_eq, UInt8.le_iff_toNat_le]
          exact this
        rw [this, Bool.and_true, hsz]
        exact decide_eq_decide.2 (by omega)
      clear hsz hok
      go_wp2_with fail
      go_ret
      exact ⟨by rw [HV.out]; rfl, rfl⟩
theorem refValue_any (n : BS) (w : World) (hs : n.length ≤ 140737488351232) : Calls Tryz.prog 117 #[.string ⟨n.toArray⟩] w fun e w' => e = .returned (.bool (valB n)) ∧ w' = w := by
  have := refValue_s ⟨n.toArray⟩ w (by show n.length ≤ _; exact hs)
  simpa using this
end Go.Proofs.YteafdncnnamakaaGreatDoor
