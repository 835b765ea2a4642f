/-
  The page's Path, by its contract.
-/
import Derived.Test.YtjdebhemoeojiaaDoorNmPath
import Derived.Test.YtjdebhemoeojiaaDoorRefNm
import Derived.Test.YtjdebhemoeojiaaDoorSc
namespace Go.Proofs.YtjdebhemoeojiaaDoor
open Go.RowKit

theorem extract_mk (s : ByteArray) (j k : Nat) : s.extract j k = ⟨((s.data.toList.drop j).take (k - j)).toArray⟩ := by
  apply eq_mk
  rw [ByteArray.data_extract, Array.toList_extract]
theorem partsL_len (l : BS) : (partsL l).length ≤ l.length + 1 := by
  induction l with
  | nil => simp [partsL]
  | cons c l ih =>
    unfold partsL
    split
    · simp; omega
    · split
      · rename_i p ps h
        rw [h] at ih
        simp at ih ⊢
        omega
      · simp
set_option maxRecDepth 100000 in
set_option maxHeartbeats 1000000 in
theorem parts_any (s : ByteArray) (w : World) (hs : s.size ≤ 4000000000) :
    Calls Tryd.prog 53 #[.string s, .int .u8 47] w fun e w' => ∃ v, e = .returned v ∧ w'.ownsRow w.heap.size 9 1 v (partsL s.data.toList).length (scells (partsL s.data.toList)) ∧ Below w.heap.size w w' := by
  obtain ⟨i0, hi0, hz0, hz1, hz2⟩ := info_parts Tryd.infoS
  have HSZ := Lib.hid (Lib.size_eq s)
  go_enter Tryd.func53, Tryd.ntmps53
  go_wp2_with fail
  go_loopw [5, 6, 7] (fun o f i wr => ∃ (k j m : Nat) (done : List BS) (A1 : Option Addr) (c1 : Nat), k ≤ s.size ∧ j ≤ k ∧ m ≤ j ∧ i = .int .i64 (k : Int) ∧ f = .int .i64 (j : Int) ∧ o = .slice A1 m c1 ∧ Hid (m = done.length ∧ partsL s.data.toList = done ++ partsL (s.data.toList.drop j) ∧ 47 ∉ (s.data.toList.drop j).take (k - j)) ∧ wr.ownsRow w.heap.size 9 1 (.slice A1 m c1) m (scells done) ∧ Below w.heap.size w wr) (fun _ _ i _ => s.size - (intOf i).toNat)
  case atStart => exact ⟨0, 0, 0, [], none, 0, Nat.zero_le _, Nat.le_refl _, Nat.le_refl _, rfl, rfl, rfl, ⟨rfl, by simp, by simp⟩, ⟨rfl, .inl ⟨rfl, rfl⟩⟩, Below.refl _ _⟩
  case round =>
    obtain ⟨k, j, m, done, A1, c1, hk, hj, hm, rfl, rfl, rfl, hI, hown, hbw⟩ := hrel
    by_cases hlt : k < s.size
    · have hki : (k : Int) < (s.size : Int) := by omega
      have hkl : k < s.data.toList.length := by have := HSZ.out; omega
      have hg := bget s k hlt
      obtain ⟨y, hy⟩ : ∃ y, y = s[k]'hlt := ⟨_, rfl⟩
      have hyv : ((s[k]'hlt).toNat : Int) = (y.toNat : Int) := by rw [hy]
      have hget : s.data.toList[k]? = some y := by rw [List.getElem?_eq_getElem hkl, hg, ← hy]
      have htk : (s.data.toList.drop j).take (k + 1 - j) = (s.data.toList.drop j).take (k - j) ++ [y] := by
        rw [show k + 1 - j = k - j + 1 by omega, List.take_add_one, List.getElem?_drop, show j + (k - j) = k by omega, hget]
        rfl
      have HTK := Lib.hid htk
      have HGET := Lib.hid hget
      clear hg hy hget htk
      by_cases h47 : y = 47
      · have hyi : (y.toNat : Int) = 47 := by rw [h47]; rfl
        have hjk : (j : Int) ≤ (k : Int) := by omega
        have hks : (k : Int) ≤ (s.size : Int) := by omega
        have hex := extract_mk s j k
        obtain ⟨q, hq⟩ : ∃ q, q = (s.data.toList.drop j).take (k - j) := ⟨_, rfl⟩
        rw [← hq] at hex
        have HN : Hid (partsL s.data.toList = (done ++ [q]) ++ partsL (s.data.toList.drop (k + 1))) := by
          show _ = _
          have hsp : s.data.toList.drop j = q ++ 47 :: s.data.toList.drop (k + 1) := by
            conv => lhs; rw [← List.take_append_drop (k - j) (s.data.toList.drop j), ← hq, List.drop_drop, show j + (k - j) = k by omega, List.drop_eq_getElem_cons hkl]
            have := HGET.out
            rw [List.getElem?_eq_getElem hkl, h47] at this
            rw [Option.some.inj this]
          rw [hI.out.2.1, hsp, partsL_two _ _ (by rw [hq]; exact hI.out.2.2), List.append_assoc]
          rfl
        have HM : Hid (m + 1 = (done ++ [q]).length) := by show _ = _; rw [List.length_append, hI.out.1]; rfl
        have hsz2 := hbw.size
        clear hq h47
        go_wp2_with (at_builtin; (refine wpList_push _ rfl (.tmp 19) (.tmp 24) 87 rfl w.heap.size 9 i0 (.string ByteArray.empty) 1 16 Tryd.underlying87 hi0 hz0 hz1 hz2 rfl (by decide) (.slice A1 m c1) m (scells done) rfl hown 1 #[.string ⟨q.toArray⟩] 9 (by simp [Act.eval]) rfl (by simp [Value.oneCell']) (by unfold maxLen; omega) (by omega) hsz2 ?_); intro v4 w4 hown4 hb4 _)
        obtain ⟨A4, c4, rfl, _, _, _⟩ := own_form hown4
        have hb5 := hbw.trans hb4
        have HO : Hid (w4.ownsRow w.heap.size 9 1 (.slice A4 (m + 1) c4) (m + 1) (scells (done ++ [q]))) := by show World.ownsRow _ _ _ _ _ _ _; rw [scells_append]; exact hown4
        clear hown hown4 hbw hb4
        go_wp2_with fail
        go_roundw
        case rel => exact ⟨k + 1, k + 1, m + 1, done ++ [q], A4, c4, by omega, Nat.le_refl _, by omega, by go_num, by go_num, rfl, ⟨HM.out, HN.out, by simp⟩, HO.out, hb5⟩
        case measure => simp [intOf]; omega
      · have hyi : ¬ (y.toNat : Int) = 47 := by
          intro e
          exact h47 (UInt8.toNat_inj.1 (by have : (47 : UInt8).toNat = 47 := rfl; omega))
        have HN : Hid (47 ∉ (s.data.toList.drop j).take (k + 1 - j)) := by
          show _ ∉ _
          rw [HTK.out, List.mem_append, List.mem_singleton]
          rintro (h | h)
          · exact hI.out.2.2 h
          · exact h47 h.symm
        clear h47
        go_wp2_with fail
        go_roundw
        case rel => exact ⟨k + 1, j, m, done, A1, c1, by omega, by omega, hm, by go_num, rfl, rfl, ⟨hI.out.1, hI.out.2.1, HN.out⟩, hown, hbw⟩
        case measure => simp [intOf]; omega
    · obtain rfl : k = s.size := by omega
      have hex := extract_mk s j s.size
      obtain ⟨q, hq⟩ : ∃ q, q = (s.data.toList.drop j).take (s.size - j) := ⟨_, rfl⟩
      rw [← hq] at hex
      have HN : Hid (partsL s.data.toList = done ++ [q]) := by
        show _ = _
        have : (s.data.toList.drop j).take (s.size - j) = s.data.toList.drop j := List.take_of_length_le (by rw [List.length_drop]; have := HSZ.out; omega)
        have h47 := hI.out.2.2
        rw [this] at h47 hq
        rw [hI.out.2.1, partsL_one _ h47, hq]
      have HM : Hid (m + 1 = (partsL s.data.toList).length) := by show _ = _; rw [HN.out, List.length_append, hI.out.1]; rfl
      have hsz2 := hbw.size
      have hjk : (j : Int) ≤ (s.size : Int) := by omega
      clear hq
      go_wp2_with (at_builtin; (refine wpList_push _ rfl (.tmp 28) (.tmp 32) 87 rfl w.heap.size 9 i0 (.string ByteArray.empty) 1 16 Tryd.underlying87 hi0 hz0 hz1 hz2 rfl (by decide) (.slice A1 m c1) m (scells done) rfl hown 1 #[.string ⟨q.toArray⟩] 9 (by simp [Act.eval]) rfl (by simp [Value.oneCell']) (by unfold maxLen; omega) (by omega) hsz2 ?_); intro v4 w4 hown4 hb4 _)
      have HO : Hid (w4.ownsRow w.heap.size 9 1 v4 (m + 1) (scells (partsL s.data.toList))) := by show World.ownsRow _ _ _ _ _ _ _; rw [HN.out, scells_append]; exact hown4
      have hb5 := hbw.trans hb4
      clear hown hown4 hbw hb4
      go_wp2_with fail
      go_ret
      exact ⟨v4, rfl, by rw [← HM.out]; exact HO.out, hb5⟩
theorem parts_small (l : BS) : ∀ p ∈ partsL l, p.length ≤ l.length := by
  induction l with
  | nil => simp [partsL]
  | cons c l ih =>
    unfold partsL
    split
    · intro p hp
      rcases List.mem_cons.1 hp with rfl | hp
      · simp
      · have := ih p hp; simp; omega
    · split
      · rename_i q ps h
        rw [h] at ih
        intro p hp
        rcases List.mem_cons.1 hp with rfl | hp
        · have := ih q (List.mem_cons_self ..); simp; omega
        · have := ih p (List.mem_cons_of_mem _ hp); simp; omega
      · intro p hp
        rw [List.mem_singleton] at hp
        subst hp
        simp
set_option maxRecDepth 100000 in
set_option maxHeartbeats 1000000 in
theorem refPath_any (s : ByteArray) (w : World) (hs : s.size ≤ 4000000000) :
    Calls Tryd.prog 54 #[.string s] w fun e w' => e = .returned (.bool (pathB s.data.toList)) ∧ Below w.heap.size w w' := by
  have htl := Lib.hid (toList_data s)
  have hpar := parts_any s w hs
  have HSM := Lib.hid (parts_small s.data.toList)
  have HPL := Lib.hid (partsL_len s.data.toList)
  have HSZ := Lib.hid (Lib.size_eq s)
  go_enter Tryd.func54, Tryd.ntmps54
  go_wp2_with fail
  · have h0 : s.toList.isEmpty = true := by assumption
    rw [htl.out, List.isEmpty_iff] at h0
    go_ret
    exact ⟨by rw [h0]; rfl, Below.refl _ _⟩
  · have h0 : s.toList.isEmpty = false := by assumption
    have HP : Hid (pathB s.data.toList = (decide ((partsL s.data.toList).length ≤ 4) && (partsL s.data.toList).all nameB)) := by
      show _ = _
      rw [htl.out] at h0
      unfold pathB
      rw [h0, Bool.false_or]
    obtain ⟨L, hL⟩ : ∃ L, L = partsL s.data.toList := ⟨_, rfl⟩
    rw [← hL] at hpar HSM HPL HP
    obtain ⟨n, hn⟩ : ∃ n, n = L.length := ⟨_, rfl⟩
    rw [← hn] at hpar HPL HP
    have hnb : n ≤ 4000000001 := by have := HPL.out; have := HSZ.out; omega
    have HN := Lib.hid hn
    clear hL hn
    refine hpar.mono ?_
    clear hpar
    rintro e w1 ⟨v, rfl, hown, hb1⟩
    obtain ⟨A1, c1, rfl, _, _, hr⟩ := own_form hown
    clear hown
    go_wp2_with fail
    go_loopw [4] (fun i wr => ∃ k : Nat, k ≤ n ∧ i = .int .i64 (k : Int) ∧ Hid ((L.take k).all nameB = true) ∧ wr = w1) (fun i _ => n - (intOf i).toNat)
    case atStart => exact ⟨0, Nat.zero_le _, rfl, rfl, rfl⟩
    case round =>
      obtain ⟨k, hk, rfl, hok, hww⟩ := hrel
      have hww := hww.symm
      subst hww
      by_cases hlt : k < n
      · have hki : (k : Int) < (n : Int) := by omega
        have hkl : k < L.length := by have := HN.out; omega
        obtain ⟨ad, rfl, hadB, d0⟩ := strs_at hr HN.out hlt
        have htk := List.take_succ_eq_append_getElem hkl
        obtain ⟨x, hx⟩ : ∃ x, x = L[k]'hkl := ⟨_, rfl⟩
        have hm : x ∈ L := by rw [hx]; exact List.getElem_mem _
        rw [← hx] at d0 htk
        simp only [strV] at d0
        have hxs := HSM.out x hm
        have hc := refName_any x w1 (by have := HSZ.out; omega)
        obtain ⟨b, hb⟩ : ∃ b, b = nameB x := ⟨_, rfl⟩
        rw [← hb] at hc
        have HBB := Lib.hid hb
        have HT := Lib.hid htk
        have HM := Lib.hid hm
        clear hx htk hb hxs hm
        go_wp2_with fail
        refine hc.mono ?_
        clear hc
        rintro e w2 ⟨rfl, rfl⟩
        cases b with
        | true =>
          go_wp2_with fail
          go_roundw
          case rel =>
            refine ⟨k + 1, by omega, by go_num, ?_, trivial⟩
            show List.all _ _ = _
            rw [HT.out, List.all_append, hok.out]
            simp [HBB.out.symm]
          case measure => simp [intOf]; omega
        | false =>
          have HV : Hid (pathB s.data.toList = false) := by
            show _ = _
            have : L.all nameB = false := by
              rw [← Bool.not_eq_true, List.all_eq_true]
              intro h
              have := h x HM.out
              rw [← HBB.out] at this
              cases this
            rw [HP.out, this, Bool.and_false]
          go_wp2_with fail
          go_ret
          exact ⟨by rw [HV.out]; rfl, hb1⟩
      · have HA : Hid (pathB s.data.toList = decide ((n : Int) ≤ 4)) := by
          show _ = _
          have := hok.out
          rw [List.take_of_length_le (by have := HN.out; omega)] at this
          rw [HP.out, this, Bool.and_true]
          exact decide_eq_decide.2 (by omega)
        clear hok hr
        go_wp2_with fail
        go_ret
        exact ⟨by rw [HA.out]; rfl, hb1⟩
end Go.Proofs.YtjdebhemoeojiaaDoor
