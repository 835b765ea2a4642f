/-
  The parts of a text between colons: the plain words, the shelf's, and the page's Parts.
-/
import Derived.Test.YtjdebhemoeojiaaDoorRfPth
namespace Go.Proofs.YtjdebhemoeojiaaDoor
open Go.RowKit

def partsT : List UInt8 → List (List UInt8)
  | [] => [[]]
  | c :: r => if c = 58 then [] :: partsT r else match partsT r with
    | p :: ps => (c :: p) :: ps
    | [] => [[c]]
theorem partsT_ne (s : List UInt8) : partsT s ≠ [] := by
  cases s with
  | nil => simp [partsT]
  | cons c r =>
    unfold partsT
    split
    · simp
    · split <;> simp
section
open Go.Lib
theorem partsT_one (a : List UInt8) (h : 58 ∉ a) : partsT a = [a] := by
  induction a with
  | nil => rfl
  | cons b a ih =>
    unfold partsT
    rw [if_neg (fun e => h (by rw [e]; exact List.mem_cons_self ..)), ih (fun e => h (List.mem_cons_of_mem _ e))]
theorem partsT_two (a r : List UInt8) (h : 58 ∉ a) : partsT (a ++ 58 :: r) = a :: partsT r := by
  induction a with
  | nil => simp [partsT]
  | cons b a ih =>
    rw [List.cons_append, partsT, if_neg (fun e => h (by rw [e]; exact List.mem_cons_self ..)), ih (fun e => h (List.mem_cons_of_mem _ e))]
theorem splitK_partsT (n : Nat) : ∀ s : List UInt8, s.length ≤ n → splitK [58] 0 (count s [58]) s = partsT s := by
  induction n with
  | zero =>
    intro s hs
    obtain rfl := List.eq_nil_of_length_eq_zero (Nat.le_zero.1 hs)
    rfl
  | succ n ih =>
    intro s hs
    rcases first_split 58 s with h | ⟨a, r, rfl, h⟩
    · rw [partsT_one s h, count_miss (index_none 58 s h)]
      rfl
    · have hi := index_some 58 a r h
      have hd : (a ++ 58 :: r).drop (a.length + 1) = r := by
        rw [← List.drop_drop, List.drop_append_of_le_length (Nat.le_refl _)]
        simp
      have hc := count_hit (s := a ++ 58 :: r) (sub := [58]) (i := a.length) (by simp) hi
      rw [partsT_two a r h, hc]
      rw [show ([58] : List UInt8).length = 1 from rfl, hd, Nat.add_comm 1]
      have hm : (index (a ++ 58 :: r) [58] == -1) = false := by rw [hi, beq_eq_false_iff_ne]; omega
      unfold splitK
      rw [hm, hi, if_neg (by simp)]
      simp only [Int.toNat_natCast, Nat.add_zero, List.length_singleton, hd]
      rw [List.take_left' rfl, ih r (by simp at hs; omega)]
theorem splitB_partsT (s : ByteArray) : (splitB ⟨#[58]⟩ 0 (countB s ⟨#[58]⟩) s).map (·.data.toList) = partsT s.data.toList := by
  rw [splitB_data]
  exact splitK_partsT _ _ (Nat.le_refl _)
theorem splitB_lenT (s : ByteArray) : (splitB ⟨#[58]⟩ 0 (countB s ⟨#[58]⟩) s).length = countB s ⟨#[58]⟩ + 1 := splitB_all ⟨#[58]⟩ (Nat.le_refl _) 0 _ s rfl

end
theorem partsT_len (l : BS) : (partsT l).length ≤ l.length + 1 := by
  induction l with
  | nil => simp [partsT]
  | cons c l ih =>
    unfold partsT
    split
    · simp; omega
    · split
      · rename_i p ps h
        rw [h] at ih
        simp at ih ⊢
        omega
      · simp
set_option maxRecDepth 100000 in
set_option maxHeartbeats 1000000 in
theorem partsT_any (s : ByteArray) (w : World) (hs : s.size ≤ 4000000000) :
    Calls Tryd.prog 53 #[.string s, .int .u8 58] w fun e w' => ∃ v, e = .returned v ∧ w'.ownsRow w.heap.size 9 1 v (partsT s.data.toList).length (scells (partsT s.data.toList)) ∧ Below w.heap.size w w' := by
  obtain ⟨i0, hi0, hz0, hz1, hz2⟩ := info_parts Tryd.infoS
  have HSZ := Lib.hid (Lib.size_eq s)
  go_enter Tryd.func53, Tryd.ntmps53
  go_wp2_with fail
  go_loopw [5, 6, 7] (fun o f i wr => ∃ (k j m : Nat) (done : List BS) (A1 : Option Addr) (c1 : Nat), k ≤ s.size ∧ j ≤ k ∧ m ≤ j ∧ i = .int .i64 (k : Int) ∧ f = .int .i64 (j : Int) ∧ o = .slice A1 m c1 ∧ Hid (m = done.length ∧ partsT s.data.toList = done ++ partsT (s.data.toList.drop j) ∧ 58 ∉ (s.data.toList.drop j).take (k - j)) ∧ wr.ownsRow w.heap.size 9 1 (.slice A1 m c1) m (scells done) ∧ Below w.heap.size w wr) (fun _ _ i _ => s.size - (intOf i).toNat)
  case atStart => exact ⟨0, 0, 0, [], none, 0, Nat.zero_le _, Nat.le_refl _, Nat.le_refl _, rfl, rfl, rfl, ⟨rfl, by simp, by simp⟩, ⟨rfl, .inl ⟨rfl, rfl⟩⟩, Below.refl _ _⟩
  case round =>
    obtain ⟨k, j, m, done, A1, c1, hk, hj, hm, rfl, rfl, rfl, hI, hown, hbw⟩ := hrel
    by_cases hlt : k < s.size
    · have hki : (k : Int) < (s.size : Int) := by omega
      have hkl : k < s.data.toList.length := by have := HSZ.out; omega
      have hg := bget s k hlt
      obtain ⟨y, hy⟩ : ∃ y, y = s[k]'hlt := ⟨_, rfl⟩
      have hyv : ((s[k]'hlt).toNat : Int) = (y.toNat : Int) := by rw [hy]
      have hget : s.data.toList[k]? = some y := by rw [List.getElem?_eq_getElem hkl, hg, ← hy]
      have htk : (s.data.toList.drop j).take (k + 1 - j) = (s.data.toList.drop j).take (k - j) ++ [y] := by
        rw [show k + 1 - j = k - j + 1 by omega, List.take_add_one, List.getElem?_drop, show j + (k - j) = k by omega, hget]
        rfl
      have HTK := Lib.hid htk
      have HGET := Lib.hid hget
      clear hg hy hget htk
      by_cases h47 : y = 58
      · have hyi : (y.toNat : Int) = 58 := by rw [h47]; rfl
        have hjk : (j : Int) ≤ (k : Int) := by omega
        have hks : (k : Int) ≤ (s.size : Int) := by omega
        have hex := extract_mk s j k
        obtain ⟨q, hq⟩ : ∃ q, q = (s.data.toList.drop j).take (k - j) := ⟨_, rfl⟩
        rw [← hq] at hex
        have HN : Hid (partsT s.data.toList = (done ++ [q]) ++ partsT (s.data.toList.drop (k + 1))) := by
          show _ = _
          have hsp : s.data.toList.drop j = q ++ 58 :: s.data.toList.drop (k + 1) := by
            conv => lhs; rw [← List.take_append_drop (k - j) (s.data.toList.drop j), ← hq, List.drop_drop, show j + (k - j) = k by omega, List.drop_eq_getElem_cons hkl]
            have := HGET.out
            rw [List.getElem?_eq_getElem hkl, h47] at this
            rw [Option.some.inj this]
          rw [hI.out.2.1, hsp, partsT_two _ _ (by rw [hq]; exact hI.out.2.2), List.append_assoc]
          rfl
        have HM : Hid (m + 1 = (done ++ [q]).length) := by show _ = _; rw [List.length_append, hI.out.1]; rfl
        have hsz2 := hbw.size
        clear hq h47
        go_wp2_with (at_builtin; (refine wpList_push _ rfl (.tmp 19) (.tmp 24) 87 rfl w.heap.size 9 i0 (.string ByteArray.empty) 1 16 Tryd.underlying87 hi0 hz0 hz1 hz2 rfl (by decide) (.slice A1 m c1) m (scells done) rfl hown 1 #[.string ⟨q.toArray⟩] 9 (by simp [Act.eval]) rfl (by simp [Value.oneCell']) (by unfold maxLen; omega) (by omega) hsz2 ?_); intro v4 w4 hown4 hb4 _)
        obtain ⟨A4, c4, rfl, _, _, _⟩ := own_form hown4
        have hb5 := hbw.trans hb4
        have HO : Hid (w4.ownsRow w.heap.size 9 1 (.slice A4 (m + 1) c4) (m + 1) (scells (done ++ [q]))) := by show World.ownsRow _ _ _ _ _ _ _; rw [scells_append]; exact hown4
        clear hown hown4 hbw hb4
        go_wp2_with fail
        go_roundw
        case rel => exact ⟨k + 1, k + 1, m + 1, done ++ [q], A4, c4, by omega, Nat.le_refl _, by omega, by go_num, by go_num, rfl, ⟨HM.out, HN.out, by simp⟩, HO.out, hb5⟩
        case measure => simp [intOf]; omega
      · have hyi : ¬ (y.toNat : Int) = 58 := by
          intro e
          exact h47 (UInt8.toNat_inj.1 (by have : (58 : UInt8).toNat = 58 := rfl; omega))
        have HN : Hid (58 ∉ (s.data.toList.drop j).take (k + 1 - j)) := by
          show _ ∉ _
          rw [HTK.out, List.mem_append, List.mem_singleton]
          rintro (h | h)
          · exact hI.out.2.2 h
          · exact h47 h.symm
        clear h47
        go_wp2_with fail
        go_roundw
        case rel => exact ⟨k + 1, j, m, done, A1, c1, by omega, by omega, hm, by go_num, rfl, rfl, ⟨hI.out.1, hI.out.2.1, HN.out⟩, hown, hbw⟩
        case measure => simp [intOf]; omega
    · obtain rfl : k = s.size := by omega
      have hex := extract_mk s j s.size
      obtain ⟨q, hq⟩ : ∃ q, q = (s.data.toList.drop j).take (s.size - j) := ⟨_, rfl⟩
      rw [← hq] at hex
      have HN : Hid (partsT s.data.toList = done ++ [q]) := by
        show _ = _
        have : (s.data.toList.drop j).take (s.size - j) = s.data.toList.drop j := List.take_of_length_le (by rw [List.length_drop]; have := HSZ.out; omega)
        have h47 := hI.out.2.2
        rw [this] at h47 hq
        rw [hI.out.2.1, partsT_one _ h47, hq]
      have HM : Hid (m + 1 = (partsT s.data.toList).length) := by show _ = _; rw [HN.out, List.length_append, hI.out.1]; rfl
      have hsz2 := hbw.size
      have hjk : (j : Int) ≤ (s.size : Int) := by omega
      clear hq
      go_wp2_with (at_builtin; (refine wpList_push _ rfl (.tmp 28) (.tmp 32) 87 rfl w.heap.size 9 i0 (.string ByteArray.empty) 1 16 Tryd.underlying87 hi0 hz0 hz1 hz2 rfl (by decide) (.slice A1 m c1) m (scells done) rfl hown 1 #[.string ⟨q.toArray⟩] 9 (by simp [Act.eval]) rfl (by simp [Value.oneCell']) (by unfold maxLen; omega) (by omega) hsz2 ?_); intro v4 w4 hown4 hb4 _)
      have HO : Hid (w4.ownsRow w.heap.size 9 1 v4 (m + 1) (scells (partsT s.data.toList))) := by show World.ownsRow _ _ _ _ _ _ _; rw [HN.out, scells_append]; exact hown4
      have hb5 := hbw.trans hb4
      clear hown hown4 hbw hb4
      go_wp2_with fail
      go_ret
      exact ⟨v4, rfl, by rw [← HM.out]; exact HO.out, hb5⟩
theorem partsT_small (l : BS) : ∀ p ∈ partsT l, p.length ≤ l.length := by
  induction l with
  | nil => simp [partsT]
  | cons c l ih =>
    unfold partsT
    split
    · intro p hp
      rcases List.mem_cons.1 hp with rfl | hp
      · simp
      · have := ih p hp; simp; omega
    · split
      · rename_i q ps h
        rw [h] at ih
        intro p hp
        rcases List.mem_cons.1 hp with rfl | hp
        · have := ih q (List.mem_cons_self ..); simp; omega
        · have := ih p (List.mem_cons_of_mem _ hp); simp; omega
      · intro p hp
        rw [List.mem_singleton] at hp
        subst hp
        simp
end Go.Proofs.YtjdebhemoeojiaaDoor
