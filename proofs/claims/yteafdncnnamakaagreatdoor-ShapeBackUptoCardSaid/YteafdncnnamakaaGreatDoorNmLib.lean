/-
  The shelf's words of a text's parts, in the words of the plain law.
-/
import Derived.Test.YteafdncnnamakaaGreatDoorNmLaw
import Derived.Lib.SplitLaws
import Derived.Lib.LastIndexByte
import Derived.Lib.Strings
namespace Go.Proofs.YteafdncnnamakaaGreatDoor
open Go.Lib

theorem index_none (c : UInt8) (s : List UInt8) (h : c ∉ s) : index s [c] = -1 := by
  induction s with
  | nil => rfl
  | cons b r ih =>
    have hb : ([c].isPrefixOf (b :: r)) = false := by
      have : c ≠ b := fun e => h (by rw [e]; exact List.mem_cons_self ..)
      simp [List.isPrefixOf, this]
    unfold index
    rw [hb, ih (fun e => h (List.mem_cons_of_mem _ e))]
    rfl
theorem index_some (c : UInt8) (a r : List UInt8) (h : c ∉ a) : index (a ++ c :: r) [c] = (a.length : Int) := by
  induction a with
  | nil => simp [index, List.isPrefixOf]
  | cons b a ih =>
    have hb : ([c].isPrefixOf (b :: (a ++ c :: r))) = false := by
      have : c ≠ b := fun e => h (by rw [e]; exact List.mem_cons_self ..)
      simp [List.isPrefixOf, this]
    rw [List.cons_append]
    unfold index
    rw [hb, ih (fun e => h (List.mem_cons_of_mem _ e))]
    have : (((a.length : Nat) : Int) == -1) = false := by rw [beq_eq_false_iff_ne]; omega
    simp [this]
/-- a text holds no c, or one first -/
theorem first_split (c : UInt8) (s : List UInt8) : c ∉ s ∨ ∃ a r, s = a ++ c :: r ∧ c ∉ a := by
  induction s with
  | nil => exact .inl (by simp)
  | cons b s ih =>
    by_cases hb : c = b
    · exact .inr ⟨[], s, by simp [hb], by simp⟩
    · rcases ih with h | ⟨a, r, rfl, h⟩
      · exact .inl (by simp [hb, h])
      · exact .inr ⟨b :: a, r, rfl, by simp [hb, h]⟩
theorem partsL_one (a : List UInt8) (h : 47 ∉ a) : partsL a = [a] := by
  induction a with
  | nil => rfl
  | cons b a ih =>
    unfold partsL
    rw [if_neg (fun e => h (by rw [e]; exact List.mem_cons_self ..)), ih (fun e => h (List.mem_cons_of_mem _ e))]
theorem partsL_two (a r : List UInt8) (h : 47 ∉ a) : partsL (a ++ 47 :: r) = a :: partsL r := by
  induction a with
  | nil => simp [partsL]
  | cons b a ih =>
    rw [List.cons_append, partsL, if_neg (fun e => h (by rw [e]; exact List.mem_cons_self ..)), ih (fun e => h (List.mem_cons_of_mem _ e))]
theorem splitK_parts (n : Nat) : ∀ s : List UInt8, s.length ≤ n → splitK [47] 0 (count s [47]) s = partsL s := by
  induction n with
  | zero =>
    intro s hs
    obtain rfl := List.eq_nil_of_length_eq_zero (Nat.le_zero.1 hs)
    rfl
  | succ n ih =>
    intro s hs
    rcases first_split 47 s with h | ⟨a, r, rfl, h⟩
    · rw [partsL_one s h, count_miss (index_none 47 s h)]
      rfl
    · have hi := index_some 47 a r h
      have hd : (a ++ 47 :: r).drop (a.length + 1) = r := by
        rw [← List.drop_drop, List.drop_append_of_le_length (Nat.le_refl _)]
        simp
      have hc := count_hit (s := a ++ 47 :: r) (sub := [47]) (i := a.length) (by simp) hi
      rw [partsL_two a r h, hc]
      rw [show ([47] : List UInt8).length = 1 from rfl, hd, Nat.add_comm 1]
      have hm : (index (a ++ 47 :: r) [47] == -1) = false := by rw [hi, beq_eq_false_iff_ne]; omega
      unfold splitK
      rw [hm, hi, if_neg (by simp)]
      simp only [Int.toNat_natCast, Nat.add_zero, List.length_singleton, hd]
      rw [List.take_left' rfl, ih r (by simp at hs; omega)]
theorem splitB_parts (s : ByteArray) : (splitB ⟨#[47]⟩ 0 (countB s ⟨#[47]⟩) s).map (·.data.toList) = partsL s.data.toList := by
  rw [splitB_data]
  exact splitK_parts _ _ (Nat.le_refl _)
theorem splitB_len (s : ByteArray) : (splitB ⟨#[47]⟩ 0 (countB s ⟨#[47]⟩) s).length = countB s ⟨#[47]⟩ + 1 := splitB_all ⟨#[47]⟩ (Nat.le_refl _) 0 _ s rfl

theorem atL_none (s : List UInt8) (h : 64 ∉ s) : atL s = none := by
  induction s with
  | nil => rfl
  | cons b s ih =>
    unfold atL
    rw [if_neg (fun e => h (by rw [e]; exact List.mem_cons_self ..)), ih (fun e => h (List.mem_cons_of_mem _ e))]
theorem cut_at (s : List UInt8) : cut s [64] = match atL s with
    | some (p, n) => (p, n, true)
    | none => (s, [], false) := by
  rcases first_split 64 s with h | ⟨a, r, rfl, h⟩
  · rw [atL_none s h]
    unfold cut
    rw [index_none 64 s h]
    rfl
  · rw [atL_join a r (fun c hc e => h (by rw [← e]; exact hc))]
    unfold cut
    rw [index_some 64 a r h, if_pos (by omega)]
    have hd : (a ++ 64 :: r).drop (a.length + 1) = r := by
      rw [← List.drop_drop, List.drop_append_of_le_length (Nat.le_refl _)]
      simp
    simp only [Int.toNat_natCast, List.length_singleton, hd]
    rw [List.take_left' rfl]

theorem lastS_spec (l : List UInt8) : (lastS l = none ∧ 47 ∉ l) ∨ ∃ k, lastS l = some k ∧ l[k]? = some 47 ∧ ∀ j, k < j → l[j]? ≠ some 47 := by
  induction l with
  | nil => exact .inl ⟨rfl, by simp⟩
  | cons b l ih =>
    unfold lastS
    rcases ih with ⟨h, hn⟩ | ⟨k, h, hk, hj⟩
    · rw [h]
      by_cases hb : b = 47
      · refine .inr ⟨0, by simp [hb], by simp [hb], ?_⟩
        intro j hj e
        obtain ⟨j, rfl⟩ : ∃ i, j = i + 1 := ⟨j - 1, by omega⟩
        rw [List.getElem?_cons_succ] at e
        exact hn (List.mem_of_getElem? e)
      · exact .inl ⟨by simp [hb], by simp [hn]; exact fun e => hb e.symm⟩
    · rw [h]
      refine .inr ⟨k + 1, rfl, by simpa using hk, ?_⟩
      intro j hlt e
      obtain ⟨j, rfl⟩ : ∃ i, j = i + 1 := ⟨j - 1, by omega⟩
      rw [List.getElem?_cons_succ] at e
      exact hj j (by omega) e
theorem data_get (s : ByteArray) (j : Nat) (hj : j < s.size) : s.data.toList[j]? = some s.data[j]! := by
  have h : j < s.data.size := hj
  rw [getElem!_pos s.data j h, Array.getElem?_toList, Array.getElem?_eq_getElem h]
theorem last_eq (s : ByteArray) : (max (Lib.lastIndexByte s 47) 0) = (((lastS s.data.toList).getD 0 : Nat) : Int) := by
  rcases Lib.lastIndexByte_spec s 47 with ⟨h, hn⟩ | ⟨i, hi, h, hc, hn⟩
  · rw [h]
    rcases lastS_spec s.data.toList with ⟨h2, _⟩ | ⟨k, _, hk, _⟩
    · rw [h2]; rfl
    · exfalso
      have hks : k < s.size := (List.getElem?_eq_some_iff.1 hk).1
      rw [data_get s k hks] at hk
      exact hn k hks (by rw [Option.some.inj hk]; rfl)
  · rw [h]
    have h47 : s.data[i]! = 47 := UInt8.toNat_inj.1 (by have e : (47 : UInt8).toNat = 47 := rfl; rw [e]; omega)
    have hi2 : s.data.toList[i]? = some 47 := by rw [data_get s i hi, h47]
    rcases lastS_spec s.data.toList with ⟨_, h3⟩ | ⟨k, h2, hk, hj⟩
    · exact absurd (List.mem_of_getElem? hi2) h3
    · rw [h2]
      have hks : k < s.size := (List.getElem?_eq_some_iff.1 hk).1
      have hki : k = i := by
        rcases Nat.lt_trichotomy k i with hl | he | hg
        · exact absurd hi2 (hj i hl)
        · exact he
        · rw [data_get s k hks] at hk
          exact absurd (by rw [Option.some.inj hk]; rfl) (hn k hg hks)
      subst hki
      simp
theorem last_bound (l : List UInt8) : (lastS l).getD 0 ≤ l.length := by
  rcases lastS_spec l with ⟨h, _⟩ | ⟨k, h, hk, _⟩
  · rw [h]; simp
  · rw [h]
    have := (List.getElem?_eq_some_iff.1 hk).1
    simp only [Option.getD_some]
    omega
theorem trim_eq (l : List UInt8) : Lib.trimSuffix l [47] = trimL l := by
  unfold Lib.trimSuffix trimL
  by_cases h : l.getLast? = some 47
  · rw [if_pos h]
    obtain ⟨r, rfl⟩ : ∃ r, l = r ++ [47] := by
      rcases List.eq_nil_or_concat l with rfl | ⟨r, x, rfl⟩
      · cases h
      · simp at h; exact ⟨r, by simp [h]⟩
    rw [if_pos (by unfold Lib.hasSuffix; rw [List.isSuffixOf_iff_suffix]; exact List.suffix_append _ _)]
    simp
  · rw [if_neg h, if_neg]
    intro h2
    unfold Lib.hasSuffix at h2
    rw [List.isSuffixOf_iff_suffix] at h2
    obtain ⟨r, rfl⟩ := h2
    exact h (by simp)
end Go.Proofs.YteafdncnnamakaaGreatDoor
