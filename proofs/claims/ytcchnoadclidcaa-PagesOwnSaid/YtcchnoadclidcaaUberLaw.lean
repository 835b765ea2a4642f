/-
  The plain law of uberblocks' sectors: one comes back from its octets; one octet that is another one is told.
-/
import Derived.Test.YtcchnoadclidcaaUDec
namespace Go.Proofs.Ytcchnoadclidcaa
open Go.RowKit

theorem putL8e (n : Int) : putL n 8 = [toByte (n / 256 / 256 / 256 / 256 / 256 / 256 / 256), toByte (n / 256 / 256 / 256 / 256 / 256 / 256), toByte (n / 256 / 256 / 256 / 256 / 256), toByte (n / 256 / 256 / 256 / 256), toByte (n / 256 / 256 / 256), toByte (n / 256 / 256), toByte (n / 256), toByte n] := by
  simp [putL, putF, bkDown, putStep, List.range, List.range.loop, List.replicate]
theorem putL4e (n : Int) : putL n 4 = [toByte (n / 256 / 256 / 256), toByte (n / 256 / 256), toByte (n / 256), toByte n] := by
  simp [putL, putF, bkDown, putStep, List.range, List.range.loop, List.replicate]
theorem numN8e (n : Int) : (numN (putL n 8) : Int) = n % 18446744073709551616 := by
  rw [putL8e]
  simp only [numN, List.foldl_cons, List.foldl_nil, Int.natCast_add, Int.natCast_mul, toByte_int]
  omega
theorem numN4e (n : Int) : (numN (putL n 4) : Int) = n % 4294967296 := by
  rw [putL4e]
  simp only [numN, List.foldl_cons, List.foldl_nil, Int.natCast_add, Int.natCast_mul, toByte_int]
  omega
theorem numV8 (n : Int) (h : 0 ≤ n ∧ n ≤ 4611686018427387903) : numV (putL n 8) = n := by
  have e := numN8e n
  unfold numV
  rw [if_neg (by rw [putL_length]; omega)]
  omega
theorem numV4 (n : Int) (h : 0 ≤ n ∧ n < 4294967296) : numV (putL n 4) = n := by
  have e := numN4e n
  unfold numV
  rw [if_neg (by rw [putL_length]; omega)]
  omega
theorem bodyL_eq (t f o : Int) : bodyL t f o = [103, 100, 110, 49] ++ (putL t 8 ++ (putL f 4 ++ (putL o 4 ++ List.replicate 12 0))) := by simp [bodyL, bodyLs, magicL]
theorem decU_encL (u : Ub) (h : u.ok) : decU (encL u) = u := by
  obtain ⟨t, f, o⟩ := u
  obtain ⟨h1, h2, h3, h4⟩ := h
  simp only at h1 h2 h3 h4
  have e1 : ((encL ⟨t, f, o⟩).drop 4).take 8 = putL t 8 := by
    simp only [encL]
    rw [bodyL_eq, putL8e, putL4e, putL4e]; rfl
  have e2 : ((encL ⟨t, f, o⟩).drop 12).take 4 = putL f 4 := by
    simp only [encL]
    rw [bodyL_eq, putL8e, putL4e, putL4e]; rfl
  have e3 : ((encL ⟨t, f, o⟩).drop 16).take 4 = putL o 4 := by
    simp only [encL]
    rw [bodyL_eq, putL8e, putL4e, putL4e]; rfl
  unfold decU
  rw [e1, e2, e3, numV8 t (by omega), numV4 f (by omega), numV4 o (by omega)]
theorem decOk_encL (u : Ub) (h : u.ok) : DecOk (encL u) := ⟨encL_length u, by rw [decU_encL u h]; exact h, by rw [decU_encL u h]⟩
theorem not_decOk_nil : ¬ DecOk [] := fun h => by have := h.len; simp at this
theorem not_ok_zero : ¬ (⟨0, 0, 0⟩ : Ub).ok := fun h => by have := h.t.1; simp at this

/-! ### One octet -/
theorem feedA (s : Sm) (l : List Nat) (hs : 0 ≤ s.a ∧ s.a < 18446744073709551616) : (feedL s l).a = (s.a + (l.sum : Nat)) % 18446744073709551616 := by
  induction l generalizing s with
  | nil => simp [feedL]; omega
  | cons x l ih =>
    show (feedL (s.step x) l).a = _
    have e : (s.step x).a = (s.a + x) % 18446744073709551616 := by simp [Sm.step, wu, IntKind.wrap_u64]
    rw [ih _ (by rw [e]; omega), e, List.sum_cons]
    omega
theorem sumOne (f g : Nat → Nat) (q : Nat) (h : ∀ k, k ≠ q → f k = g k) (n : Nat) : (((List.range n).map f).sum : Int) = ((List.range n).map g).sum + if q < n then (f q : Int) - g q else 0 := by
  induction n with
  | zero => simp
  | succ n ih =>
    rw [List.range_succ, List.map_append, List.map_append, List.sum_append, List.sum_append]
    simp only [List.map_cons, List.map_nil, List.sum_cons, List.sum_nil, Int.natCast_add]
    rw [ih]
    by_cases hq : q < n
    · rw [if_pos hq, if_pos (by omega), h n (by omega)]; omega
    · by_cases hq2 : q = n
      · subst hq2; simp; omega
      · rw [if_neg hq, if_neg (by omega), h n (by omega)]; omega
theorem wu_ok (n : Int) : 0 ≤ wu n ∧ wu n < 18446744073709551616 := by unfold wu; rw [IntKind.wrap_u64]; omega
theorem feed_ok (s : Sm) (hs : s.ok) (l : List Nat) : (feedL s l).ok := by
  induction l generalizing s with
  | nil => exact hs
  | cons x l ih => exact ih (s.step x) ⟨wu_ok _, wu_ok _, wu_ok _, wu_ok _⟩
theorem zero_ok : (⟨0, 0, 0, 0⟩ : Sm).ok := ⟨by decide, by decide, by decide, by decide⟩
theorem setB_get (b : List UInt8) (q : Nat) (y : UInt8) (j : Nat) (hq : q < b.length) : (b.set q y).getD j 0 = if j = q then y else b.getD j 0 := by
  simp only [List.getD_eq_getElem?_getD]
  by_cases h : j = q
  · subst h; rw [List.getElem?_set_self hq, if_pos rfl]; rfl
  · rw [List.getElem?_set_ne (fun e => h e.symm), if_neg h]
/-- the sum's A tells one octet that is another one -/
theorem one_octet (b : List UInt8) (q : Nat) (y : UInt8) (hq : q < b.length) (hy : y ≠ b.getD q 0) : (feedL ⟨0, 0, 0, 0⟩ (words (b.set q y))).a ≠ (feedL ⟨0, 0, 0, 0⟩ (words b)).a := by
  rw [feedA _ _ ⟨by simp, by simp⟩, feedA _ _ ⟨by simp, by simp⟩]
  have hs := sumOne (wordAt (b.set q y)) (wordAt b) (q / 4) (fun k hk => by
    unfold wordAt
    rw [setB_get _ _ _ _ hq, setB_get _ _ _ _ hq, setB_get _ _ _ _ hq, setB_get _ _ _ _ hq, if_neg (by omega), if_neg (by omega), if_neg (by omega), if_neg (by omega)]) ((b.length + 3) / 4)
  rw [if_pos (by omega)] at hs
  have hd : wordAt (b.set q y) (q / 4) ≠ wordAt b (q / 4) := by
    have hne : y.toNat ≠ (b.getD q 0).toNat := fun e => hy (UInt8.toNat_inj.1 e)
    unfold wordAt w4
    rw [setB_get _ _ _ _ hq, setB_get _ _ _ _ hq, setB_get _ _ _ _ hq, setB_get _ _ _ _ hq]
    have k0 := (b.getD (4 * (q / 4)) 0).toNat_lt
    have k1 := (b.getD (4 * (q / 4) + 1) 0).toNat_lt
    have k2 := (b.getD (4 * (q / 4) + 2) 0).toNat_lt
    have k3 := (b.getD (4 * (q / 4) + 3) 0).toNat_lt
    have ky := y.toNat_lt
    have hr : q % 4 = 0 ∨ q % 4 = 1 ∨ q % 4 = 2 ∨ q % 4 = 3 := by omega
    rcases hr with h | h | h | h
    · rw [show q = 4 * (q / 4) by omega] at hne
      rw [if_pos (by omega), if_neg (by omega), if_neg (by omega), if_neg (by omega)]; omega
    · rw [show q = 4 * (q / 4) + 1 by omega] at hne
      rw [if_neg (by omega), if_pos (by omega), if_neg (by omega), if_neg (by omega)]; omega
    · rw [show q = 4 * (q / 4) + 2 by omega] at hne
      rw [if_neg (by omega), if_neg (by omega), if_pos (by omega), if_neg (by omega)]; omega
    · rw [show q = 4 * (q / 4) + 3 by omega] at hne
      rw [if_neg (by omega), if_neg (by omega), if_neg (by omega), if_pos (by omega)]; omega
  have l1 : wordAt (b.set q y) (q / 4) < 4294967296 := words_lt (b.set q y) _ (by unfold words wordsN; exact List.mem_map.2 ⟨q / 4, List.mem_range.2 (by simp; omega), rfl⟩)
  have l2 : wordAt b (q / 4) < 4294967296 := words_lt b _ (by unfold words wordsN; exact List.mem_map.2 ⟨q / 4, List.mem_range.2 (by omega), rfl⟩)
  unfold words wordsN
  rw [List.length_set]
  omega
theorem octL_a (sa sb sc sd ta tb tc td : Int) (h : octL sa sb sc sd = octL ta tb tc td) (hs : 0 ≤ sa ∧ sa < 18446744073709551616) (ht : 0 ≤ ta ∧ ta < 18446744073709551616) : sa = ta := by
  have h8 : putL (IntKind.i64.wrap sa) 8 = putL (IntKind.i64.wrap ta) 8 := by
    have := congrArg (List.take 8) h
    unfold octL at this
    rwa [List.take_left' (putL_length _ _), List.take_left' (putL_length _ _)] at this
  have e1 := numN8e (IntKind.i64.wrap sa)
  have e2 := numN8e (IntKind.i64.wrap ta)
  rw [h8] at e1
  generalize (numN (putL (IntKind.i64.wrap ta) 8) : Int) = N at e1 e2
  rw [IntKind.wrap_i64] at e1 e2
  omega
theorem spoilt_law (u : Ub) (q : Nat) (y : UInt8) (hq : q < 64) (hy : y ≠ (encL u).getD q 0) : ¬ DecOk ((encL u).set q y) := by
  intro h
  have henc := h.enc
  generalize decU ((encL u).set q y) = v at henc
  have hb : (bodyL v.t v.f v.o) = ((encL u).set q y).take 32 := by
    rw [← henc]; unfold encL; rw [List.take_left' (bodyL_length _ _ _)]
  have hsum : sumL8 (bodyL v.t v.f v.o) = ((encL u).set q y).drop 32 := by
    rw [← henc]; unfold encL; rw [List.drop_left' (bodyL_length _ _ _)]
  by_cases h32 : 32 ≤ q
  · have hb2 : bodyL v.t v.f v.o = bodyL u.t u.f u.o := by
      rw [hb, List.take_set_of_le h32]; unfold encL; rw [List.take_left' (bodyL_length _ _ _)]
    have he : encL v = encL u := by unfold encL; rw [hb2]
    rw [he] at henc
    apply hy
    have := congrArg (fun l => l.getD q 0) henc
    simp only [setB_get _ _ _ _ (show q < (encL u).length by rw [encL_length]; omega), if_pos] at this
    exact this.symm
  · have hb2 : bodyL v.t v.f v.o = (bodyL u.t u.f u.o).set q y := by
      rw [hb]
      unfold encL
      rw [List.set_append_left _ _ (by rw [bodyL_length]; omega), List.take_left' (by rw [List.length_set]; exact bodyL_length _ _ _)]
    have hs2 : sumL8 (bodyL v.t v.f v.o) = sumL8 (bodyL u.t u.f u.o) := by
      rw [hsum]
      unfold encL
      rw [List.set_append_left _ _ (by rw [bodyL_length]; omega), List.drop_left' (by rw [List.length_set]; exact bodyL_length _ _ _)]
    rw [hb2] at hs2
    have ha := octL_a _ _ _ _ _ _ _ _ hs2 (feed_ok _ zero_ok _).a (feed_ok _ zero_ok _).a
    refine one_octet _ q y (by rw [bodyL_length]; omega) ?_ ha
    intro e
    apply hy
    rw [e]
    unfold encL
    simp only [List.getD_eq_getElem?_getD]
    rw [List.getElem?_append_left (by rw [bodyL_length]; omega)]
end Go.Proofs.Ytcchnoadclidcaa
