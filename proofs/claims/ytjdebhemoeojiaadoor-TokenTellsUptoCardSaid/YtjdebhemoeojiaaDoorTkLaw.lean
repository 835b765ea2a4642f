/-
  Tokens: the plain law of numbers as digits.
-/
import Derived.Test.YtjdebhemoeojiaaDoorTkParts
namespace Go.Proofs.YtjdebhemoeojiaaDoor
open Go.RowKit

def digB (c : UInt8) : Bool := decide (48 ≤ c.toNat) && decide (c.toNat ≤ 57)
def stepV (n : Nat) (c : UInt8) : Nat := 10 * n + (c.toNat - 48)
def valL (l : BS) : Nat := l.foldl stepV 0
/-- a number of digits: an amount without a zero ahead -/
def numO (l : BS) : Option Nat := if l ≠ [] ∧ l.all digB = true ∧ ¬ (l[0]? = some 48 ∧ 1 < l.length) ∧ valL l ≤ 1099511627776 then some (valL l) else none
def digC (n : Nat) : UInt8 := UInt8.ofNat (48 + n)
def decL (n : Nat) : BS := if _h : n < 10 then [digC n] else decL (n / 10) ++ [digC (n % 10)]
theorem digC_nat {n : Nat} (h : n < 10) : (digC n).toNat = 48 + n := by
  unfold digC
  rw [UInt8.toNat_ofNat']
  omega
theorem decL_small {n : Nat} (h : n < 10) : decL n = [digC n] := by rw [decL, dif_pos h]
theorem decL_big {n : Nat} (h : ¬ n < 10) : decL n = decL (n / 10) ++ [digC (n % 10)] := by rw [decL, dif_neg h]
theorem decL_len (n : Nat) : (decL n).length ≤ n + 1 := by
  induction n using Nat.strongRecOn with
  | _ n ih =>
    by_cases h : n < 10
    · rw [decL_small h]; simp
    · rw [decL_big h, List.length_append]
      have := ih (n / 10) (by omega)
      simp only [List.length_cons, List.length_nil]
      omega
theorem stepV_mono {a b : Nat} (l : BS) (h : a ≤ b) : l.foldl stepV a ≤ l.foldl stepV b := by
  induction l generalizing a b with
  | nil => exact h
  | cons c l ih => exact ih (by unfold stepV; omega)
theorem stepV_le (l : BS) (a : Nat) : a ≤ l.foldl stepV a := by
  induction l generalizing a with
  | nil => exact Nat.le_refl _
  | cons c l ih => exact Nat.le_trans (by unfold stepV; omega) (ih _)
theorem valL_dec (n : Nat) : valL (decL n) = n ∧ decL n ≠ [] ∧ (decL n).all digB = true ∧ (10 ≤ n → (decL n)[0]? ≠ some 48) := by
  induction n using Nat.strongRecOn with
  | _ n ih =>
    by_cases h : n < 10
    · rw [decL_small h]
      have := digC_nat h
      refine ⟨?_, by simp, ?_, fun h1 => by omega⟩
      · show stepV 0 (digC n) = n
        unfold stepV
        omega
      · simp only [List.all_cons, List.all_nil, Bool.and_true]
        unfold digB
        rw [this, decide_eq_true (by omega), decide_eq_true (by omega)]
        rfl
    · rw [decL_big h]
      obtain ⟨h1, h2, h3, h4⟩ := ih (n / 10) (by omega)
      have hd := digC_nat (n := n % 10) (by omega)
      refine ⟨?_, by simp, ?_, fun _ => ?_⟩
      · show List.foldl stepV 0 _ = n
        rw [List.foldl_append]
        show stepV (valL (decL (n / 10))) (digC (n % 10)) = n
        unfold stepV
        rw [h1, hd]
        omega
      · rw [List.all_append, h3]
        simp only [List.all_cons, List.all_nil, Bool.and_true, Bool.true_and]
        unfold digB
        rw [hd, decide_eq_true (by omega), decide_eq_true (by omega)]
        rfl
      · have hl : 0 < (decL (n / 10)).length := List.length_pos_iff.2 h2
        rw [List.getElem?_append_left hl]
        by_cases h5 : 10 ≤ n / 10
        · exact h4 h5
        · rw [decL_small (by omega)]
          have := digC_nat (n := n / 10) (by omega)
          intro e
          have e2 : digC (n / 10) = 48 := by simpa using e
          rw [e2] at this
          have : (48 : UInt8).toNat = 48 := rfl
          omega
theorem decL_len_small (n : Nat) (h : n < 10) : (decL n).length = 1 := by rw [decL_small h]; rfl
/-- a number comes back from its digits -/
theorem numO_dec (n : Nat) (h : n ≤ 1099511627776) : numO (decL n) = some n := by
  obtain ⟨h1, h2, h3, h4⟩ := valL_dec n
  unfold numO
  have h8 : ¬ ((decL n)[0]? = some 48 ∧ 1 < (decL n).length) := by
    rintro ⟨h5, h6⟩
    by_cases h7 : n < 10
    · rw [decL_small h7] at h6
      simp at h6
    · exact h4 (by omega) h5
  rw [if_pos ⟨h2, h3, h8, by rw [h1]; exact h⟩, h1]
theorem digB_58 {c : UInt8} (h : digB c = true) : c ≠ 58 := by
  rintro rfl
  exact absurd h (by decide)
theorem decL_58 (n : Nat) : 58 ∉ decL n := by
  intro h
  exact digB_58 (List.all_eq_true.1 (valL_dec n).2.2.1 58 h) rfl
theorem okB_58 {c : UInt8} (h : okB c = true ∨ c = 47) : c ≠ 58 := by
  rintro rfl
  rcases h with h | h
  · exact absurd h (by decide)
  · exact absurd h (by decide)
/-- what a token is made of -/
def tokL (p : BS) (a g : Nat) : BS := p ++ 58 :: (decL a ++ 58 :: decL g)
def untok2 (p : BS) (oa og : Option Nat) : BS × Int × Int × Int := match oa, og with
  | some x, some y => (p, (x : Int), (y : Int), 0)
  | _, _ => ([], 0, 0, 33)
def untokP : List BS → BS × Int × Int × Int
  | [p, a, g] => if p = [] ∨ pathB p = false then ([], 0, 0, 33) else untok2 p (numO a) (numO g)
  | _ => ([], 0, 0, 33)
def untokV (l : BS) : BS × Int × Int × Int := untokP (partsT l)
theorem untokP_odd {P : List BS} (h : P.length ≠ 3) : untokP P = ([], 0, 0, 33) := by
  unfold untokP
  split
  · exact absurd rfl h
  · rfl
theorem untok_tok (p : BS) (a g : Nat) (hp : p ≠ []) (hp2 : pathB p = true) (ha : a ≤ 1099511627776) (hg : g ≤ 1099511627776) : untokV (tokL p a g) = (p, (a : Int), (g : Int), 0) := by
  have h1 : 58 ∉ p := fun h => okB_58 (path_chars p hp2 58 h) rfl
  unfold untokV tokL
  rw [partsT_two _ _ h1, partsT_two _ _ (decL_58 a), partsT_one _ (decL_58 g)]
  show (if p = [] ∨ pathB p = false then ([], 0, 0, 33) else untok2 p (numO (decL a)) (numO (decL g))) = _
  rw [if_neg (by rintro (h | h); exact hp h; rw [hp2] at h; cases h), numO_dec a ha, numO_dec g hg]
  rfl
/-! ### numbers of more than thirteen digits are no amounts -/
theorem valL_big (l : BS) (h : l.all digB = true) (n : Nat) (hn : 1 ≤ n) : n * 10 ^ l.length ≤ l.foldl stepV n := by
  induction l generalizing n with
  | nil => simp
  | cons c l ih =>
    have := ih (by rw [List.all_cons, Bool.and_eq_true] at h; exact h.2) (stepV n c) (by unfold stepV; omega)
    refine Nat.le_trans ?_ this
    rw [List.length_cons, Nat.pow_succ]
    have h2 : n * 10 ≤ stepV n c := by unfold stepV; omega
    calc n * (10 ^ l.length * 10) = (n * 10) * 10 ^ l.length := by rw [Nat.mul_comm (10 ^ l.length), Nat.mul_assoc]
      _ ≤ stepV n c * 10 ^ l.length := Nat.mul_le_mul_right _ h2
theorem numO_long (l : BS) (h : 13 < l.length) : numO l = none := by
  unfold numO
  refine if_neg ?_
  rintro ⟨h1, h2, h3, h4⟩
  match l, h1 with
  | c :: r, _ =>
    rw [List.all_cons, Bool.and_eq_true] at h2
    have hc : c ≠ 48 := fun e => h3 ⟨by rw [e]; rfl, by omega⟩
    have hc2 : 49 ≤ c.toNat := by
      have h5 := h2.1
      unfold digB at h5
      rw [Bool.and_eq_true, decide_eq_true_eq, decide_eq_true_eq] at h5
      have : c.toNat ≠ 48 := fun e => hc (UInt8.toNat_inj.1 (by rw [e]; rfl))
      omega
    have h6 : valL (c :: r) = r.foldl stepV (stepV 0 c) := rfl
    have h7 := valL_big r h2.2 (stepV 0 c) (by unfold stepV; omega)
    have h8 : 10 ^ 13 ≤ 10 ^ r.length := Nat.pow_le_pow_right (by omega) (by simp at h; omega)
    have h9 : 1 * 10 ^ r.length ≤ stepV 0 c * 10 ^ r.length := Nat.mul_le_mul_right _ (by unfold stepV; omega)
    have h10 : (10 : Nat) ^ 13 = 10000000000000 := by decide
    omega
theorem valL_short (l : BS) (h : l.all digB = true) (n : Nat) : l.foldl stepV n < (n + 1) * 10 ^ l.length := by
  induction l generalizing n with
  | nil => simp
  | cons c l ih =>
    rw [List.all_cons, Bool.and_eq_true] at h
    have h5 := h.1
    unfold digB at h5
    rw [Bool.and_eq_true, decide_eq_true_eq, decide_eq_true_eq] at h5
    have := ih h.2 (stepV n c)
    refine Nat.lt_of_lt_of_le this ?_
    rw [List.length_cons, Nat.pow_succ]
    calc (stepV n c + 1) * 10 ^ l.length ≤ ((n + 1) * 10) * 10 ^ l.length := Nat.mul_le_mul_right _ (by unfold stepV; omega)
      _ = (n + 1) * (10 ^ l.length * 10) := by rw [Nat.mul_comm (10 ^ l.length), Nat.mul_assoc]
end Go.Proofs.YtjdebhemoeojiaaDoor
