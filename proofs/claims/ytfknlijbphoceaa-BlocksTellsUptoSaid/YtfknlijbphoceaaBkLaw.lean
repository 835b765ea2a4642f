/-
  Contents and their octets: the plain law.
-/
import Derived.Test.YtfknlijbphoceaaBkRead
import Derived.Test.YtfknlijbphoceaaBkOct
namespace Go.Proofs.Ytfknlijbphoceaa
open Go.RowKit

theorem putL2b (n : Int) : putL n 2 = [toByte (n / 256), toByte n] := by
  simp [putL, putF, bkDown, putStep, List.range, List.range.loop, List.replicate]
theorem numN2b (n : Int) : (numN (putL n 2) : Int) = n % 65536 := by
  rw [putL2b]
  simp only [numN, List.foldl_cons, List.foldl_nil]
  have a := toByte_int n
  have b := toByte_int (n / 256)
  omega
theorem numV2b (n : Int) (h : 0 ≤ n ∧ n < 65536) : numV (putL n 2) = n := by
  have := numN2b n
  unfold numV
  rw [if_neg (by rw [putL_length]; omega)]
  omega
theorem put_numV (x y : UInt8) : putL (numV [x, y]) 2 = [x, y] := by
  have h : numV [x, y] = ((x.toNat * 256 + y.toNat : Nat) : Int) := by
    have hx := x.toNat_lt
    have hy := y.toNat_lt
    have e : numN [x, y] = x.toNat * 256 + y.toNat := by simp [numN]
    unfold numV
    rw [e, if_neg]
    simp only [List.length_cons, List.length_nil]
    omega
  have hx := x.toNat_lt
  have hy := y.toNat_lt
  rw [h, putL2b]
  have a := toByte_int ((x.toNat * 256 + y.toNat : Nat) : Int)
  have b := toByte_int (((x.toNat * 256 + y.toNat : Nat) : Int) / 256)
  have e1 : toByte (((x.toNat * 256 + y.toNat : Nat) : Int) / 256) = x := UInt8.toNat_inj.1 (by omega)
  have e2 : toByte ((x.toNat * 256 + y.toNat : Nat) : Int) = y := UInt8.toNat_inj.1 (by omega)
  rw [e1, e2]

def rdN : Nat → List UInt8 → BL
  | 0, _ => []
  | k + 1, b => rdOne (b.take 18) :: rdN k (b.drop 18)
theorem rdL_range (k : Nat) (b : List UInt8) : rdL b (List.range k) = rdN k b := by
  induction k generalizing b with
  | zero => rfl
  | succ k ih =>
    rw [List.range_succ_eq_map]
    unfold rdL at *
    rw [List.map_cons, List.map_map, rdN, ← ih (b.drop 18)]
    congr 1
    apply List.map_congr_left
    intro j _
    show rdOne (chunkEL b (j + 1)) = rdOne (chunkEL (b.drop 18) j)
    unfold chunkEL
    rw [List.drop_drop, show 18 * (j + 1) = 18 + 18 * j by omega]
theorem bkOct_cons (x : Int × List UInt8) (l : BL) : bkOct (x :: l) = putL x.1 2 ++ x.2 ++ bkOct l := by simp [bkOct]
theorem oct_rdN (k : Nat) (b : List UInt8) (h : b.length = 18 * k) : bkOct (rdN k b) = b := by
  induction k generalizing b with
  | zero => rw [List.eq_nil_of_length_eq_zero (l := b) (by omega)]; rfl
  | succ k ih =>
    rw [rdN, bkOct_cons, ih _ (by rw [List.length_drop]; omega)]
    match b, h with
    | x :: y :: r, h =>
      have h2 : ((x :: y :: r).take 18).take 2 = [x, y] := by simp
      have h3 : ((x :: y :: r).take 18).drop 2 = r.take 16 := by simp
      show putL (numV (((x :: y :: r).take 18).take 2)) 2 ++ ((x :: y :: r).take 18).drop 2 ++ (x :: y :: r).drop 18 = _
      rw [h2, h3, put_numV]
      show x :: y :: (r.take 16 ++ r.drop 16) = _
      rw [List.take_append_drop]
    | [_], h => simp at h; omega
    | [], h => simp at h
/-- octets come back -/
theorem oct_read (b : List UInt8) (h : b.length % 18 = 0) : bkOct (readL b) = b := by
  unfold readL
  rw [rdL_range]
  exact oct_rdN _ _ (by omega)
theorem rdN_oct (l : BL) (h : ∀ x ∈ l, x.2.length = 16 ∧ 0 ≤ x.1 ∧ x.1 < 1024) : (bkOct l).length = 18 * l.length ∧ rdN l.length (bkOct l) = l := by
  induction l with
  | nil => exact ⟨rfl, rfl⟩
  | cons x l ih =>
    obtain ⟨h1, h2, h3⟩ := h x (List.mem_cons_self ..)
    obtain ⟨i1, i2⟩ := ih fun y hy => h y (List.mem_cons_of_mem _ hy)
    have hpl := putL_length x.1 2
    refine ⟨by rw [bkOct_cons, List.length_append, List.length_append, i1, hpl, h1, List.length_cons]; omega, ?_⟩
    have e1 : (bkOct (x :: l)).take 18 = putL x.1 2 ++ x.2 := by rw [bkOct_cons, List.take_append_of_le_length (by simp [hpl, h1]), List.take_of_length_le (by simp [hpl, h1])]
    have e2 : (bkOct (x :: l)).drop 18 = bkOct l := by
      rw [bkOct_cons]
      exact List.drop_left' (by simp [hpl, h1])
    rw [List.length_cons, rdN, e1, e2, i2]
    congr 1
    unfold rdOne
    rw [List.take_left' hpl, List.drop_left' hpl, numV2b _ (by omega)]
/-- a content comes back -/
theorem read_oct (l : BL) (h : okL l = true) : (bkOct l).length = 18 * l.length ∧ readL (bkOct l) = l := by
  obtain ⟨h1, h2⟩ := rdN_oct l (okL_len l h)
  refine ⟨h1, ?_⟩
  unfold readL
  rw [rdL_range, h1, show 18 * l.length / 18 = l.length by omega, h2]
/-- a content has no more than 1024 blocks -/
theorem okFrom_small (p : Int) (l : BL) (hp : -1 ≤ p) (h : okFrom (some p) l = true) : (l.length : Int) + p < 1024 ∨ l = [] := by
  induction l generalizing p with
  | nil => exact .inr rfl
  | cons x l ih =>
    simp only [okFrom, Bool.and_eq_true, decide_eq_true_eq] at h
    obtain ⟨⟨⟨⟨h1, h2⟩, _⟩, h4⟩, h5⟩ := h
    left
    rcases ih x.1 (by omega) h5 with h | rfl
    · rw [List.length_cons]; omega
    · simp; omega
theorem okL_small (l : BL) (h : okL l = true) : l.length ≤ 1024 := by
  cases l with
  | nil => simp
  | cons x l =>
    unfold okL at h
    simp only [okFrom, Bool.and_eq_true, decide_eq_true_eq] at h
    obtain ⟨⟨⟨⟨h1, h2⟩, _⟩, _⟩, h5⟩ := h
    rcases okFrom_small x.1 l (by omega) h5 with h | rfl
    · rw [List.length_cons]; omega
    · simp
end Go.Proofs.Ytfknlijbphoceaa
