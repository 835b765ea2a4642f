/-
  Lists of elements of several cells each, in memory: the cells of one element; where a sorted list is parted.
-/
import Derived.Test.YteafdncnnamakaaGreatDoorBase
namespace Go.Proofs.YteafdncnnamakaaGreatDoor
open Go.RowKit

section
variable {α : Type}
def cellsK (enc : α → List Value) (l : List α) : List Value := l.flatMap enc
theorem cellsK_nil (enc : α → List Value) : cellsK enc [] = [] := rfl
theorem cellsK_append (enc : α → List Value) (a b : List α) : cellsK enc (a ++ b) = cellsK enc a ++ cellsK enc b := by simp [cellsK]
theorem cellsK_one (enc : α → List Value) (x : α) : cellsK enc [x] = enc x := by simp [cellsK]
theorem cellsK_length {enc : α → List Value} {k : Nat} (hk : ∀ x, (enc x).length = k) (l : List α) : (cellsK enc l).length = l.length * k := by
  induction l with
  | nil => simp [cellsK]
  | cons x l ih =>
    simp only [cellsK, List.flatMap_cons, List.length_append, List.length_cons] at ih ⊢
    rw [ih, hk, Nat.add_mul, Nat.one_mul, Nat.add_comm]
theorem cellsK_get {enc : α → List Value} {k : Nat} (hk : ∀ x, (enc x).length = k) (l : List α) (i : Nat) (h : i < l.length) (j : Nat) (hj : j < k) : (cellsK enc l)[i * k + j]? = (enc l[i])[j]? := by
  induction l generalizing i with
  | nil => simp at h
  | cons x l ih =>
    have e : cellsK enc (x :: l) = enc x ++ cellsK enc l := rfl
    rw [e]
    cases i with
    | zero => rw [Nat.zero_mul, Nat.zero_add, List.getElem?_append_left (by rw [hk]; exact hj)]; rfl
    | succ i =>
      rw [List.getElem?_append_right (by rw [hk, Nat.add_mul]; omega), hk, show (i + 1) * k + j - k = i * k + j by rw [Nat.add_mul]; omega]
      exact ih i (by simpa using h)
theorem cellsK_take {enc : α → List Value} {k : Nat} (hk : ∀ x, (enc x).length = k) (l : List α) (i : Nat) : cellsK enc (l.take i) = (cellsK enc l).take (i * k) := by
  induction l generalizing i with
  | nil => simp [cellsK]
  | cons x l ih =>
    cases i with
    | zero => simp [cellsK]
    | succ i =>
      have e : cellsK enc (x :: l) = enc x ++ cellsK enc l := rfl
      have e2 : cellsK enc ((x :: l).take (i + 1)) = enc x ++ cellsK enc (l.take i) := rfl
      rw [e, e2, ih, List.take_append, hk, List.take_of_length_le (l := enc x) (by rw [hk, Nat.add_mul]; omega), show (i + 1) * k - k = i * k by rw [Nat.add_mul]; omega]
theorem cellsK_drop {enc : α → List Value} {k : Nat} (hk : ∀ x, (enc x).length = k) (l : List α) (i : Nat) : cellsK enc (l.drop i) = (cellsK enc l).drop (i * k) := by
  induction l generalizing i with
  | nil => simp [cellsK]
  | cons x l ih =>
    cases i with
    | zero => simp
    | succ i =>
      have e : cellsK enc (x :: l) = enc x ++ cellsK enc l := rfl
      rw [e, List.drop_succ_cons, ih, List.drop_append, hk, @List.drop_eq_nil_of_le _ (enc x) _ (by rw [hk, Nat.add_mul]; omega), List.nil_append, show (i + 1) * k - k = i * k by rw [Nat.add_mul]; omega]
theorem Reads.elK {enc : α → List Value} {k : Nat} (hk : ∀ x, (enc x).length = k) {w : World} {B n : Nat} {A : Option Addr} {l : List α} (h : Reads w B k A n (cellsK enc l)) (hn : n = l.length) {i : Nat} (hi : i < n) :
    ∃ ad, A = some ad ∧ ad.block < B ∧ ∀ j, j < k → w.cell? ((ad.add (i * k)).add j) = (enc (l[i]'(by omega)))[j]? := by
  obtain ⟨ad, e, hb, hc⟩ := h.2 (by omega)
  refine ⟨ad, e, hb, fun j hj => ?_⟩
  have hl : j < (enc (l[i]'(by omega))).length := by rw [hk]; exact hj
  rw [List.getElem?_eq_getElem hl, add_of_add]
  exact hc _ _ ((cellsK_get hk l i (by omega) j hj).trans (List.getElem?_eq_getElem hl))
theorem addr_add_succ (a : Addr) (j : Nat) : a.add (j + 1) = ⟨a.block, a.off + (j + 1), none⟩ := by simp [Addr.add]
theorem Reads.el2 {f0 f1 : α → Value} {w : World} {B n : Nat} {A : Option Addr} {l : List α} (h : Reads w B 2 A n (cellsK (fun x => [f0 x, f1 x]) l)) (hn : n = l.length) {i : Nat} (hi : i < n) :
    ∃ ad, A = some ad ∧ ad.block < B ∧ w.cell? (ad.add (i * 2)) = some (f0 (l[i]'(by omega))) ∧ w.cell? ⟨(ad.add (i * 2)).block, (ad.add (i * 2)).off + 1, none⟩ = some (f1 (l[i]'(by omega))) := by
  obtain ⟨ad, e, hb, hc⟩ := Reads.elK (k := 2) (fun _ => rfl) h hn hi
  refine ⟨ad, e, hb, ?_, ?_⟩
  · have := hc 0 (by omega); rwa [add_zero] at this
  · have := hc 1 (by omega); rwa [addr_add_succ] at this
theorem Reads.el3 {f0 f1 f2 : α → Value} {w : World} {B n : Nat} {A : Option Addr} {l : List α} (h : Reads w B 3 A n (cellsK (fun x => [f0 x, f1 x, f2 x]) l)) (hn : n = l.length) {i : Nat} (hi : i < n) :
    ∃ ad, A = some ad ∧ ad.block < B ∧ w.cell? (ad.add (i * 3)) = some (f0 (l[i]'(by omega))) ∧ w.cell? ⟨(ad.add (i * 3)).block, (ad.add (i * 3)).off + 1, none⟩ = some (f1 (l[i]'(by omega))) ∧ w.cell? ⟨(ad.add (i * 3)).block, (ad.add (i * 3)).off + 2, none⟩ = some (f2 (l[i]'(by omega))) := by
  obtain ⟨ad, e, hb, hc⟩ := Reads.elK (k := 3) (fun _ => rfl) h hn hi
  refine ⟨ad, e, hb, ?_, ?_, ?_⟩
  · have := hc 0 (by omega); rwa [add_zero] at this
  · have := hc 1 (by omega); rwa [addr_add_succ] at this
  · have := hc 2 (by omega); rwa [addr_add_succ] at this

/-! ### where a list is parted -/
def posF (cf : α → Int) (l : List α) : Nat := (l.takeWhile fun x => decide (cf x < 0)).length
def atF (cf : α → Int) (l : List α) : Bool := (l[posF cf l]?).any fun x => cf x == 0
def SignAsc (cf : α → Int) (l : List α) : Prop := ∀ (i j : Nat) x y, i < j → l[i]? = some x → l[j]? = some y → cf y < 0 → cf x < 0
theorem posF_le (cf : α → Int) (l : List α) : posF cf l ≤ l.length := by
  unfold posF
  exact (List.takeWhile_sublist _).length_le
theorem posF_eq (cf : α → Int) (l : List α) (a : Nat) (ha : a ≤ l.length) (h1 : ∀ k x, k < a → l[k]? = some x → cf x < 0) (h2 : ∀ x, l[a]? = some x → 0 ≤ cf x) : posF cf l = a := by
  unfold posF
  induction l generalizing a with
  | nil => simp at ha; simp [ha]
  | cons y r ih =>
    cases a with
    | zero =>
      have := h2 y rfl
      rw [List.takeWhile_cons_of_neg (by simp; omega)]
      rfl
    | succ a =>
      have := h1 0 y (by omega) rfl
      rw [List.takeWhile_cons_of_pos (by simpa using this), List.length_cons]
      have := ih a (by simpa using ha) (fun k x hk hx => h1 (k + 1) x (by omega) (by simpa using hx)) (fun x hx => h2 x (by simpa using hx))
      omega
theorem posF_cons (cf : α → Int) (x : α) (l : List α) : posF cf (x :: l) = if cf x < 0 then posF cf l + 1 else 0 := by
  unfold posF
  rw [List.takeWhile_cons]
  by_cases h : cf x < 0
  · rw [if_pos (by simpa using h), if_pos h]; rfl
  · rw [if_neg (by simpa using h), if_neg h]; rfl
theorem atF_cons (cf : α → Int) (x : α) (l : List α) : atF cf (x :: l) = if cf x < 0 then atF cf l else cf x == 0 := by
  unfold atF
  rw [posF_cons]
  by_cases h : cf x < 0
  · rw [if_pos h, if_pos h]; rfl
  · rw [if_neg h, if_neg h]; rfl
end
end Go.Proofs.YteafdncnnamakaaGreatDoor
