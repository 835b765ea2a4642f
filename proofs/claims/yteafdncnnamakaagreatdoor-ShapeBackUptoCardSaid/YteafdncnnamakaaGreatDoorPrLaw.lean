/-
  Properties, one list over the other: the plain law.
-/
import Derived.Test.YteafdncnnamakaaGreatDoorRcLaw
import Derived.Sort.Walk0
import Derived.Sort.KeysCollected
namespace Go.Proofs.YteafdncnnamakaaGreatDoor
open Go.RowKit

theorem bl_irrefl (x : BS) : Op.bytesLess x x = false := by rw [bytesLess_eq]; exact decide_eq_false (List.lt_irrefl x)
theorem bl_trans {x y z : BS} (h1 : Op.bytesLess x y = true) (h2 : Op.bytesLess y z = true) : Op.bytesLess x z = true := by
  rw [bytesLess_eq, decide_eq_true_eq] at *
  exact List.lt_trans h1 h2
theorem bl_tri : ∀ (x y : BS), Op.bytesLess x y = false → x ≠ y → Op.bytesLess y x = true
  | [], [], _, h2 => absurd rfl h2
  | [], _ :: _, h1, _ => by cases h1
  | _ :: _, [], _, _ => rfl
  | a :: x, b :: y, h1, h2 => by
    simp only [Op.bytesLess, Bool.or_eq_false_iff, Bool.and_eq_false_iff, decide_eq_false_iff_not] at h1
    simp only [Op.bytesLess, Bool.or_eq_true, Bool.and_eq_true, decide_eq_true_eq]
    obtain ⟨h3, h4⟩ := h1
    rw [UInt8.lt_iff_toNat_lt] at h3 ⊢
    by_cases hab : a = b
    · subst hab
      right
      refine ⟨by simp, bl_tri x y ?_ (fun e => h2 (by rw [e]))⟩
      rcases h4 with h4 | h4
      · simp at h4
      · exact h4
    · left
      have : a.toNat ≠ b.toNat := fun e => hab (UInt8.toNat_inj.1 e)
      omega
theorem snoc_ind {α : Type} {p : List α → Prop} (h0 : p []) (h1 : ∀ l a, p l → p (l ++ [a])) (l : List α) : p l := by
  have h : ∀ m : List α, p m.reverse := by
    intro m
    induction m with
    | nil => exact h0
    | cons a m ih => rw [List.reverse_cons]; exact h1 _ _ ih
  have := h l.reverse
  rwa [List.reverse_reverse] at this
theorem bl_ne {x y : BS} (h : Op.bytesLess x y = true) : x ≠ y := by
  intro e
  subst e
  rw [bl_irrefl] at h
  cases h
def SortP (l : PL) : Prop := l.Pairwise fun x y => Op.bytesLess x.1 y.1 = true
def putP (p : BS × BS) : PL → PL
  | [] => [p]
  | x :: l => if Op.bytesLess p.1 x.1 = true then p :: x :: l else if p.1 = x.1 then p :: l else x :: putP p l
def getP (l : PL) (n : BS) : Option BS := (l.find? fun x => x.1 == n).map (·.2)
theorem getP_nil (n : BS) : getP [] n = none := rfl
theorem getP_cons (x : BS × BS) (l : PL) (n : BS) : getP (x :: l) n = if x.1 = n then some x.2 else getP l n := by
  unfold getP
  rw [List.find?_cons]
  by_cases h : x.1 = n
  · rw [if_pos h, show (x.1 == n) = true by simp [h]]; rfl
  · rw [if_neg h, show (x.1 == n) = false by simp [h]]
theorem mem_putP (p : BS × BS) (l : PL) : ∀ x ∈ putP p l, x = p ∨ x ∈ l := by
  induction l with
  | nil => intro x hx; exact .inl (List.mem_singleton.1 hx)
  | cons y l ih =>
    intro x hx
    unfold putP at hx
    split at hx
    · rcases List.mem_cons.1 hx with h | h
      · exact .inl h
      · exact .inr h
    split at hx
    · rcases List.mem_cons.1 hx with h | h
      · exact .inl h
      · exact .inr (List.mem_cons_of_mem _ h)
    · rcases List.mem_cons.1 hx with h | h
      · exact .inr (h ▸ List.mem_cons_self ..)
      · rcases ih x h with h | h
        · exact .inl h
        · exact .inr (List.mem_cons_of_mem _ h)
theorem sort_putP (p : BS × BS) (l : PL) (h : SortP l) : SortP (putP p l) := by
  induction l with
  | nil => simp [putP, SortP]
  | cons y l ih =>
    obtain ⟨h1, h2⟩ := List.pairwise_cons.1 h
    unfold putP
    split
    · rename_i hp
      refine List.pairwise_cons.2 ⟨fun z hz => ?_, h⟩
      rcases List.mem_cons.1 hz with rfl | hz
      · exact hp
      · exact bl_trans hp (h1 z hz)
    split
    · rename_i hp
      exact List.pairwise_cons.2 ⟨fun z hz => by rw [hp]; exact h1 z hz, h2⟩
    · rename_i hp hq
      refine List.pairwise_cons.2 ⟨fun z hz => ?_, ih h2⟩
      rcases mem_putP p l z hz with rfl | hz
      · exact bl_tri _ _ (by simpa using hp) hq
      · exact h1 z hz
theorem getP_small {l : PL} {n : BS} (h : ∀ x ∈ l, Op.bytesLess n x.1 = true) : getP l n = none := by
  unfold getP
  rw [List.find?_eq_none.2]
  · rfl
  · intro x hx e
    have := bl_ne (h x hx)
    exact this (by simpa using (beq_iff_eq.1 e).symm)
theorem getP_putP (p : BS × BS) (l : PL) (h : SortP l) (n : BS) : getP (putP p l) n = if p.1 = n then some p.2 else getP l n := by
  induction l with
  | nil => unfold putP; rw [getP_cons]
  | cons y l ih =>
    obtain ⟨h1, h2⟩ := List.pairwise_cons.1 h
    unfold putP
    split
    · rw [getP_cons]
    split
    · rename_i hp
      rw [getP_cons, getP_cons]
      by_cases hn : p.1 = n
      · rw [if_pos hn, if_pos hn]
      · rw [if_neg hn, if_neg hn, if_neg (by rw [← hp]; exact hn)]
    · rename_i hp hq
      rw [getP_cons, ih h2, getP_cons]
      by_cases hn : y.1 = n
      · rw [if_pos hn, if_pos hn, if_neg (fun e => hq (e.trans hn.symm))]
      · rw [if_neg hn, if_neg hn]
theorem sortP_ext : ∀ (a b : PL), SortP a → SortP b → (∀ n, getP a n = getP b n) → a = b := by
  intro a
  induction a with
  | nil =>
    intro b _ _ h
    cases b with
    | nil => rfl
    | cons y b =>
      have := h y.1
      rw [getP_nil, getP_cons, if_pos rfl] at this
      cases this
  | cons x a ih =>
    intro b ha hb h
    cases b with
    | nil =>
      have := h x.1
      rw [getP_nil, getP_cons, if_pos rfl] at this
      cases this
    | cons y b =>
      obtain ⟨ha1, ha2⟩ := List.pairwise_cons.1 ha
      obtain ⟨hb1, hb2⟩ := List.pairwise_cons.1 hb
      have hxy : x.1 = y.1 := by
        by_cases e : x.1 = y.1
        · exact e
        · exfalso
          cases hl : Op.bytesLess x.1 y.1 with
          | true =>
            have := h x.1
            rw [getP_cons, if_pos rfl, getP_cons, if_neg (Ne.symm e), getP_small (fun z hz => bl_trans hl (hb1 z hz))] at this
            cases this
          | false =>
            have hl2 := bl_tri _ _ hl e
            have := h y.1
            rw [getP_cons, if_neg e, getP_cons, if_pos rfl, getP_small (fun z hz => bl_trans hl2 (ha1 z hz))] at this
            cases this
      have hv : x.2 = y.2 := by
        have := h x.1
        rw [getP_cons, if_pos rfl, getP_cons, if_pos hxy.symm] at this
        exact Option.some.inj this
      have hx : x = y := Prod.ext hxy hv
      subst hx
      rw [ih b ha2 hb2 (fun n => ?_)]
      have := h n
      rw [getP_cons, getP_cons] at this
      by_cases hn : x.1 = n
      · subst hn
        rw [getP_small ha1, getP_small hb1]
      · rwa [if_neg hn, if_neg hn] at this
/-- all, one behind the other -/
def allP (l : PL) : PL := l.foldl (fun acc p => putP p acc) []
theorem allP_snoc (l : PL) (p : BS × BS) : allP (l ++ [p]) = putP p (allP l) := by simp [allP]
theorem sort_allP (l : PL) : SortP (allP l) := by
  induction l using snoc_ind with
  | h0 => exact List.Pairwise.nil
  | h1 l p ih => rw [allP_snoc]; exact sort_putP p _ ih
theorem allP_get_snoc (l : PL) (p : BS × BS) (n : BS) : getP (allP (l ++ [p])) n = if p.1 = n then some p.2 else getP (allP l) n := by
  rw [allP_snoc]; exact getP_putP p _ (sort_allP l) n
theorem getP_last (a b : PL) (hb : SortP b) (n : BS) : getP (allP (a ++ b)) n = match getP b n with | some v => some v | none => getP (allP a) n := by
  induction b using snoc_ind with
  | h0 => simp [getP_nil]
  | h1 l p ih =>
    have hl : SortP l := hb.sublist (List.sublist_append_left _ _)
    rw [← List.append_assoc, allP_get_snoc]
    have hap : ∀ (m : BS), (∀ x ∈ l, Op.bytesLess x.1 p.1 = true) → getP (l ++ [p]) m = if p.1 = m then some p.2 else getP l m := by
      intro m hs
      clear ih hb hl
      induction l with
      | nil => rw [List.nil_append, getP_cons]
      | cons x l ih =>
        rw [List.cons_append, getP_cons, ih (fun y hy => hs y (List.mem_cons_of_mem _ hy)), getP_cons]
        by_cases hx : x.1 = m
        · have h1 := bl_ne (hs x (List.mem_cons_self ..))
          rw [if_pos hx, if_pos hx, if_neg (fun e => h1 (hx.trans e.symm))]
        · rw [if_neg hx, if_neg hx]
    rw [hap n (fun x hx => (List.pairwise_append.1 hb).2.2 x hx p (by simp)), ih hl]
    by_cases hn : p.1 = n
    · rw [if_pos hn, if_pos hn]
    · rw [if_neg hn, if_neg hn]
theorem allP_self (l : PL) (h : SortP l) : allP l = l := by
  refine sortP_ext _ _ (sort_allP l) h (fun n => ?_)
  have := getP_last [] l h n
  rw [List.nil_append] at this
  rw [this]
  cases getP l n <;> rfl
theorem allP_over (a b : PL) (hb : SortP b) (n : BS) : getP (allP (a ++ b)) n = (getP b n).or (getP (allP a) n) := by
  rw [getP_last a b hb n]
  cases getP b n <;> rfl
theorem propsFrom_sort (o : Option BS) (l : PL) (h : propsFrom o l = true) : SortP l ∧ ∀ q, o = some q → ∀ x ∈ l, Op.bytesLess q x.1 = true := by
  induction l generalizing o with
  | nil => exact ⟨List.Pairwise.nil, fun _ _ x hx => by cases hx⟩
  | cons y l ih =>
    unfold propsFrom at h
    simp only [Bool.and_eq_true] at h
    obtain ⟨h1, h2⟩ := ih _ h.2
    have h3 := h2 y.1 rfl
    refine ⟨List.pairwise_cons.2 ⟨h3, h1⟩, fun q hq x hx => ?_⟩
    subst hq
    have h4 : Op.bytesLess q y.1 = true := h.1.2
    rcases List.mem_cons.1 hx with rfl | hx
    · exact h4
    · exact bl_trans h4 (h3 x hx)
theorem propsB_sort (l : PL) (h : propsB l = true) : SortP l := by
  unfold propsB at h
  rw [Bool.and_eq_true] at h
  exact (propsFrom_sort none l h.2).1
end Go.Proofs.YteafdncnnamakaaGreatDoor
