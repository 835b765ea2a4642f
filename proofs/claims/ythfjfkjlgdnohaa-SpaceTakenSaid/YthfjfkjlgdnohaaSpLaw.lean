/-
  Sectors that are used, and free: the plain law.
-/
import Derived.Lib.SlKeysI
namespace Go.Proofs.Ythfjfkjlgdnohaa

/-! ### Lists of numbers that rise -/
def AscZ (l : List Int) : Prop := l.Pairwise (· < ·)
def insZ (x : Int) : List Int → List Int
  | [] => [x]
  | y :: l => if x < y then x :: y :: l else if x = y then y :: l else y :: insZ x l
def sortU (l : List Int) : List Int := l.foldr insZ []
theorem mem_insZ (x y : Int) (l : List Int) : y ∈ insZ x l ↔ y = x ∨ y ∈ l := by
  induction l with
  | nil => simp [insZ]
  | cons z l ih =>
    unfold insZ
    split
    · simp
    split
    · rename_i h
      subst h
      simp
    · simp only [List.mem_cons, ih]
      constructor <;> (rintro (h | h | h) <;> simp [h])
theorem asc_insZ (x : Int) (l : List Int) (h : AscZ l) : AscZ (insZ x l) := by
  induction l with
  | nil => simp [insZ, AscZ]
  | cons z l ih =>
    have h1 := List.pairwise_cons.1 h
    unfold insZ
    split
    · rename_i hx
      refine List.pairwise_cons.2 ⟨fun y hy => ?_, h⟩
      rcases List.mem_cons.1 hy with rfl | hy
      · exact hx
      · have := h1.1 y hy; omega
    split
    · exact h
    · refine List.pairwise_cons.2 ⟨fun y hy => ?_, ih h1.2⟩
      rcases (mem_insZ x y l).1 hy with rfl | hy
      · omega
      · exact h1.1 y hy
theorem mem_sortU (x : Int) (l : List Int) : x ∈ sortU l ↔ x ∈ l := by
  induction l with
  | nil => simp [sortU]
  | cons z l ih =>
    show x ∈ insZ z (sortU l) ↔ _
    rw [mem_insZ, ih, List.mem_cons]
theorem asc_sortU (l : List Int) : AscZ (sortU l) := by
  induction l with
  | nil => simp [sortU, AscZ]
  | cons z l ih => exact asc_insZ z _ ih
theorem asc_ext : ∀ (a b : List Int), AscZ a → AscZ b → (∀ x, x ∈ a ↔ x ∈ b) → a = b := by
  intro a
  induction a with
  | nil =>
    intro b _ _ h
    cases b with
    | nil => rfl
    | cons y b => have := (h y).2 (List.mem_cons_self ..); cases this
  | cons x a ih =>
    intro b ha hb h
    cases b with
    | nil => have := (h x).1 (List.mem_cons_self ..); cases this
    | cons y b =>
      obtain ⟨ha1, ha2⟩ := List.pairwise_cons.1 ha
      obtain ⟨hb1, hb2⟩ := List.pairwise_cons.1 hb
      have hxy : x = y := by
        rcases List.mem_cons.1 ((h x).1 (List.mem_cons_self ..)) with e | e
        · exact e
        · rcases List.mem_cons.1 ((h y).2 (List.mem_cons_self ..)) with e2 | e2
          · exact e2.symm
          · have := ha1 y e2
            have := hb1 x e
            omega
      subst hxy
      rw [ih b ha2 hb2 (fun z => ?_)]
      constructor
      · intro hz
        rcases List.mem_cons.1 ((h z).1 (List.mem_cons_of_mem _ hz)) with e | e
        · have := ha1 z hz; omega
        · exact e
      · intro hz
        rcases List.mem_cons.1 ((h z).2 (List.mem_cons_of_mem _ hz)) with e | e
        · have := hb1 z hz; omega
        · exact e
theorem asc_nodup (l : List Int) (h : AscZ l) : l.Nodup := h.imp (fun h => by omega)
theorem length_insZ (x : Int) (l : List Int) (h : AscZ l) : (insZ x l).length = if x ∈ l then l.length else l.length + 1 := by
  induction l with
  | nil => simp [insZ]
  | cons z l ih =>
    have h1 := List.pairwise_cons.1 h
    unfold insZ
    split
    · rename_i hx
      rw [if_neg]
      · simp
      · intro hm
        rcases List.mem_cons.1 hm with rfl | hm
        · omega
        · have := h1.1 x hm; omega
    split
    · rename_i hx
      rw [if_pos (by rw [hx]; exact List.mem_cons_self ..)]
    · rename_i h2 h3
      rw [List.length_cons, ih h1.2]
      by_cases hm : x ∈ l
      · rw [if_pos hm, if_pos (List.mem_cons_of_mem _ hm)]; rfl
      · rw [if_neg hm, if_neg (fun e => (List.mem_cons.1 e).elim h3 hm)]; rfl
theorem length_sortU (l : List Int) : (sortU l).length ≤ l.length ∧ ((sortU l).length = l.length ↔ l.Nodup) := by
  induction l with
  | nil => simp [sortU]
  | cons z l ih =>
    have e : (sortU (z :: l)).length = if z ∈ l then (sortU l).length else (sortU l).length + 1 := by
      have h : (sortU (z :: l)).length = _ := length_insZ z (sortU l) (asc_sortU l)
      by_cases hm : z ∈ l
      · rw [h, if_pos ((mem_sortU z l).2 hm), if_pos hm]
      · rw [h, if_neg (fun e => hm ((mem_sortU z l).1 e)), if_neg hm]
    rw [e, List.nodup_cons, List.length_cons]
    by_cases hm : z ∈ l
    · rw [if_pos hm]
      exact ⟨by omega, ⟨fun h => by omega, fun h => absurd hm h.1⟩⟩
    · rw [if_neg hm]
      exact ⟨by omega, ⟨fun h => ⟨hm, ih.2.1 (by omega)⟩, fun h => by rw [ih.2.2 h.2]⟩⟩
theorem sortU_of {l m : List Int} (h1 : AscZ l) (h2 : ∀ x, x ∈ l ↔ x ∈ m) : l = sortU m := asc_ext _ _ h1 (asc_sortU m) (fun x => by rw [mem_sortU, h2])

/-! ### What may be used, what is free -/
def usedE (total : Int) (l : List Int) : Int :=
  if (total < 2 ∨ 8192 < total) ∨ l.any (fun n => decide (n < 2 ∨ total ≤ n)) = true then 4 else if l.Nodup then 0 else 6
def upTo (total : Int) : List Int := (List.range (total.toNat - 2)).map fun k : Nat => (k : Int) + 2
def freeL (total : Int) (l : List Int) : List Int := (upTo total).filter fun n => !l.contains n
theorem mem_upTo (total x : Int) : x ∈ upTo total ↔ 2 ≤ x ∧ x < total := by
  unfold upTo
  rw [List.mem_map]
  constructor
  · rintro ⟨k, hk, rfl⟩
    rw [List.mem_range] at hk
    omega
  · rintro ⟨h1, h2⟩
    exact ⟨(x - 2).toNat, by rw [List.mem_range]; omega, by omega⟩
theorem asc_upTo (total : Int) : AscZ (upTo total) := by
  unfold upTo AscZ
  rw [List.pairwise_map]
  exact List.pairwise_lt_range.imp (fun h => by omega)
theorem asc_free (total : Int) (l : List Int) : AscZ (freeL total l) := (asc_upTo total).filter _
theorem mem_free (total x : Int) (l : List Int) : x ∈ freeL total l ↔ (2 ≤ x ∧ x < total) ∧ x ∉ l := by
  unfold freeL
  rw [List.mem_filter, mem_upTo]
  simp
theorem length_upTo (total : Int) : (upTo total).length = total.toNat - 2 := by simp [upTo]
theorem usedE_zero (total : Int) (l : List Int) : usedE total l = 0 ↔ (2 ≤ total ∧ total ≤ 8192) ∧ (∀ x ∈ l, 2 ≤ x ∧ x < total) ∧ l.Nodup := by
  unfold usedE
  constructor
  · intro h
    split at h
    · cases h
    · rename_i h1
      split at h
      · rename_i h2
        refine ⟨by omega, fun x hx => ?_, h2⟩
        rw [not_or, List.any_eq_true, not_exists] at h1
        have := h1.2 x
        simp only [decide_eq_true_eq, not_and] at this
        have := this hx
        omega
      · cases h
  · rintro ⟨h1, h2, h3⟩
    rw [if_neg, if_pos h3]
    rw [not_or, List.any_eq_true, not_exists]
    refine ⟨by omega, fun x hx => ?_⟩
    have h4 := h2 x hx.1
    have h5 := of_decide_eq_true hx.2
    omega
theorem perm_sub {a b : List Int} (ha : a.Nodup) (hb : b.Nodup) (h : ∀ x ∈ a, x ∈ b) : (b.filter fun n => !a.contains n).length + a.length = b.length := by
  have hp : (b.filter fun n => a.contains n).Perm a := by
    refine (List.perm_ext_iff_of_nodup (hb.filter _) ha).2 fun x => ?_
    rw [List.mem_filter]
    simp only [List.contains_iff_mem]
    exact ⟨fun h => h.2, fun hx => ⟨h x hx, hx⟩⟩
  have h2 := hp.length_eq
  have h3 : ∀ (l : List Int) (p : Int → Bool), (l.filter fun n => !p n).length + (l.filter p).length = l.length := by
    intro l p
    induction l with
    | nil => rfl
    | cons x l ih =>
      cases hx : p x <;> simp [hx] <;> omega
  have h4 := h3 b (fun n => a.contains n)
  omega
theorem length_free (total : Int) (l : List Int) (h : usedE total l = 0) : ((freeL total l).length : Int) = total - 2 - l.length := by
  obtain ⟨h1, h2, h3⟩ := (usedE_zero total l).1 h
  have := perm_sub h3 (asc_nodup _ (asc_upTo total)) (fun x hx => (mem_upTo total x).2 (h2 x hx))
  rw [length_upTo] at this
  unfold freeL
  omega
/-- what is taken is used then -/
theorem used_taken (total : Int) (l : List Int) (n : Nat) (h : usedE total l = 0) : usedE total (l ++ (freeL total l).take n) = 0 := by
  obtain ⟨h1, h2, h3⟩ := (usedE_zero total l).1 h
  refine (usedE_zero total _).2 ⟨h1, ?_, ?_⟩
  · intro x hx
    rcases List.mem_append.1 hx with hx | hx
    · exact h2 x hx
    · exact ((mem_free total x l).1 (List.mem_of_mem_take hx)).1
  · refine List.nodup_append.2 ⟨h3, (asc_nodup _ (asc_free total l)).sublist (List.take_sublist _ _), ?_⟩
    intro a ha b hb e
    subst e
    exact ((mem_free total _ l).1 (List.mem_of_mem_take hb)).2 ha
end Go.Proofs.Ythfjfkjlgdnohaa
