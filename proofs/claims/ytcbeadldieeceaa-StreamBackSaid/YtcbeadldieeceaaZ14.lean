/-
  The plain law of applying a change: what is changed from one content to another one makes it that.
-/
import Derived.Deep.RegionLaw
import Derived.Test.YtcbeadldieeceaaZ13
namespace Go.Proofs.Ytcbeadldieeceaa
open Go.RowKit

def lk (l : BL) (j : Int) : Option (List UInt8) := (l.find? fun x => x.1 == j).map (·.2)
theorem hasL_lk (l : BL) (j : Int) : hasL l j = (lk l j).isSome := by
  unfold hasL lk
  induction l with
  | nil => rfl
  | cons x r ih =>
    rw [List.any_cons, List.find?_cons]
    cases h : (x.1 == j) with
    | true => rfl
    | false => rw [Bool.false_or, ih]
theorem getL_lk (l : BL) (j : Int) : getL l j = (lk l j).getD [] := by
  unfold getL lk
  cases l.find? (fun x => x.1 == j) <;> rfl
theorem lk_append (a b : BL) (j : Int) : lk (a ++ b) j = (lk a j).or (lk b j) := by
  unfold lk
  rw [List.find?_append]
  cases a.find? (fun x => x.1 == j) <;> simp
theorem lk_cons (x : Int × List UInt8) (l : BL) (j : Int) : lk (x :: l) j = if x.1 = j then some x.2 else lk l j := by
  unfold lk
  by_cases h : x.1 = j
  · rw [List.find?_cons_of_pos (by simpa using h), if_pos h]; rfl
  · rw [List.find?_cons_of_neg (by simpa using h), if_neg h]
theorem lk_none (l : BL) (j : Int) (h : ∀ x ∈ l, x.1 ≠ j) : lk l j = none := by
  unfold lk
  rw [List.find?_eq_none.2 (fun x hx => by simpa using h x hx)]
  rfl
structure OkP (l : BL) : Prop where
  pw : l.Pairwise fun x y => x.1 < y.1
  bd : ∀ x ∈ l, 0 ≤ x.1 ∧ x.1 < 1024 ∧ x.2.length = 16
theorem okL_of (l : BL) (h : OkP l) : okL l = true := by
  unfold okL
  have key : ∀ (l : BL) (p : Option Int), OkP l → (∀ q, p = some q → ∀ x ∈ l, q < x.1) → okFrom p l = true := by
    intro l
    induction l with
    | nil => intro p _ _; rfl
    | cons x r ih =>
      intro p h hp
      have hb := h.bd x (by simp)
      have hpw := List.pairwise_cons.1 h.pw
      simp only [okFrom, Bool.and_eq_true, decide_eq_true_eq]
      refine ⟨⟨⟨⟨hb.1, hb.2.1⟩, hb.2.2⟩, ?_⟩, ih _ ⟨hpw.2, fun y hy => h.bd y (List.mem_cons_of_mem _ hy)⟩ (fun q hq y hy => by cases hq; exact hpw.1 y hy)⟩
      cases p with
      | none => rfl
      | some q => simpa using hp q rfl x (by simp)
  exact key l none h (fun q hq => by cases hq)
theorem OkP.of (l : BL) (h : okL l = true) : OkP l := by
  refine ⟨?_, okFrom_bounds none l h⟩
  have ha := okL_asc l h
  rw [List.pairwise_iff_getElem]
  intro i j hi hj hij
  exact ha i j _ _ hij (List.getElem?_eq_getElem hi) (List.getElem?_eq_getElem hj)
theorem OkP.ext {l m : BL} (hl : OkP l) (hm : OkP m) (h : ∀ j, lk l j = lk m j) : l = m := by
  induction l generalizing m with
  | nil =>
    cases m with
    | nil => rfl
    | cons y m => have := h y.1; rw [lk_cons, if_pos rfl] at this; cases this
  | cons x l ih =>
    cases m with
    | nil => have := h x.1; rw [lk_cons, if_pos rfl] at this; cases this
    | cons y m =>
      have hx := List.pairwise_cons.1 hl.pw
      have hy := List.pairwise_cons.1 hm.pw
      have hxy : x.1 = y.1 := by
        rcases Int.lt_trichotomy x.1 y.1 with h1 | h1 | h1
        · have := h x.1
          rw [lk_cons, if_pos rfl, lk_none (y :: m) x.1 (fun z hz => by
            rcases List.mem_cons.1 hz with rfl | hz
            · omega
            · have := hy.1 z hz; omega)] at this
          cases this
        · exact h1
        · have := h y.1
          rw [lk_cons y, if_pos rfl, lk_none (x :: l) y.1 (fun z hz => by
            rcases List.mem_cons.1 hz with rfl | hz
            · omega
            · have := hx.1 z hz; omega)] at this
          cases this
      have h2 : x.2 = y.2 := by
        have := h x.1
        rw [lk_cons, if_pos rfl, lk_cons, if_pos hxy.symm] at this
        exact Option.some.inj this
      have : l = m := by
        refine ih ⟨hx.2, fun z hz => hl.bd z (List.mem_cons_of_mem _ hz)⟩ ⟨hy.2, fun z hz => hm.bd z (List.mem_cons_of_mem _ hz)⟩ (fun j => ?_)
        by_cases hj : x.1 = j
        · rw [lk_none l j (fun z hz => by have := hx.1 z hz; omega), lk_none m j (fun z hz => by have := hy.1 z hz; omega)]
        · have := h j
          rw [lk_cons, if_neg hj, lk_cons, if_neg (by omega)] at this
          exact this
      rw [this, Prod.ext hxy h2]

/-! ### put, free -/
theorem atF_at' (l : BL) (i : Int) (x : Int × List UInt8) (hx : l[posF (cfB i) l]? = some x) : atF (cfB i) l = (x.1 == i) := by
  unfold atF
  rw [hx]
  show (cmpI x.1 i == 0) = _
  rw [Bool.eq_iff_iff]
  simp [cmpI_zero]
theorem posF_parts (l : BL) (h : OkP l) (i : Int) : (∀ x ∈ l.take (posF (cfB i) l), x.1 < i) ∧ (∀ x ∈ l.drop (posF (cfB i) l + if atF (cfB i) l = true then 1 else 0), i < x.1) ∧ (∀ j, j ≠ i → lk l j = (lk (l.take (posF (cfB i) l)) j).or (lk (l.drop (posF (cfB i) l + if atF (cfB i) l = true then 1 else 0)) j)) := by
  have h1 : l.take (posF (cfB i) l) = l.takeWhile fun x => decide (cfB i x < 0) := (List.prefix_iff_eq_take.1 (List.takeWhile_prefix _)).symm
  have hlt : ∀ x ∈ l.take (posF (cfB i) l), x.1 < i := by
    intro x hx
    rw [h1] at hx
    have : ∀ (l : BL), x ∈ l.takeWhile (fun x => decide (cfB i x < 0)) → x.1 < i := by
      intro l
      induction l with
      | nil => intro h; cases h
      | cons y r ih =>
        intro h
        by_cases hy : cfB i y < 0
        · rw [List.takeWhile_cons_of_pos (by simpa using hy)] at h
          rcases List.mem_cons.1 h with rfl | h
          · exact (cmpI_neg _ _).1 hy
          · exact ih h
        · rw [List.takeWhile_cons_of_neg (by simpa using hy)] at h; cases h
    exact this l hx
  have hpl := posF_le (cfB i) l
  have hsplit := List.take_append_drop (posF (cfB i) l) l
  refine ⟨hlt, ?_, ?_⟩
  all_goals
    by_cases hp : posF (cfB i) l < l.length
    · obtain ⟨x, hx⟩ : ∃ x, l[posF (cfB i) l]? = some x := ⟨_, List.getElem?_eq_getElem hp⟩
      have hdrop : l.drop (posF (cfB i) l) = x :: l.drop (posF (cfB i) l + 1) := by
        rw [List.drop_eq_getElem_cons hp, (List.getElem?_eq_some_iff.1 hx).2]
      have hge : i ≤ x.1 := by
        rcases Int.lt_or_le x.1 i with hl | hl
        · exfalso
          have h2 : l.takeWhile (fun x => decide (cfB i x < 0)) ++ l.dropWhile (fun x => decide (cfB i x < 0)) = l := List.takeWhile_append_dropWhile
          rw [← h1] at h2
          have h3 : l.dropWhile (fun x => decide (cfB i x < 0)) = l.drop (posF (cfB i) l) := List.append_cancel_left (h2.trans hsplit.symm)
          rw [hdrop] at h3
          have h5 := List.head_dropWhile_not (fun x => decide (cfB i x < 0)) (l := l) (by rw [h3]; simp)
          simp only [h3, List.head_cons, decide_eq_false_iff_not] at h5
          exact h5 ((cmpI_neg _ _).2 hl)
        · exact hl
      have hat : atF (cfB i) l = (x.1 == i) := atF_at' l i x hx
      have hpw : (x :: l.drop (posF (cfB i) l + 1)).Pairwise fun x y => x.1 < y.1 := by
        rw [← hdrop]
        exact h.pw.sublist (List.drop_sublist _ _)
      have hpw := List.pairwise_cons.1 hpw
      by_cases hxi : x.1 = i
      · rw [hat, if_pos (by simpa using hxi)]
        first
          | (intro y hy; have := hpw.1 y hy; omega)
          | (intro j hj
             conv => lhs; rw [← hsplit]
             rw [lk_append, hdrop, lk_cons, if_neg (by omega)])
      · rw [hat, if_neg (by simpa using hxi)]
        first
          | (intro y hy
             rw [Nat.add_zero, hdrop] at hy
             rcases List.mem_cons.1 hy with rfl | hy
             · omega
             · have := hpw.1 y hy; omega)
          | (intro j hj
             conv => lhs; rw [← hsplit]
             rw [lk_append, Nat.add_zero])
    · have hd : ∀ q, posF (cfB i) l ≤ q → l.drop q = [] := fun q hq => List.drop_eq_nil_of_le (by omega)
      first
        | (intro y hy; rw [hd _ (by omega)] at hy; cases hy)
        | (intro j hj
           conv => lhs; rw [← hsplit]
           rw [lk_append, hd _ (Nat.le_refl _), hd _ (by omega)])
theorem lk_put (l : BL) (h : OkP l) (i j : Int) (d : List UInt8) : lk (putL11 l i d) j = if j = i then some d else lk l j := by
  obtain ⟨h1, h2, h3⟩ := posF_parts l h i
  unfold putL11
  rw [lk_append, lk_append, lk_cons]
  by_cases hj : j = i
  · subst hj
    rw [if_pos rfl, if_pos rfl, lk_none _ j (fun x hx => by have := h1 x hx; omega)]
    rfl
  · rw [if_neg hj, if_neg (fun e => hj e.symm), h3 j hj]
    show ((lk _ j).or none).or _ = _
    rw [Option.or_none]
theorem ok_put (l : BL) (h : OkP l) (i : Int) (d : List UInt8) (hi : 0 ≤ i ∧ i < 1024) (hd : d.length = 16) : OkP (putL11 l i d) := by
  obtain ⟨h1, h2, _⟩ := posF_parts l h i
  unfold putL11
  refine ⟨?_, ?_⟩
  · rw [List.pairwise_append, List.pairwise_append]
    refine ⟨⟨h.pw.sublist (List.take_sublist _ _), List.pairwise_singleton _ _, fun x hx y hy => by simp at hy; subst hy; exact h1 x hx⟩, h.pw.sublist (List.drop_sublist _ _), fun x hx y hy => ?_⟩
    have := h2 y hy
    rcases List.mem_append.1 hx with hx | hx
    · have := h1 x hx; omega
    · simp at hx; subst hx; exact this
  · intro x hx
    rcases List.mem_append.1 hx with hx | hx
    · rcases List.mem_append.1 hx with hx | hx
      · exact h.bd x (List.mem_of_mem_take hx)
      · simp at hx; subst hx; exact ⟨hi.1, hi.2, hd⟩
    · exact h.bd x (List.mem_of_mem_drop hx)
theorem ok_free (l : BL) (h : OkP l) (i c : Int) : OkP (freeL l i c) := ⟨h.pw.sublist List.filter_sublist, fun x hx => h.bd x (List.mem_filter.1 hx).1⟩
theorem lk_free (l : BL) (i c j : Int) : lk (freeL l i c) j = if i ≤ j ∧ j < i + c then none else lk l j := by
  unfold freeL
  induction l with
  | nil => simp [lk]
  | cons x r ih =>
    by_cases hx : inB i c x = true
    · rw [List.filter_cons_of_neg (by simp [hx]), ih, lk_cons]
      unfold inB at hx
      simp only [Bool.and_eq_true, decide_eq_true_eq] at hx
      by_cases hj : x.1 = j
      · rw [if_pos (by omega), if_pos (by omega)]
      · rw [if_neg hj]
    · rw [List.filter_cons_of_pos (by simpa using hx), lk_cons, ih, lk_cons]
      unfold inB at hx
      simp only [Bool.and_eq_true, decide_eq_true_eq] at hx
      by_cases hj : x.1 = j
      · rw [if_pos hj, if_pos hj, if_neg (by omega)]
      · rw [if_neg hj, if_neg hj]

/-! ### applying -/
abbrev RE := Int × Int × Int × List UInt8
def apStep (l : BL) (r : RE) : BL := if r.1 = 2 then putL11 l r.2.1 r.2.2.2 else freeL l r.2.1 r.2.2.1
def lastOf (r : RE) : Int := if r.1 = 2 then r.2.1 else r.2.1 + r.2.2.1 - 1
def ValidR (r : RE) : Prop := (r.1 = 2 ∧ 0 ≤ r.2.1 ∧ r.2.1 < 1024 ∧ r.2.2.2.length = 16) ∨ (r.1 = 3 ∧ 0 ≤ r.2.1 ∧ r.2.1 < 1024 ∧ 1 ≤ r.2.2.1 ∧ r.2.2.1 ≤ 1024 - r.2.1)
theorem ok_step (l : BL) (h : OkP l) (r : RE) (hr : ValidR r) : OkP (apStep l r) := by
  unfold apStep
  rcases hr with ⟨h1, h2, h3, h4⟩ | ⟨h1, _⟩
  · rw [if_pos h1]; exact ok_put l h _ _ ⟨h2, h3⟩ h4
  · rw [if_neg (by omega)]; exact ok_free l h _ _
theorem ok_steps (o : RL) (l : BL) (h : OkP l) (ho : ∀ r ∈ o, ValidR r) : OkP (o.foldl apStep l) := by
  induction o generalizing l with
  | nil => exact h
  | cons r o ih => exact ih (apStep l r) (ok_step l h r (ho r (by simp))) (fun q hq => ho q (List.mem_cons_of_mem _ hq))
/-- what stands when the indexes below k have been looked at -/
structure ApI (a b : BL) (k : Int) (o : RL) (run : Bool) : Prop where
  val : ∀ r ∈ o, ValidR r
  asc : o.Pairwise fun r q => lastOf r < q.2.1
  lst : ∀ r ∈ o, lastOf r < k
  run_ : run = true → ∃ o' r, o = o' ++ [r] ∧ r.1 = 3 ∧ r.2.1 + r.2.2.1 = k
  look : ∀ j, lk (o.foldl apStep a) j = if j < k then lk b j else lk a j
  none_ : o = [] → ∀ j, j < k → lk a j = lk b j
theorem lk_out (l : BL) (h : OkP l) (j : Int) (hj : j < 0 ∨ 1024 ≤ j) : lk l j = none := lk_none l j (fun x hx => by have := h.bd x hx; omega)
theorem lk_len (l : BL) (h : OkP l) (j : Int) (d : List UInt8) (hd : lk l j = some d) : d.length = 16 := by
  unfold lk at hd
  rw [Option.map_eq_some_iff] at hd
  obtain ⟨x, hx, rfl⟩ := hd
  exact (h.bd x (List.mem_of_find?_eq_some hx)).2.2
theorem ApI.push {a b : BL} {k : Int} {o : RL} {run : Bool} (h : ApI a b k o run) (ha : OkP a) (r : RE) (hr : ValidR r) (hk : r.2.1 = k) (hl : lastOf r = k) (hlk : ∀ l, OkP l → ∀ j, lk (apStep l r) j = if j = k then lk b k else lk l j) (g : Bool) (hg : g = true → r.1 = 3 ∧ r.2.1 + r.2.2.1 = k + 1) : ApI a b (k + 1) (o ++ [r]) g := by
  refine ⟨?_, ?_, ?_, ?_, ?_, fun e => by simp at e⟩
  · intro q hq
    rcases List.mem_append.1 hq with hq | hq
    · exact h.val q hq
    · simp at hq; subst hq; exact hr
  · rw [List.pairwise_append]
    exact ⟨h.asc, List.pairwise_singleton _ _, fun x hx y hy => by simp at hy; subst hy; have := h.lst x hx; omega⟩
  · intro q hq
    rcases List.mem_append.1 hq with hq | hq
    · have := h.lst q hq; omega
    · simp at hq; subst hq; omega
  · intro e
    exact ⟨o, r, rfl, hg e⟩
  · intro j
    rw [List.foldl_append]
    show lk (apStep (o.foldl apStep a) r) j = _
    rw [hlk _ (ok_steps o a ha h.val) j, h.look j]
    by_cases hj : j = k
    · subst hj; rw [if_pos rfl, if_pos (by omega)]
    · rw [if_neg hj]
      by_cases h1 : j < k
      · rw [if_pos h1, if_pos (by omega)]
      · rw [if_neg h1, if_neg (by omega)]
theorem ApI.step {a b : BL} {k : Int} {o : RL} {run : Bool} (h : ApI a b k o run) (ha : OkP a) (hb : OkP b) (hk : 0 ≤ k ∧ k < 1024) : ApI a b (k + 1) (refStep a b k (o, run)).1 (refStep a b k (o, run)).2 := by
  unfold refStep
  simp only [hasL_lk, getL_lk]
  cases hA : lk a k with
  | none =>
    cases hB : lk b k with
    | none =>
      simp only [Option.isSome_none, Bool.not_false, Bool.and_true, Bool.false_and, Bool.false_eq_true, if_false]
      refine ⟨h.val, h.asc, fun r hr => by have := h.lst r hr; omega, (fun e => by cases e), fun j => ?_, fun e j hj => ?_⟩
      · rw [h.look j]
        by_cases hj : j = k
        · subst hj; rw [if_neg (by omega), if_pos (by omega), hA, hB]
        · by_cases h1 : j < k
          · rw [if_pos h1, if_pos (by omega)]
          · rw [if_neg h1, if_neg (by omega)]
      · by_cases h1 : j = k
        · subst h1; rw [hA, hB]
        · exact h.none_ e j (by omega)
    | some y =>
      simp only [Option.isSome_none, Option.isSome_some, Bool.not_true, Bool.not_false, Bool.and_false, Bool.false_and, Bool.true_or, Bool.and_true, Bool.false_eq_true, if_false, if_true, Option.getD_some]
      refine h.push ha (2, k, 0, y) (.inl ⟨rfl, hk.1, hk.2, lk_len b hb k y hB⟩) rfl rfl (fun l hl j => ?_) false (fun e => by cases e)
      show lk (putL11 l k y) j = _
      rw [lk_put l hl, hB]
  | some x =>
    cases hB : lk b k with
    | none =>
      simp only [Option.isSome_none, Option.isSome_some, Bool.not_true, Bool.not_false, Bool.and_true, Bool.true_and, if_true]
      cases run with
      | false =>
        simp only [Bool.false_eq_true, if_false]
        refine h.push ha (3, k, 1, []) (.inr ⟨rfl, hk.1, hk.2, by show (1 : Int) ≤ 1; omega, by show (1 : Int) ≤ 1024 - k; omega⟩) rfl (by show k + 1 - 1 = k; omega) (fun l hl j => ?_) true (fun _ => ⟨rfl, rfl⟩)
        show lk (freeL l k 1) j = _
        rw [lk_free, hB]
        by_cases hj : j = k
        · rw [if_pos (by omega), if_pos hj]
        · rw [if_neg (by omega), if_neg hj]
      | true =>
        obtain ⟨o', r, rfl, hr3, hre⟩ := h.run_ rfl
        have hbump : bumpR (o' ++ [r]) = o' ++ [(r.1, r.2.1, r.2.2.1 + 1, r.2.2.2)] := by unfold bumpR; simp
        simp only [if_true, hbump]
        have hv := h.val r (by simp)
        have hvr : 0 ≤ r.2.1 ∧ r.2.1 < 1024 ∧ 1 ≤ r.2.2.1 := by
          rcases hv with ⟨e, _⟩ | ⟨_, e1, e2, e3, _⟩
          · omega
          · exact ⟨e1, e2, e3⟩
        have hasc := List.pairwise_append.1 h.asc
        refine ⟨?_, ?_, ?_, ?_, ?_, fun e => by simp at e⟩
        · intro q hq
          rcases List.mem_append.1 hq with hq | hq
          · exact h.val q (List.mem_append_left _ hq)
          · simp at hq; subst hq
            exact .inr ⟨hr3, hvr.1, hvr.2.1, by show 1 ≤ r.2.2.1 + 1; omega, by show r.2.2.1 + 1 ≤ 1024 - r.2.1; omega⟩
        · rw [List.pairwise_append]
          exact ⟨hasc.1, List.pairwise_singleton _ _, fun x hx y hy => by simp at hy; subst hy; exact hasc.2.2 x hx r (by simp)⟩
        · intro q hq
          rcases List.mem_append.1 hq with hq | hq
          · have := h.lst q (List.mem_append_left _ hq); omega
          · simp at hq; subst hq
            unfold lastOf
            rw [if_neg (by show ¬ r.1 = 2; omega)]
            show r.2.1 + (r.2.2.1 + 1) - 1 < k + 1
            omega
        · intro _
          exact ⟨o', _, rfl, hr3, by show r.2.1 + (r.2.2.1 + 1) = k + 1; omega⟩
        · intro j
          have hlook := h.look j
          rw [List.foldl_append] at hlook ⊢
          have hlook : lk (apStep (o'.foldl apStep a) r) j = _ := hlook
          show lk (apStep (o'.foldl apStep a) _) j = _
          unfold apStep at hlook ⊢
          rw [if_neg (by omega)] at hlook
          rw [if_neg (by show ¬ r.1 = 2; omega)]
          rw [lk_free] at hlook ⊢
          show (if r.2.1 ≤ j ∧ j < r.2.1 + (r.2.2.1 + 1) then none else _) = _
          by_cases hj : j = k
          · subst hj
            rw [if_pos (by omega), if_pos (by omega), hB]
          · by_cases h1 : j < k
            · rw [if_pos h1] at hlook
              rw [if_pos (show j < k + 1 by omega), ← hlook]
              by_cases h2 : r.2.1 ≤ j
              · rw [if_pos (by omega), if_pos (by omega)]
              · rw [if_neg (by omega), if_neg (by omega)]
            · rw [if_neg h1] at hlook
              rw [if_neg (show ¬ j < k + 1 by omega), ← hlook, if_neg (by omega), if_neg (by omega)]
    | some y =>
      simp only [Option.isSome_some, Bool.not_true, Bool.and_false, Bool.false_and, Bool.false_or, Bool.true_and, Bool.false_eq_true, if_false, Option.getD_some]
      by_cases hxy : x = y
      · subst hxy
        rw [if_neg (by simp)]
        refine ⟨h.val, h.asc, fun r hr => by have := h.lst r hr; omega, (fun e => by cases e), fun j => ?_, fun e j hj => ?_⟩
        · rw [h.look j]
          by_cases hj : j = k
          · subst hj; rw [if_neg (by omega), if_pos (by omega), hA, hB]
          · by_cases h1 : j < k
            · rw [if_pos h1, if_pos (by omega)]
            · rw [if_neg h1, if_neg (by omega)]
        · by_cases h1 : j = k
          · subst h1; rw [hA, hB]
          · exact h.none_ e j (by omega)
      · rw [if_pos (by simpa using hxy)]
        refine h.push ha (2, k, 0, y) (.inl ⟨rfl, hk.1, hk.2, lk_len b hb k y hB⟩) rfl rfl (fun l hl j => ?_) false (fun e => by cases e)
        show lk (putL11 l k y) j = _
        rw [lk_put l hl, hB]
theorem ApI.run {a b : BL} (ha : OkP a) (hb : OkP b) (m : Nat) : ∀ (k : Int) (o : RL) (run : Bool), 0 ≤ k → k + m = 1024 → ApI a b k o run → ApI a b 1024 (runFrom a b m k (o, run)).1 (runFrom a b m k (o, run)).2 := by
  induction m with
  | zero => intro k o run _ hk h; have : k = 1024 := by omega
            subst this; exact h
  | succ m ih =>
    intro k o run h0 hk h
    have := h.step ha hb ⟨h0, by omega⟩
    exact ih (k + 1) (refStep a b k (o, run)).1 (refStep a b k (o, run)).2 (by omega) (by omega) this
theorem run_same (a : BL) (m : Nat) : ∀ (k : Int) (o : RL) (run : Bool), (runFrom a a m k (o, run)).1 = o := by
  induction m with
  | zero => intro k o run; rfl
  | succ m ih =>
    intro k o run
    show (runFrom a a m (k + 1) (refStep a a k (o, run))).1 = o
    have : refStep a a k (o, run) = (o, false) := by
      unfold refStep
      cases hasL a k <;> simp
    rw [this]
    exact ih _ _ _
/-- THE LAW -/
theorem apply_law (a b : BL) (ha : okL a = true) (hb : okL b = true) :
    let o := (diffGo a b ([], -2)).1
    (∀ r ∈ o, ValidR r) ∧ o.Pairwise (fun r q => lastOf r < q.2.1) ∧ o.foldl apStep a = b ∧ ((o = []) ↔ a = b) := by
  intro o
  have hA := OkP.of a ha
  have hB := OkP.of b hb
  have ho : o = (runFrom a b 1024 0 ([], false)).1 := diff_ref a b ha hb
  have h0 : ApI a b 0 [] false := by
    refine ⟨(fun r h => by cases h), List.Pairwise.nil, (fun r h => by cases h), (fun e => by cases e), fun j => ?_, fun _ j hj => ?_⟩
    · show lk a j = _
      by_cases hj : j < 0
      · rw [if_pos hj, lk_out a hA j (.inl hj), lk_out b hB j (.inl hj)]
      · rw [if_neg hj]
    · rw [lk_out a hA j (.inl hj), lk_out b hB j (.inl hj)]
  have h := ApI.run hA hB 1024 0 [] false (Int.le_refl _) (by omega) h0
  rw [← ho] at h
  refine ⟨h.val, h.asc, ?_, ?_, ?_⟩
  · refine OkP.ext (ok_steps o a hA h.val) hB (fun j => ?_)
    rw [h.look j]
    by_cases hj : j < 1024
    · rw [if_pos hj]
    · rw [if_neg hj, lk_out a hA j (.inr (by omega)), lk_out b hB j (.inr (by omega))]
  · intro e
    refine OkP.ext hA hB (fun j => ?_)
    by_cases hj : j < 1024
    · exact h.none_ e j hj
    · rw [lk_out a hA j (.inr (by omega)), lk_out b hB j (.inr (by omega))]
  · intro e
    subst e
    rw [ho]
    exact run_same a 1024 0 [] false
end Go.Proofs.Ytcbeadldieeceaa

/-
  Lists of records in memory; the two steps of blocks.Diff, by their contracts.
-/
namespace Go.Proofs.Ytcbeadldieeceaa
open Go.RowKit

def encR (r : Int × Int × Int × List UInt8) : List Value := [.int .i64 r.1, .string ByteArray.empty, .int .i64 0, .int .i64 0, .slice none 0 0, .int .i64 r.2.1, .int .i64 r.2.2.1, .string ⟨r.2.2.2.toArray⟩, .int .u64 0, .int .u64 0, .int .u64 0, .int .u64 0]
abbrev rcells (o : RL) : List Value := cellsK encR o
theorem rcells_one (o : RL) : ∀ u ∈ rcells o, u.oneCell' = true := by
  intro u hu
  simp only [cellsK, List.mem_flatMap, encR, List.mem_cons, List.not_mem_nil, or_false] at hu
  obtain ⟨x, _, hx⟩ := hu
  rcases hx with rfl | rfl | rfl | rfl | rfl | rfl | rfl | rfl | rfl | rfl | rfl | rfl <;> rfl
theorem encR_len (r : Int × Int × Int × List UInt8) : (encR r).length = 12 := rfl
theorem Try.infoR : (Try.prog.info? 47).map (fun i => (i.zero, i.size, i.bytes)) = some (some (.agg #[.int .i64 0, .string ByteArray.empty, .int .i64 0, .int .i64 0, .slice none 0 0, .int .i64 0, .int .i64 0, .string ByteArray.empty, .int .u64 0, .int .u64 0, .int .u64 0, .int .u64 0]), 12, 128) := by kernel_rfl
theorem bump_set (o : RL) (r : Int × Int × Int × List UInt8) (p : Nat) (hp : p = o.length) : (rcells (o ++ [r])).set (p * 12 + 6) (.int .i64 (r.2.2.1 + 1)) = rcells (o ++ [(r.1, r.2.1, r.2.2.1 + 1, r.2.2.2)]) := by
  subst hp
  unfold rcells
  rw [cellsK_append, cellsK_append, List.set_append_right _ _ (by rw [cellsK_length encR_len]; omega), cellsK_length encR_len, show o.length * 12 + 6 - o.length * 12 = 6 by omega, cellsK_one, cellsK_one]
  rfl
def DifPost (w : World) (g base : Nat) (s : RL × Int) (e : Ending) (w' : World) : Prop :=
  e = .returned (.tuple #[]) ∧ ∃ v', Blk w' g 95 #[v', .int .i64 s.2] ∧ w'.ownsRow base 47 12 v' s.1.length (rcells s.1) ∧ Below g w w'

set_option maxRecDepth 100000 in
set_option maxHeartbeats 2000000 in
theorem gone_any (o : RL) (last i : Int) (hi : 0 ≤ i ∧ i < 1024) (hl : -3 ≤ last ∧ last < 1024) (hc : ∀ r ∈ o, 0 ≤ r.2.2.1 ∧ r.2.2.1 ≤ 100000) (hon : o.length ≤ 100000) (g base : Nat) (v : Value) (w : World) (hblk : Blk w g 95 #[v, .int .i64 last]) (hown : w.ownsRow base 47 12 v o.length (rcells o)) (hb : g < base) (hbw : base ≤ w.heap.size) :
    Calls Try.prog 40 #[.pointer (some ⟨g, 0, none⟩), .int .i64 i] w (DifPost w g base (goneS (o, last) i)) := by
  obtain ⟨i0, hi0, hz0, hz1, hz2⟩ := info_parts Try.infoR
  obtain ⟨c0, c1, f0, f1⟩ := blk2 hblk
  have hw1 : IntKind.i64.wrap (i - 1) = i - 1 := IntWalk.i64_in _ (by omega)
  have hbl := hblk.lt
  obtain ⟨S, hS⟩ : ∃ S, S = goneS (o, last) i := ⟨_, rfl⟩
  rw [← hS]
  have HBLK := Lib.hid hblk
  by_cases hcond : lastIs3 o = true ∧ last = i - 1
  · obtain ⟨h3, hla⟩ := hcond
    rcases List.eq_nil_or_concat o with rfl | ⟨o', r, ho⟩
    · cases h3
    · rw [List.concat_eq_append] at ho
      subst ho
      rw [lastIs3_push] at h3
      have h3 : r.1 = 3 := by simpa using h3
      have hgs : S = (o' ++ [(r.1, r.2.1, r.2.2.1 + 1, r.2.2.2)], i) := by
        rw [hS]
        unfold goneS
        rw [if_pos ⟨by rw [lastIs3_push, h3]; rfl, hla⟩]
        unfold bumpR
        simp
      have hcr := hc r (by simp)
      obtain ⟨p, hp⟩ : ∃ p, p = o'.length := ⟨_, rfl⟩
      have hlen : (o' ++ [r]).length = p + 1 := by simp [hp]
      have hlen2 : (o' ++ [(r.1, r.2.1, r.2.2.1 + 1, r.2.2.2)]).length = p + 1 := by simp [hp]
      simp only [hlen] at hown hon
      rcases hown.2 with ⟨_, h0⟩ | ⟨rb, cap, cur, rfl, hbr, _, _, _, _, _⟩
      · omega
      · have hk := hown.cellAt (p * 12) (by omega)
        have hk6 := hown.cellAt (p * 12 + 6) (by omega)
        rw [show p * 12 = p * 12 + 0 by omega, cellsK_get encR_len (o' ++ [r]) p (by omega) 0 (by omega)] at hk
        rw [cellsK_get encR_len (o' ++ [r]) p (by omega) 6 (by omega)] at hk6
        simp only [hp, List.getElem_concat_length, encR, List.getElem?_cons_zero, List.getElem?_cons_succ, Nat.add_zero] at hk hk6
        rw [h3] at hk
        rw [← hp] at hk hk6
        have hf6 := hown.frozenAt (p * 12 + 6)
        have hst := Lib.hid (hown.stored (p * 12 + 6) (.int .i64 (r.2.2.1 + 1)))
        have hbs := Lib.hid (bump_set o' r p hp)
        have hrb : rb ≠ g := by omega
        obtain ⟨cn, hcn⟩ : ∃ cn, cn = r.2.2.1 := ⟨_, rfl⟩
        rw [← hcn] at hk6 hcr
        have hw2 : IntKind.i64.wrap (cn + 1) = cn + 1 := IntWalk.i64_in _ (by omega)
        have HCN := Lib.hid hcn
        have HGS := Lib.hid hgs
        have HL2 := Lib.hid hlen2
        obtain rfl : i - 1 = last := hla.symm
        clear hcn hp hlen hlen2 hgs hc hown hblk hS h3
        go_enter Try.func40, Try.ntmps40
        go_wp2_with fail
        go_end0
        rw [HGS.out]
        refine ⟨rfl, _, (HBLK.out.far (p := ⟨rb, p * 12 + 6, none⟩) (Ne.symm hrb) _).set_ 1 _, ?_, ((Below.refl g w).setCell (by show g ≤ rb; omega) _).setCell (Nat.le_refl _) _⟩
        rw [HL2.out, ← hbs.out, HCN.out]
        exact own_setCell_below (p := ⟨g, 1, none⟩) hst.out.1 hb _
  · have hgs : S = (o ++ [(3, i, 1, [])], i) := by
      rw [hS]
      unfold goneS
      rw [if_neg hcond]
    have HGS := Lib.hid hgs
    rcases List.eq_nil_or_concat o with rfl | ⟨o', r, ho⟩
    · obtain ⟨A, c, rfl, _, _, _⟩ := own_form hown
      have hown := Lib.hid hown
      clear hgs hS hcond hblk hc hon
      go_enter Try.func40, Try.ntmps40
      go_wp2_with (at_builtin; (refine wpList_push _ rfl (.tmp 48) (.tmp 51) 36 rfl base 47 i0 (.agg #[.int .i64 0, .string ByteArray.empty, .int .i64 0, .int .i64 0, .slice none 0 0, .int .i64 0, .int .i64 0, .string ByteArray.empty, .int .u64 0, .int .u64 0, .int .u64 0, .int .u64 0]) 12 128 Try.underlying36 hi0 hz0 hz1 hz2 rfl (by decide) (.slice A 0 c) 0 _ rfl hown.out 1 #[.int .i64 3, .string ByteArray.empty, .int .i64 0, .int .i64 0, .slice none 0 0, .int .i64 i, .int .i64 1, .string ByteArray.empty, .int .u64 0, .int .u64 0, .int .u64 0, .int .u64 0] 47 rfl rfl (by simp [Value.oneCell']) (by unfold maxLen; omega) (by omega) hbw ?_); intro v2 w2 hown2 hb2 hg2; obtain ⟨A2, cc2, rfl, _, _, _⟩ := own_form hown2; have hblk2 := Lib.hid (HBLK.out.below hb2 hb); obtain ⟨d0, d1, e0, e1⟩ := blk2 hblk2.out; have hown2' := Lib.hid hown2; clear hown2 c0 c1 f0 f1)
      go_end0
      rw [HGS.out]
      refine ⟨rfl, _, (hblk2.out.set_ 0 _).set_ 1 _, ?_, ((hb2.mono (Nat.le_of_lt hb)).setCell (Nat.le_refl _) _).setCell (Nat.le_refl _) _⟩
      have h1 := own_setCell_below (p := ⟨g, 1, none⟩) (own_setCell_below (p := ⟨g, 0, none⟩) hown2'.out hb (.slice A2 (0 + 1) cc2)) hb (.int .i64 i)
      exact h1
    · rw [List.concat_eq_append] at ho
      subst ho
      obtain ⟨p, hp⟩ : ∃ p, p = o'.length := ⟨_, rfl⟩
      have hlen : (o' ++ [r]).length = p + 1 := by simp [hp]
      simp only [hlen] at hown hon
      obtain ⟨A, c, rfl, hc1, hc2, _⟩ := own_form hown
      rcases hown.2 with ⟨_, h0⟩ | ⟨rb, cap, cur, hv, hbr, _, _, _, _, _⟩
      · omega
      · injection hv with e1 _ e2
        subst e1 e2
        have hk := hown.cellAt (p * 12) (by omega)
        rw [show p * 12 = p * 12 + 0 by omega, cellsK_get encR_len (o' ++ [r]) p (by omega) 0 (by omega)] at hk
        simp only [hp, List.getElem_concat_length, encR, List.getElem?_cons_zero, Nat.add_zero] at hk
        rw [← hp] at hk
        obtain ⟨kd, hkd⟩ : ∃ kd, kd = r.1 := ⟨_, rfl⟩
        rw [← hkd] at hk
        rw [lastIs3_push, ← hkd] at hcond
        have hl3 : (o' ++ [r] ++ [(3, i, 1, [])]).length = p + 1 + 1 := by simp [hp]
        have HL3 := Lib.hid hl3
        have hown := Lib.hid hown
        have hrb : rb ≠ g := by omega
        by_cases hk3 : kd = 3
        · have hne : ¬ last = i - 1 := fun e => hcond ⟨by simp [hk3], e⟩
          have hneb : (last == i - 1) = false := by simp [hne]
          subst hk3
          clear hgs hS hcond hblk hc hlen hp hkd hl3 hne
          go_enter Try.func40, Try.ntmps40
          go_wp2_with (at_builtin; (refine wpList_push _ rfl (.tmp 48) (.tmp 51) 36 rfl base 47 i0 (.agg #[.int .i64 0, .string ByteArray.empty, .int .i64 0, .int .i64 0, .slice none 0 0, .int .i64 0, .int .i64 0, .string ByteArray.empty, .int .u64 0, .int .u64 0, .int .u64 0, .int .u64 0]) 12 128 Try.underlying36 hi0 hz0 hz1 hz2 rfl (by decide) (.slice (some ⟨rb, 0, none⟩) (p + 1) c) (p + 1) _ rfl hown.out 1 #[.int .i64 3, .string ByteArray.empty, .int .i64 0, .int .i64 0, .slice none 0 0, .int .i64 i, .int .i64 1, .string ByteArray.empty, .int .u64 0, .int .u64 0, .int .u64 0, .int .u64 0] 47 rfl rfl (by simp [Value.oneCell']) (by unfold maxLen; omega) (by omega) hbw ?_); intro v2 w2 hown2 hb2 hg2; obtain ⟨A2, cc2, rfl, _, _, _⟩ := own_form hown2; have hblk2 := Lib.hid (HBLK.out.below hb2 hb); obtain ⟨d0, d1, e0, e1⟩ := blk2 hblk2.out; have hown2' := Lib.hid hown2; clear hown2 c0 c1 f0 f1)
          go_end0
          rw [HGS.out]
          refine ⟨rfl, _, (hblk2.out.set_ 0 _).set_ 1 _, ?_, ((hb2.mono (Nat.le_of_lt hb)).setCell (Nat.le_refl _) _).setCell (Nat.le_refl _) _⟩
          have h1 := own_setCell_below (p := ⟨g, 1, none⟩) (own_setCell_below (p := ⟨g, 0, none⟩) hown2'.out hb (.slice A2 ((p + 1) + 1) cc2)) hb (.int .i64 i)
          rw [HL3.out, show rcells (o' ++ [r] ++ [(3, i, 1, [])]) = rcells (o' ++ [r]) ++ rcells [(3, i, 1, [])] from cellsK_append _ _ _]
          exact h1
        · have hkb : (kd == 3) = false := by simp [hk3]
          clear hgs hS hcond hblk hc hlen hp hkd hl3
          go_enter Try.func40, Try.ntmps40
          go_wp2_with (at_builtin; (refine wpList_push _ rfl (.tmp 48) (.tmp 51) 36 rfl base 47 i0 (.agg #[.int .i64 0, .string ByteArray.empty, .int .i64 0, .int .i64 0, .slice none 0 0, .int .i64 0, .int .i64 0, .string ByteArray.empty, .int .u64 0, .int .u64 0, .int .u64 0, .int .u64 0]) 12 128 Try.underlying36 hi0 hz0 hz1 hz2 rfl (by decide) (.slice (some ⟨rb, 0, none⟩) (p + 1) c) (p + 1) _ rfl hown.out 1 #[.int .i64 3, .string ByteArray.empty, .int .i64 0, .int .i64 0, .slice none 0 0, .int .i64 i, .int .i64 1, .string ByteArray.empty, .int .u64 0, .int .u64 0, .int .u64 0, .int .u64 0] 47 rfl rfl (by simp [Value.oneCell']) (by unfold maxLen; omega) (by omega) hbw ?_); intro v2 w2 hown2 hb2 hg2; obtain ⟨A2, cc2, rfl, _, _, _⟩ := own_form hown2; have hblk2 := Lib.hid (HBLK.out.below hb2 hb); obtain ⟨d0, d1, e0, e1⟩ := blk2 hblk2.out; have hown2' := Lib.hid hown2; clear hown2 c0 c1 f0 f1)
          go_end0
          rw [HGS.out]
          refine ⟨rfl, _, (hblk2.out.set_ 0 _).set_ 1 _, ?_, ((hb2.mono (Nat.le_of_lt hb)).setCell (Nat.le_refl _) _).setCell (Nat.le_refl _) _⟩
          have h1 := own_setCell_below (p := ⟨g, 1, none⟩) (own_setCell_below (p := ⟨g, 0, none⟩) hown2'.out hb (.slice A2 ((p + 1) + 1) cc2)) hb (.int .i64 i)
          rw [HL3.out, show rcells (o' ++ [r] ++ [(3, i, 1, [])]) = rcells (o' ++ [r]) ++ rcells [(3, i, 1, [])] from cellsK_append _ _ _]
          exact h1

set_option maxRecDepth 100000 in
set_option maxHeartbeats 2000000 in
theorem dput_any (o : RL) (last i : Int) (xs : List UInt8) (hon : o.length ≤ 100000) (g base : Nat) (v : Value) (w : World) (hblk : Blk w g 95 #[v, .int .i64 last]) (hown : w.ownsRow base 47 12 v o.length (rcells o)) (hb : g < base) (hbw : base ≤ w.heap.size) :
    Calls Try.prog 41 #[.pointer (some ⟨g, 0, none⟩), .agg #[.int .i64 i, .string ⟨xs.toArray⟩]] w (DifPost w g base (putS (o, last) (i, xs))) := by
  obtain ⟨i0, hi0, hz0, hz1, hz2⟩ := info_parts Try.infoR
  obtain ⟨A, c, rfl, _, _, _⟩ := own_form hown
  obtain ⟨S, hS⟩ : ∃ S, S = putS (o, last) (i, xs) := ⟨_, rfl⟩
  rw [← hS]
  have hgs : S = (o ++ [(2, i, 0, xs)], last) := hS
  have HGS := Lib.hid hgs
  obtain ⟨n, hn⟩ : ∃ n, n = o.length := ⟨_, rfl⟩
  rw [← hn] at hown hblk hon
  have HN := Lib.hid hn
  have hnew := (Blk.new w 87 #[.int .i64 i, .string ⟨xs.toArray⟩]).cell
  obtain ⟨W0, hW0⟩ : ∃ W0, W0 = w.alloc (.cells #[.int .i64 i, .string ⟨xs.toArray⟩] 87) := ⟨_, rfl⟩
  have hs0 : W0.heap.size = w.heap.size + 1 := by rw [hW0]; simp
  have b0 : W0.cell? ⟨w.heap.size, 0, none⟩ = some (.int .i64 i) := by rw [hW0]; exact hnew 0
  have b1 : W0.cell? ⟨w.heap.size, 1, none⟩ = some (.string ⟨xs.toArray⟩) := by rw [hW0]; exact hnew 1
  have hblk0 : Blk W0 g 95 #[.slice A n c, .int .i64 last] := by rw [hW0]; exact hblk.alloc _
  have hown0 : W0.ownsRow base 47 12 (.slice A n c) n (rcells o) := by rw [hW0]; exact hown.alloc _
  have hbe0 : Below g w W0 := by rw [hW0]; exact (Below.refl _ _).alloc (by omega) _
  obtain ⟨c0, c1, f0, f1⟩ := blk2 hblk0
  obtain ⟨REC, hREC⟩ : ∃ REC : Array Value, REC = #[.int .i64 2, .string ⟨#[]⟩, .int .i64 0, .int .i64 0, .slice none 0 0, .int .i64 i, .int .i64 0, .string ⟨xs.toArray⟩, .int .u64 0, .int .u64 0, .int .u64 0, .int .u64 0] := ⟨_, rfl⟩
  obtain ⟨W1, hW1⟩ : ∃ W1, W1 = W0.alloc (.cells REC 47) := ⟨_, rfl⟩
  have hlt : g < W0.heap.size := by omega
  have d0 : W1.cell? ⟨g, 0, none⟩ = some (.slice A n c) := by rw [hW1]; exact (World.cell?_alloc_lt _ _ _ hlt).trans c0
  have hbw0 : w.heap.size < W0.heap.size := by omega
  have e0 : W1.cell? ⟨w.heap.size, 0, none⟩ = some (.int .i64 i) := by rw [hW1]; exact (World.cell?_alloc_lt _ _ _ hbw0).trans b0
  have e1 : W1.cell? ⟨w.heap.size, 1, none⟩ = some (.string ⟨xs.toArray⟩) := by rw [hW1]; exact (World.cell?_alloc_lt _ _ _ hbw0).trans b1
  have hown1 : W1.ownsRow base 47 12 (.slice A n c) n (rcells o) := by rw [hW1]; exact hown0.alloc _
  have hblk1 : Blk W1 g 95 #[.slice A n c, .int .i64 last] := by rw [hW1]; exact hblk0.alloc _
  have hr1 : Reads W1 (W0.heap.size + 1) 12 (some ⟨W0.heap.size, 0, none⟩) 1 REC.toList := by rw [hW1]; exact Reads.lit W0 REC _ (by rw [hREC]; rfl)
  have hbe1 : Below g w W1 := by rw [hW1]; exact hbe0.alloc (by omega) _
  have hs1 : base ≤ W1.drew.heap.size := by show base ≤ W1.heap.size; rw [hW1]; simp; omega
  have HW1 := Lib.hid hW1
  have HW0 := Lib.hid hW0
  have HREC := Lib.hid hREC
  have hs0i : w.heap.size < W0.heap.size := by omega
  have hr1 := hr1.drew
  have HOWN := Lib.hid (own_drew hown1)
  have HBLK := Lib.hid hblk1.drew
  have HBE := Lib.hid hbe1.drew
  have h1c : ∀ u ∈ REC.toList, u.oneCell' = true := by rw [hREC]; simp [Value.oneCell']
  have hq1 : n + 1 ≤ maxLen := by unfold maxLen; omega
  have hq2 : (n + 1) * 128 ≤ 140737488355328 := by omega
  subst hREC
  subst hW1
  clear HW1 HREC hs0
  clear hS hgs hn hW0 hown hblk hown0 hblk0 hbe0 hown1 hblk1 hbe1 hnew hlt hbw0
  go_enter Try.func41, Try.ntmps41
  go_wp2_with fail
  rw [← HW0.out]
  go_region_law (refine step_append_any _ rfl (.tmp 8) (.tmp 14) 36 rfl base 47 i0 _ 12 128 Try.underlying36 hi0 hz0 hz1 hz2 rfl (by omega) (.slice A n c) n (rcells o) ?hs HOWN.out _ (some ⟨W0.heap.size, 0, none⟩) 1 1 _ ?hx hr1 h1c hq1 hq2 hs1 ?_; (case hs => first | rfl | simp [Act.eval] | simp [Act.eval, Act.put]); (case hx => first | rfl | simp [Act.eval] | simp [Act.eval, Act.put]); intro v2 w2 hown2 hg2 _; have hne : some g ≠ (Value.slice A n c).ownBlock := (fun e => by have := (HOWN.out.lt _ e.symm).1; omega); have hblk2 := Lib.hid (HBLK.out.grown hg2 hne); have hbe2 := Lib.hid (HBE.out.grown hg2 (by have := HBE.out.size; omega) (fun k hk => by have := (HOWN.out.lt k hk).1; omega)); obtain ⟨A2, cc2, rfl, _, _, _⟩ := own_form hown2; obtain ⟨p0, p1, q0, q1⟩ := blk2 hblk2.out; have hown2' := Lib.hid hown2; clear hown2 hg2 hne d0 e0 e1 hr1 h1c)
  all_goals
    go_end0
    rw [HGS.out]
    refine ⟨rfl, _, hblk2.out.set_ 0 _, ?_, hbe2.out.setCell (Nat.le_refl _) _⟩
    have h1 := own_setCell_below (p := ⟨g, 0, none⟩) hown2'.out hb (.slice A2 (n + 1) cc2)
    have e1 : (o ++ [(2, i, 0, xs)]).length = n + 1 := by simp [HN.out]
    rw [e1, show rcells (o ++ [(2, i, 0, xs)]) = rcells o ++ rcells [(2, i, 0, xs)] from cellsK_append _ _ _]
    exact h1
end Go.Proofs.Ytcbeadldieeceaa
