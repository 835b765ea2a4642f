/-
  The plain law of contents' changes: going along two contents, and asking index by index, make the same records.
-/
import Derived.Test.YtfknlijbphoceaaBkPut
namespace Go.Proofs.Ytfknlijbphoceaa
open Go.RowKit

/-- a record of a change: kind, index, count, data -/
abbrev RL := List (Int × Int × Int × List UInt8)
def bumpR (o : RL) : RL := match o.getLast? with
  | some r => o.dropLast ++ [(r.1, r.2.1, r.2.2.1 + 1, r.2.2.2)]
  | none => o
def lastIs3 (o : RL) : Bool := match o.getLast? with
  | some r => r.1 == 3
  | none => false
def goneS (s : RL × Int) (i : Int) : RL × Int := (if lastIs3 s.1 = true ∧ s.2 = i - 1 then bumpR s.1 else s.1 ++ [(3, i, 1, [])], i)
def putS (s : RL × Int) (x : Int × List UInt8) : RL × Int := (s.1 ++ [(2, x.1, 0, x.2)], s.2)
def diffGo (a b : BL) (s : RL × Int) : RL × Int :=
  match a, b with
  | [], [] => s
  | x :: a', [] => diffGo a' [] (goneS s x.1)
  | [], y :: b' => diffGo [] b' (putS s y)
  | x :: a', y :: b' => if x.1 < y.1 then diffGo a' (y :: b') (goneS s x.1) else if y.1 < x.1 then diffGo (x :: a') b' (putS s y) else diffGo a' b' (if x = y then s else putS s y)
termination_by a.length + b.length

def refStep (a b : BL) (i : Int) (s : RL × Bool) : RL × Bool :=
  (if (hasL a i && !hasL b i) && s.2 then bumpR s.1 else if hasL a i && !hasL b i then s.1 ++ [(3, i, 1, [])]
    else if hasL b i && (!hasL a i || getL a i != getL b i) then s.1 ++ [(2, i, 0, getL b i)] else s.1, hasL a i && !hasL b i)
def runFrom (a b : BL) : Nat → Int → RL × Bool → RL × Bool
  | 0, _, s => s
  | m + 1, k, s => runFrom a b m (k + 1) (refStep a b k s)

theorem hasL_nil (j : Int) : hasL [] j = false := rfl
theorem hasL_cons (x : Int × List UInt8) (l : BL) (j : Int) : hasL (x :: l) j = (x.1 == j || hasL l j) := rfl
theorem getL_cons_eq (x : Int × List UInt8) (l : BL) : getL (x :: l) x.1 = x.2 := by simp [getL]
theorem getL_cons_ne (x : Int × List UInt8) (l : BL) (j : Int) (h : x.1 ≠ j) : getL (x :: l) j = getL l j := by
  unfold getL
  rw [List.find?_cons_of_neg (by simpa using h)]
theorem hasL_above (l : BL) (j : Int) (h : ∀ x ∈ l, j < x.1) : hasL l j = false := by
  unfold hasL
  rw [List.any_eq_false]
  intro x hx
  have := h x hx
  simp
  omega
theorem Asc.tail {x : Int × List UInt8} {l : BL} (h : Asc (x :: l)) : Asc l ∧ ∀ y ∈ l, x.1 < y.1 := by
  refine ⟨fun i j a b hij ha hb => h (i + 1) (j + 1) a b (by omega) (by simpa using ha) (by simpa using hb), fun y hy => ?_⟩
  obtain ⟨i, hi⟩ := List.mem_iff_getElem?.1 hy
  exact h 0 (i + 1) x y (by omega) rfl (by simpa using hi)
theorem lastIs3_push (o : RL) (r : Int × Int × Int × List UInt8) : lastIs3 (o ++ [r]) = (r.1 == 3) := by simp [lastIs3]
theorem lastIs3_bump (o : RL) (h : lastIs3 o = true) : lastIs3 (bumpR o) = true := by
  unfold lastIs3 at h
  unfold bumpR
  cases hl : o.getLast? with
  | none => rw [hl] at h; cases h
  | some r => rw [hl] at h; rw [lastIs3_push]; exact h

/-- what stands of a content from an index on -/
structure Rest (a la : BL) (k : Int) : Prop where
  asc : Asc la
  from_ : ∀ x ∈ la, k ≤ x.1 ∧ x.1 < 1024
  has : ∀ j, k ≤ j → hasL a j = hasL la j ∧ getL a j = getL la j
theorem Rest.next {a la : BL} {k : Int} (h : Rest a la k) (hn : ∀ x ∈ la, x.1 ≠ k) : Rest a la (k + 1) ∧ hasL a k = false :=
  ⟨⟨h.asc, fun x hx => ⟨by have := (h.from_ x hx).1; have := hn x hx; omega, (h.from_ x hx).2⟩, fun j hj => h.has j (by omega)⟩,
    by rw [(h.has k (Int.le_refl _)).1]; exact hasL_above la k (fun x hx => by have := (h.from_ x hx).1; have := hn x hx; omega)⟩
theorem Rest.take {a la : BL} {x : Int × List UInt8} {k : Int} (h : Rest a (x :: la) k) (hx : x.1 = k) : Rest a la (k + 1) ∧ hasL a k = true ∧ getL a k = x.2 := by
  have ht := h.asc.tail
  refine ⟨⟨ht.1, fun y hy => ⟨by have := ht.2 y hy; omega, (h.from_ y (List.mem_cons_of_mem _ hy)).2⟩, fun j hj => ?_⟩, ?_, ?_⟩
  · have := h.has j (by omega)
    rw [this.1, this.2, hasL_cons, getL_cons_ne _ _ _ (by omega)]
    simp
    intro e
    omega
  · rw [(h.has k (Int.le_refl _)).1, hasL_cons]; simp [hx]
  · rw [(h.has k (Int.le_refl _)).2]
    subst hx
    exact getL_cons_eq x la
theorem Rest.head_ne {a la : BL} {x : Int × List UInt8} {k : Int} (h : Rest a (x :: la) k) (hx : x.1 ≠ k) : ∀ y ∈ x :: la, y.1 ≠ k := by
  intro y hy
  rcases List.mem_cons.1 hy with rfl | hy
  · exact hx
  · have := h.asc.tail.2 y hy
    have := (h.from_ x (by simp)).1
    omega
def RunInv (o : RL) (last : Int) (run : Bool) (k : Int) : Prop := if run = true then last = k - 1 ∧ lastIs3 o = true else last < k - 1
theorem RunInv.le {o : RL} {last : Int} {run : Bool} {k : Int} (h : RunInv o last run k) : last ≤ k - 1 := by
  unfold RunInv at h
  split at h <;> omega
theorem goneS_run {o : RL} {last : Int} {run : Bool} {k : Int} (h : RunInv o last run k) : goneS (o, last) k = (if run = true then bumpR o else o ++ [(3, k, 1, [])], k) ∧ RunInv (if run = true then bumpR o else o ++ [(3, k, 1, [])]) k true (k + 1) := by
  unfold RunInv at h
  unfold goneS
  cases run with
  | true =>
    simp only [if_true] at h ⊢
    rw [if_pos ⟨h.2, h.1⟩]
    refine ⟨rfl, ?_⟩
    unfold RunInv
    rw [if_pos rfl]
    exact ⟨by omega, lastIs3_bump o h.2⟩
  | false =>
    simp only [Bool.false_eq_true, if_false] at h ⊢
    rw [if_neg (fun e => by have h2 : last = k - 1 := e.2; omega)]
    refine ⟨rfl, ?_⟩
    unfold RunInv
    rw [if_pos rfl]
    exact ⟨by omega, by rw [lastIs3_push]; rfl⟩
theorem diff_run (a b : BL) (m : Nat) : ∀ (k : Int) (la lb : BL) (o : RL) (last : Int) (run : Bool), k + m = 1024 → Rest a la k → Rest b lb k → RunInv o last run k →
    (diffGo la lb (o, last)).1 = (runFrom a b m k (o, run)).1 := by
  induction m with
  | zero =>
    intro k la lb o last run hk ha hb _
    have e1 : la = [] := by
      cases la with
      | nil => rfl
      | cons x r => have := ha.from_ x (by simp); omega
    have e2 : lb = [] := by
      cases lb with
      | nil => rfl
      | cons x r => have := hb.from_ x (by simp); omega
    subst e1 e2
    rw [diffGo]
    rfl
  | succ m ih =>
    intro k la lb o last run hk ha hb hR
    have hk' : k + 1 + (m : Int) = 1024 := by omega
    show _ = (runFrom a b m (k + 1) (refStep a b k (o, run))).1
    have hle := hR.le
    have skip : ∀ (la lb : BL) (o' : RL), Rest a la (k + 1) → Rest b lb (k + 1) → (hasL a k && !hasL b k) = false → (if hasL b k && (!hasL a k || getL a k != getL b k) then o ++ [(2, k, 0, getL b k)] else o) = o' →
        (diffGo la lb (o', last)).1 = (runFrom a b m (k + 1) (refStep a b k (o, run))).1 := by
      intro la lb o' h1 h2 hg ho
      have e : refStep a b k (o, run) = (o', false) := by
        unfold refStep
        rw [hg]
        simp only [Bool.false_and, Bool.false_eq_true, if_false]
        rw [ho]
      rw [e]
      exact ih (k + 1) la lb o' last false hk' h1 h2 (by unfold RunInv; rw [if_neg (by simp)]; omega)
    have gone : ∀ (la lb : BL), Rest a la (k + 1) → Rest b lb (k + 1) → hasL a k = true → hasL b k = false → (diffGo la lb (goneS (o, last) k)).1 = (runFrom a b m (k + 1) (refStep a b k (o, run))).1 := by
      intro la lb h1 h2 g1 g2
      obtain ⟨e1, e2⟩ := goneS_run hR
      have e : refStep a b k (o, run) = (if run = true then bumpR o else o ++ [(3, k, 1, [])], true) := by
        unfold refStep
        rw [g1, g2]
        cases run <;> simp
      rw [e, e1]
      exact ih (k + 1) la lb _ k true hk' h1 h2 e2
    cases la with
    | nil =>
      have a1 := ha.next (fun _ h => by cases h)
      cases lb with
      | nil =>
        have b1 := hb.next (fun _ h => by cases h)
        refine skip [] [] o a1.1 b1.1 (by rw [a1.2]; rfl) (by rw [b1.2]; rfl)
      | cons y lb =>
        by_cases hy : y.1 = k
        · have b1 := hb.take hy
          rw [diffGo]
          unfold putS
          refine skip [] lb _ a1.1 b1.1 (by rw [a1.2]; rfl) (by rw [b1.2.1, a1.2, b1.2.2, hy]; rfl)
        · have b1 := hb.next (hb.head_ne hy)
          exact skip [] (y :: lb) o a1.1 b1.1 (by rw [a1.2]; rfl) (by rw [b1.2]; rfl)
    | cons x la =>
      cases lb with
      | nil =>
        have b1 := hb.next (fun _ h => by cases h)
        by_cases hx : x.1 = k
        · have a1 := ha.take hx
          rw [diffGo, hx]
          exact gone la [] a1.1 b1.1 a1.2.1 b1.2
        · have a1 := ha.next (ha.head_ne hx)
          exact skip (x :: la) [] o a1.1 b1.1 (by rw [a1.2]; rfl) (by rw [b1.2]; rfl)
      | cons y lb =>
        have xk := (ha.from_ x (by simp)).1
        have yk := (hb.from_ y (by simp)).1
        by_cases hx : x.1 = k
        · have a1 := ha.take hx
          by_cases hy : y.1 = k
          · have b1 := hb.take hy
            rw [diffGo, if_neg (by omega), if_neg (by omega)]
            have hs : (if x = y then ((o, last) : RL × Int) else putS (o, last) y) = (if x = y then o else o ++ [(2, k, 0, y.2)], last) := by
              unfold putS
              by_cases e : x = y
              · rw [if_pos e, if_pos e]
              · rw [if_neg e, if_neg e, hy]
            rw [hs]
            refine skip la lb _ a1.1 b1.1 (by rw [a1.2.1, b1.2.1]; rfl) ?_
            rw [a1.2.1, b1.2.1, a1.2.2, b1.2.2]
            by_cases e : x = y
            · rw [if_pos e, e]; simp
            · have : x.2 ≠ y.2 := fun h => e (Prod.ext (by omega) h)
              rw [if_neg e]; simp [this]
          · have b1 := hb.next (hb.head_ne hy)
            rw [diffGo, if_pos (by omega), hx]
            exact gone la (y :: lb) a1.1 b1.1 a1.2.1 b1.2
        · have a1 := ha.next (ha.head_ne hx)
          by_cases hy : y.1 = k
          · have b1 := hb.take hy
            rw [diffGo, if_neg (by omega), if_pos (by omega)]
            unfold putS
            refine skip (x :: la) lb _ a1.1 b1.1 (by rw [a1.2]; rfl) (by rw [b1.2.1, a1.2, b1.2.2, hy]; rfl)
          · have b1 := hb.next (hb.head_ne hy)
            exact skip (x :: la) (y :: lb) o a1.1 b1.1 (by rw [a1.2]; rfl) (by rw [b1.2]; rfl)
theorem okFrom_bounds (p : Option Int) (l : BL) (h : okFrom p l = true) : ∀ x ∈ l, 0 ≤ x.1 ∧ x.1 < 1024 ∧ x.2.length = 16 := by
  induction l generalizing p with
  | nil => intro x hx; cases hx
  | cons z r ih =>
    simp only [okFrom, Bool.and_eq_true, decide_eq_true_eq] at h
    intro x hx
    rcases List.mem_cons.1 hx with rfl | hx
    · exact ⟨h.1.1.1.1, h.1.1.1.2, h.1.1.2⟩
    · exact ih _ h.2 x hx
theorem okL_rest (l : BL) (h : okL l = true) : Rest l l 0 := ⟨okL_asc l h, fun x hx => by have := okFrom_bounds none l h x hx; omega, fun _ _ => ⟨rfl, rfl⟩⟩
/-- both make the same -/
theorem diff_ref (a b : BL) (ha : okL a = true) (hb : okL b = true) : (diffGo a b ([], -2)).1 = (runFrom a b 1024 0 ([], false)).1 :=
  diff_run a b 1024 0 a b [] (-2) false (by omega) (okL_rest a ha) (okL_rest b hb) (by unfold RunInv; rw [if_neg (by simp)]; omega)
end Go.Proofs.Ytfknlijbphoceaa
