/-
  Tenants: tags and snapshots, as the program and the page look at them.
-/
import Derived.Test.YtjdebhemoeojiaaDoorTenLaw
namespace Go.Proofs.YtjdebhemoeojiaaDoor
open Go.RowKit

/-- texts, none ahead of the one before it (slices.IsSorted) -/
def sortF : Option BS → List BS → Bool
  | _, [] => true
  | p, x :: l => (match p with | none => true | some q => !(Op.bytesLess x q)) && sortF (some x) l
theorem sortF_cons (p : Option BS) (x : BS) (l : List BS) : sortF p (x :: l) = ((match p with | none => true | some q => !(Op.bytesLess x q)) && sortF (some x) l) := by cases p <;> rfl
theorem ascF_cons (p : Option BS) (x : BS) (l : List BS) : ascF p (x :: l) = (nameB x && (match p with | none => true | some q => Op.bytesLess q x) && ascF (some x) l) := by cases p <;> rfl
theorem unlikeF_cons (acc : List BS) (x : BS) (l : List BS) : unlikeF acc (x :: l) = (nameB x && !(acc.contains x) && unlikeF (acc ++ [x]) l) := rfl
theorem bl_asym (a b : BS) (h : Op.bytesLess a b = true) : Op.bytesLess b a = false := by
  rw [← Bool.not_eq_true]
  intro h2
  have := bl_trans h h2
  rw [bl_irrefl] at this
  cases this
theorem tags_to (l : List BS) (acc : List BS) (p : Option BS) (hp : ∀ q, p = some q → q ∈ acc) (h1 : unlikeF acc l = true) (h2 : sortF p l = true) : ascF p l = true := by
  induction l generalizing acc p with
  | nil => rfl
  | cons x l ih =>
    rw [unlikeF_cons, Bool.and_eq_true, Bool.and_eq_true] at h1
    rw [sortF_cons, Bool.and_eq_true] at h2
    obtain ⟨⟨h3, h4⟩, h5⟩ := h1
    obtain ⟨h6, h7⟩ := h2
    rw [ascF_cons, h3, Bool.true_and, Bool.and_eq_true]
    refine ⟨?_, ih (acc ++ [x]) (some x) (fun q hq => by cases hq; simp) h5 h7⟩
    cases p with
    | none => rfl
    | some q =>
      simp only at h6 ⊢
      refine bl_tri x q (by simpa using h6) ?_
      rintro rfl
      have := hp x rfl
      simp [this] at h4
theorem tags_from (l : List BS) (acc : List BS) (p : Option BS) (hp : ∀ a ∈ acc, ∃ q, p = some q ∧ (a = q ∨ Op.bytesLess a q = true)) (h : ascF p l = true) : unlikeF acc l = true ∧ sortF p l = true := by
  induction l generalizing acc p with
  | nil => exact ⟨rfl, rfl⟩
  | cons x l ih =>
    rw [ascF_cons, Bool.and_eq_true, Bool.and_eq_true] at h
    obtain ⟨⟨h1, h2⟩, h3⟩ := h
    have hlt : ∀ a ∈ acc, Op.bytesLess a x = true := by
      intro a ha
      obtain ⟨q, rfl, hq⟩ := hp a ha
      simp only at h2
      rcases hq with rfl | hq
      · exact h2
      · exact bl_trans hq h2
    obtain ⟨i1, i2⟩ := ih (acc ++ [x]) (some x) (fun a ha => by
      rcases List.mem_append.1 ha with ha | ha
      · exact ⟨x, rfl, .inr (hlt a ha)⟩
      · exact ⟨x, rfl, .inl (by simpa using ha)⟩) h3
    rw [unlikeF_cons, sortF_cons, h1, i1, i2, Bool.and_true, Bool.and_true, Bool.true_and]
    constructor
    · rw [Bool.not_eq_true', ← Bool.not_eq_true, List.contains_iff_mem]
      intro hx
      have := hlt x hx
      rw [bl_irrefl] at this
      cases this
    · cases p with
      | none => rfl
      | some q => simp only at h2 ⊢; rw [bl_asym _ _ h2]; rfl
/-- as the program looks at tags -/
theorem tagged_eq (l : List BS) : (unlikeB l && sortF none l) = ascF none l := by
  rw [Bool.eq_iff_iff, Bool.and_eq_true]
  exact ⟨fun h => tags_to l [] none (fun q hq => by cases hq) h.1 h.2, fun h => tags_from l [] none (fun a ha => by cases ha) h⟩
/-- as the page looks at snapshots -/
def snapOk (x : SnapR) : Bool := amt x.gd 1 && okL x.body.l && propsB x.own.l && tagsB x.tags.l
def snapsRef : List BS → Option Int → List SnapR → Bool
  | _, _, [] => true
  | acc, p, x :: l => nameB x.nm && snapOk x && (match p with | none => true | some q => decide (q < x.gd)) && !(acc.contains x.nm) && snapsRef (acc ++ [x.nm]) (some x.gd) l
theorem snapsFrom_cons (p : Option Int) (x : SnapR) (l : List SnapR) : snapsFrom p (x :: l) = (snapOk x && (match p with | none => true | some q => decide (q < x.gd)) && snapsFrom (some x.gd) l) := by
  have : snapsFrom p (x :: l) = (amt x.gd 1 && (match p with | none => true | some q => decide (q < x.gd)) && okL x.body.l && propsB x.own.l && tagsB x.tags.l && snapsFrom (some x.gd) l) := by cases p <;> rfl
  rw [this]
  unfold snapOk
  generalize (match p with | none => true | some q => decide (q < x.gd)) = b
  cases amt x.gd 1 <;> cases b <;> cases okL x.body.l <;> cases propsB x.own.l <;> cases tagsB x.tags.l <;> rfl
theorem snapsRef_cons (acc : List BS) (p : Option Int) (x : SnapR) (l : List SnapR) : snapsRef acc p (x :: l) = (nameB x.nm && snapOk x && (match p with | none => true | some q => decide (q < x.gd)) && !(acc.contains x.nm) && snapsRef (acc ++ [x.nm]) (some x.gd) l) := by cases p <;> rfl
theorem snapsRef_eq (l : List SnapR) (acc : List BS) (p : Option Int) : snapsRef acc p l = (snapsFrom p l && unlikeF acc (l.map (·.nm))) := by
  induction l generalizing acc p with
  | nil => rfl
  | cons x l ih =>
    rw [snapsRef_cons, snapsFrom_cons, List.map_cons, unlikeF_cons, ih]
    generalize (match p with | none => true | some q => decide (q < x.gd)) = b
    cases nameB x.nm <;> cases snapOk x <;> cases b <;> cases acc.contains x.nm <;> cases snapsFrom (some x.gd) l <;> rfl
theorem snapsB_ref (l : List SnapR) : snapsB l = (decide (l.length ≤ 16) && snapsRef [] none l) := by
  rw [snapsRef_eq]
  unfold snapsB unlikeB
  rw [Bool.and_assoc]
end Go.Proofs.YtjdebhemoeojiaaDoor
