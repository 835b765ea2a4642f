/-
  Grants: the plain law.
-/
import Derived.Test.YteafdncnnamakaaGreatDoorCmpS
import Derived.Test.YteafdncnnamakaaGreatDoorCells
import Derived.Test.YteafdncnnamakaaGreatDoorNmLaw
namespace Go.Proofs.YteafdncnnamakaaGreatDoor
open Go.RowKit

abbrev GT := BS × BS × Int
abbrev GL := List GT
def cmpG (a b c d : BS) : Int := if cmpS a c = 0 then cmpS b d else cmpS a c
theorem cmpG_zero (a b c d : BS) : cmpG a b c d = 0 ↔ a = c ∧ b = d := by
  unfold cmpG
  by_cases h : cmpS a c = 0
  · rw [if_pos h, cmpS_zero]
    rw [cmpS_zero] at h
    exact ⟨fun e => ⟨h, e⟩, fun e => e.2⟩
  · rw [if_neg h]
    exact ⟨fun e => absurd e h, fun e => absurd ((cmpS_zero _ _).2 e.1) h⟩
theorem cmpG_neg (a b c d : BS) : cmpG a b c d < 0 ↔ Op.bytesLess a c = true ∨ a = c ∧ Op.bytesLess b d = true := by
  unfold cmpG
  by_cases h : cmpS a c = 0
  · rw [if_pos h, cmpS_neg]
    rw [cmpS_zero] at h
    subst h
    rw [bl_irrefl]
    simp
  · rw [if_neg h, cmpS_neg]
    rw [cmpS_zero] at h
    simp [h]
theorem cmpG_trans {a b c d e f : BS} (h1 : cmpG a b c d < 0) (h2 : cmpG c d e f < 0) : cmpG a b e f < 0 := by
  rw [cmpG_neg] at *
  rcases h1 with h1 | ⟨rfl, h1⟩
  · rcases h2 with h2 | ⟨rfl, h2⟩
    · exact .inl (bl_trans h1 h2)
    · exact .inl h1
  · rcases h2 with h2 | ⟨rfl, h2⟩
    · exact .inl h2
    · exact .inr ⟨rfl, bl_trans h1 h2⟩
theorem cmpG_irrefl (a b : BS) : ¬ cmpG a b a b < 0 := by rw [(cmpG_zero a b a b).2 ⟨rfl, rfl⟩]; omega
theorem cmpG_tri {a b c d : BS} (h1 : ¬ cmpG a b c d < 0) (h2 : ¬ (a = c ∧ b = d)) : cmpG c d a b < 0 := by
  rw [cmpG_neg] at *
  by_cases hac : a = c
  · subst hac
    refine .inr ⟨rfl, bl_tri b d ?_ (fun e => h2 ⟨rfl, e⟩)⟩
    rw [← Bool.not_eq_true]
    exact fun e => h1 (.inr ⟨rfl, e⟩)
  · refine .inl (bl_tri a c ?_ hac)
    rw [← Bool.not_eq_true]
    exact fun e => h1 (.inl e)
/-- the order at an element and a target -/
def cfG (u p : BS) : GT → Int := fun x => cmpG x.1 x.2.1 u p
def SortG (l : GL) : Prop := l.Pairwise fun x y => cmpG x.1 x.2.1 y.1 y.2.1 < 0
theorem cfG_asc (l : GL) (h : SortG l) (u p : BS) : SignAsc (cfG u p) l := by
  intro i j x y hij hx hy hlt
  obtain ⟨hi, hxi⟩ := List.getElem?_eq_some_iff.1 hx
  obtain ⟨hj, hyj⟩ := List.getElem?_eq_some_iff.1 hy
  have := List.pairwise_iff_getElem.1 h i j hi hj hij
  rw [hxi, hyj] at this
  exact cmpG_trans this hlt
def grantB (g : GT) : Bool := nameB g.1 && pathB g.2.1 && decide (1 ≤ g.2.2) && decide (g.2.2 ≤ 255)
def grantsFrom : Option GT → GL → Bool
  | _, [] => true
  | p, x :: l => grantB x && (match p with | none => true | some q => decide (cmpG q.1 q.2.1 x.1 x.2.1 < 0)) && grantsFrom (some x) l
def grantsB (l : GL) : Bool := decide (l.length ≤ 16) && grantsFrom none l
def grantsE (l : GL) : Int := if grantsB l = true then 0 else 9
theorem grantsFrom_cons (p : Option GT) (x : GT) (l : GL) : grantsFrom p (x :: l) = (grantB x && (match p with | none => true | some q => decide (cmpG q.1 q.2.1 x.1 x.2.1 < 0)) && grantsFrom (some x) l) := by
  cases p <;> rfl
theorem grantsFrom_iff (p : Option GT) (l : GL) : grantsFrom p l = true ↔ (∀ x ∈ l, grantB x = true) ∧ SortG l ∧ (∀ q, p = some q → ∀ x ∈ l, cmpG q.1 q.2.1 x.1 x.2.1 < 0) := by
  induction l generalizing p with
  | nil => simp [grantsFrom, SortG]
  | cons y l ih =>
    rw [grantsFrom_cons, Bool.and_eq_true, Bool.and_eq_true, ih]
    constructor
    · rintro ⟨⟨h1, h2⟩, h3, h4, h5⟩
      refine ⟨fun x hx => ?_, List.pairwise_cons.2 ⟨fun z hz => h5 y rfl z hz, h4⟩, fun q hq x hx => ?_⟩
      · rcases List.mem_cons.1 hx with rfl | hx
        · exact h1
        · exact h3 x hx
      · subst hq
        have h2 : cmpG q.1 q.2.1 y.1 y.2.1 < 0 := of_decide_eq_true h2
        rcases List.mem_cons.1 hx with rfl | hx
        · exact h2
        · exact cmpG_trans h2 (h5 y rfl x hx)
    · rintro ⟨h1, h2, h3⟩
      obtain ⟨h4, h5⟩ := List.pairwise_cons.1 h2
      refine ⟨⟨h1 y (List.mem_cons_self ..), ?_⟩, fun x hx => h1 x (List.mem_cons_of_mem _ hx), h5, fun q hq x hx => ?_⟩
      · cases p with
        | none => rfl
        | some q => exact decide_eq_true (h3 q rfl y (List.mem_cons_self ..))
      · cases hq
        exact h4 x hx
theorem grantsB_iff (l : GL) : grantsB l = true ↔ l.length ≤ 16 ∧ (∀ x ∈ l, grantB x = true) ∧ SortG l := by
  unfold grantsB
  rw [Bool.and_eq_true, decide_eq_true_eq, grantsFrom_iff]
  simp
/-- with an entry at a place: its rights, or none -/
def gAt (l : GL) (u p : BS) : Option Int := (l.find? fun x => x.1 == u && x.2.1 == p).map (·.2.2)
def dropG (l : GL) (u p : BS) : GL := l.filter fun x => !(x.1 == u && x.2.1 == p)
theorem sortG_parts (l : GL) (u p : BS) (h : SortG l) : (∀ x ∈ l.take (posF (cfG u p) l), cfG u p x < 0) ∧ (∀ x ∈ l.drop (posF (cfG u p) l), 0 ≤ cfG u p x) ∧ ∀ x ∈ l.drop (posF (cfG u p) l + 1), 0 < cfG u p x := by
  induction l with
  | nil => simp
  | cons y l ih =>
    obtain ⟨h1, h2⟩ := List.pairwise_cons.1 h
    rw [posF_cons]
    by_cases hn : cfG u p y < 0
    · obtain ⟨a, b, c⟩ := ih h2
      rw [if_pos hn]
      refine ⟨fun x hx => ?_, b, c⟩
      rw [List.take_succ_cons] at hx
      rcases List.mem_cons.1 hx with rfl | hx
      · exact hn
      · exact a x hx
    · rw [if_neg hn]
      have hall : ∀ x ∈ l, 0 < cfG u p x := by
        intro x hx
        have h3 := h1 x hx
        unfold cfG at hn ⊢
        have h4 : ¬ cmpG x.1 x.2.1 u p < 0 := fun e => hn (cmpG_trans h3 e)
        have h5 : ¬ cmpG x.1 x.2.1 u p = 0 := by
          intro e
          obtain ⟨e1, e2⟩ := (cmpG_zero _ _ _ _).1 e
          rw [e1, e2] at h3
          exact hn h3
        omega
      refine ⟨by simp, fun x hx => ?_, fun x hx => hall x (by simpa using hx)⟩
      rw [List.drop_zero] at hx
      rcases List.mem_cons.1 hx with rfl | hx
      · omega
      · have := hall x hx; omega
theorem atF_any (l : GL) (u p : BS) (h : SortG l) : atF (cfG u p) l = l.any fun x => x.1 == u && x.2.1 == p := by
  induction l with
  | nil => rfl
  | cons y l ih =>
    obtain ⟨h1, h2⟩ := List.pairwise_cons.1 h
    rw [atF_cons, List.any_cons, ih h2]
    by_cases hn : cfG u p y < 0
    · rw [if_pos hn]
      have : (y.1 == u && y.2.1 == p) = false := by
        rw [← Bool.not_eq_true, Bool.and_eq_true, beq_iff_eq, beq_iff_eq]
        intro e
        have := (cmpG_zero _ _ _ _).2 e
        unfold cfG at hn
        omega
      rw [this, Bool.false_or]
    · rw [if_neg hn]
      by_cases hz : y.1 = u ∧ y.2.1 = p
      · have e1 : (cfG u p y == 0) = true := by rw [beq_iff_eq]; exact (cmpG_zero _ _ _ _).2 hz
        rw [e1, hz.1, hz.2]
        simp
      · have e1 : (cfG u p y == 0) = false := by rw [beq_eq_false_iff_ne]; exact fun e => hz ((cmpG_zero _ _ _ _).1 e)
        have e2 : (y.1 == u && y.2.1 == p) = false := by rw [← Bool.not_eq_true, Bool.and_eq_true, beq_iff_eq, beq_iff_eq]; exact hz
        rw [e1, e2, Bool.false_or]
        symm
        rw [List.any_eq_false]
        intro x hx e
        rw [Bool.and_eq_true, beq_iff_eq, beq_iff_eq] at e
        have h3 := h1 x hx
        rw [e.1, e.2] at h3
        exact hn h3
end Go.Proofs.YteafdncnnamakaaGreatDoor
