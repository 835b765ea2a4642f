/-
  Sessions: the plain law.
-/
import Derived.Test.YtjdebhemoeojiaaDoorCmpS
import Derived.Test.YtjdebhemoeojiaaDoorNmLaw
import Derived.Test.YtjdebhemoeojiaaDoorCells
namespace Go.Proofs.YtjdebhemoeojiaaDoor
open Go.RowKit

abbrev HadT := BS × Int
structure SesC where
  ten : BS
  hd : Int
  into : BS
  rest : BS
  bad : Bool
structure TabC where
  opn : List SesC
  had : List HadT
def seHad (l : List HadT) (t : BS) : Int := match l.find? (fun h => h.1 == t) with
  | none => 0
  | some h => h.2
def seAt (l : List SesC) (t i : BS) : Int := match l.find? (fun s => s.ten == t && s.into == i) with
  | none => 0
  | some s => s.hd
def seOf (l : List SesC) (t : BS) : List SesC := l.filter fun s => s.ten == t
def cmpI (x y : Int) : Int := if x < y then -1 else if x = y then 0 else 1
theorem cmpI_neg (x y : Int) : cmpI x y < 0 ↔ x < y := by
  unfold cmpI
  split
  · simp; omega
  · split <;> simp <;> omega
theorem cmpI_zero (x y : Int) : cmpI x y = 0 ↔ x = y := by
  unfold cmpI
  split
  · constructor
    · intro e; cases e
    · omega
  · split
    · simp; omega
    · constructor
      · intro e; cases e
      · omega
def cmpT (a : BS) (n : Int) (b : BS) (m : Int) : Int := if cmpS a b = 0 then cmpI n m else cmpS a b
theorem cmpT_neg (a b : BS) (n m : Int) : cmpT a n b m < 0 ↔ Op.bytesLess a b = true ∨ a = b ∧ n < m := by
  unfold cmpT
  by_cases h : cmpS a b = 0
  · rw [if_pos h, cmpI_neg]
    rw [cmpS_zero] at h
    subst h
    rw [bl_irrefl]
    simp
  · rw [if_neg h, cmpS_neg]
    rw [cmpS_zero] at h
    simp [h]
theorem cmpT_trans {a b c : BS} {n m k : Int} (h1 : cmpT a n b m < 0) (h2 : cmpT b m c k < 0) : cmpT a n c k < 0 := by
  rw [cmpT_neg] at *
  rcases h1 with h1 | ⟨rfl, h1⟩
  · rcases h2 with h2 | ⟨rfl, h2⟩
    · exact .inl (bl_trans h1 h2)
    · exact .inl h1
  · rcases h2 with h2 | ⟨rfl, h2⟩
    · exact .inl h2
    · exact .inr ⟨rfl, by omega⟩
/-! ### what may be -/
def hadFrom : Option BS → List HadT → Bool
  | _, [] => true
  | p, x :: l => nameB x.1 && decide (1 ≤ x.2) && decide (x.2 ≤ 1099511627776) && (match p with | none => true | some q => Op.bytesLess q x.1) && hadFrom (some x.1) l
def sesB (t : TabC) (s : SesC) : Bool := nameB s.ten && (!s.into.isEmpty && pathB s.into) && decide (s.rest.length ≤ 4096) && decide (1 ≤ s.hd) && decide (s.hd ≤ seHad t.had s.ten)
def oneB (t : TabC) (p : Option SesC) (s : SesC) : Bool :=
  sesB t s && (match p with | none => true | some q => decide (cmpT q.ten q.hd s.ten s.hd < 0)) && decide (seAt t.opn s.ten s.into = s.hd) && decide ((seOf t.opn s.ten).length ≤ 16)
def opnFrom (t : TabC) : Option SesC → List SesC → Bool
  | _, [] => true
  | p, x :: l => oneB t p x && opnFrom t (some x) l
def tabB (t : TabC) : Bool := hadFrom none t.had && opnFrom t none t.opn
def tabE (t : TabC) : Int := if tabB t = true then 0 else 9
theorem hadFrom_cons (p : Option BS) (x : HadT) (l : List HadT) : hadFrom p (x :: l) = (nameB x.1 && decide (1 ≤ x.2) && decide (x.2 ≤ 1099511627776) && (match p with | none => true | some q => Op.bytesLess q x.1) && hadFrom (some x.1) l) := by cases p <;> rfl
theorem opnFrom_cons (t : TabC) (p : Option SesC) (x : SesC) (l : List SesC) : opnFrom t p (x :: l) = (oneB t p x && opnFrom t (some x) l) := by cases p <;> rfl
def SortH (l : List HadT) : Prop := l.Pairwise fun x y => Op.bytesLess x.1 y.1 = true
def SortT (l : List SesC) : Prop := l.Pairwise fun x y => cmpT x.ten x.hd y.ten y.hd < 0
def hadOk (x : HadT) : Prop := nameB x.1 = true ∧ 1 ≤ x.2 ∧ x.2 ≤ 1099511627776
theorem hadFrom_iff (p : Option BS) (l : List HadT) : hadFrom p l = true ↔ (∀ x ∈ l, hadOk x) ∧ SortH l ∧ (∀ q, p = some q → ∀ x ∈ l, Op.bytesLess q x.1 = true) := by
  induction l generalizing p with
  | nil => simp [hadFrom, SortH]
  | cons y l ih =>
    rw [hadFrom_cons, Bool.and_eq_true, Bool.and_eq_true, Bool.and_eq_true, Bool.and_eq_true, ih, decide_eq_true_eq, decide_eq_true_eq]
    constructor
    · rintro ⟨⟨⟨⟨h1, h1'⟩, h1''⟩, h2⟩, h3, h4, h5⟩
      refine ⟨fun x hx => ?_, List.pairwise_cons.2 ⟨fun z hz => h5 y.1 rfl z hz, h4⟩, fun q hq x hx => ?_⟩
      · rcases List.mem_cons.1 hx with rfl | hx
        · exact ⟨h1, h1', h1''⟩
        · exact h3 x hx
      · subst hq
        rcases List.mem_cons.1 hx with rfl | hx
        · exact h2
        · exact bl_trans h2 (h5 y.1 rfl x hx)
    · rintro ⟨h1, h2, h3⟩
      obtain ⟨h4, h5⟩ := List.pairwise_cons.1 h2
      obtain ⟨a, b, c⟩ := h1 y (List.mem_cons_self ..)
      refine ⟨⟨⟨⟨a, b⟩, c⟩, ?_⟩, fun x hx => h1 x (List.mem_cons_of_mem _ hx), h5, fun q hq x hx => ?_⟩
      · cases p with
        | none => rfl
        | some q => exact h3 q rfl y (List.mem_cons_self ..)
      · cases hq
        exact h4 x hx
def sesOk (t : TabC) (s : SesC) : Prop := sesB t s = true ∧ seAt t.opn s.ten s.into = s.hd ∧ (seOf t.opn s.ten).length ≤ 16
theorem opnFrom_iff (t : TabC) (p : Option SesC) (l : List SesC) : opnFrom t p l = true ↔ (∀ x ∈ l, sesOk t x) ∧ SortT l ∧ (∀ q, p = some q → ∀ x ∈ l, cmpT q.ten q.hd x.ten x.hd < 0) := by
  induction l generalizing p with
  | nil => simp [opnFrom, SortT]
  | cons y l ih =>
    rw [opnFrom_cons]
    unfold oneB
    rw [Bool.and_eq_true, Bool.and_eq_true, Bool.and_eq_true, Bool.and_eq_true, ih, decide_eq_true_eq, decide_eq_true_eq]
    constructor
    · rintro ⟨⟨⟨⟨h1, h2⟩, h1'⟩, h1''⟩, h3, h4, h5⟩
      refine ⟨fun x hx => ?_, List.pairwise_cons.2 ⟨fun z hz => h5 y rfl z hz, h4⟩, fun q hq x hx => ?_⟩
      · rcases List.mem_cons.1 hx with rfl | hx
        · exact ⟨h1, h1', h1''⟩
        · exact h3 x hx
      · subst hq
        have h2 : cmpT q.ten q.hd y.ten y.hd < 0 := of_decide_eq_true h2
        rcases List.mem_cons.1 hx with rfl | hx
        · exact h2
        · exact cmpT_trans h2 (h5 y rfl x hx)
    · rintro ⟨h1, h2, h3⟩
      obtain ⟨h4, h5⟩ := List.pairwise_cons.1 h2
      obtain ⟨a, b, c⟩ := h1 y (List.mem_cons_self ..)
      refine ⟨⟨⟨⟨a, ?_⟩, b⟩, c⟩, fun x hx => h1 x (List.mem_cons_of_mem _ hx), h5, fun q hq x hx => ?_⟩
      · cases p with
        | none => rfl
        | some q => exact decide_eq_true (h3 q rfl y (List.mem_cons_self ..))
      · cases hq
        exact h4 x hx
structure TabOk (t : TabC) : Prop where
  had : ∀ x ∈ t.had, hadOk x
  sortH : SortH t.had
  opn : ∀ s ∈ t.opn, sesOk t s
  sortT : SortT t.opn
theorem tabB_iff (t : TabC) : tabB t = true ↔ TabOk t := by
  unfold tabB
  rw [Bool.and_eq_true, hadFrom_iff, opnFrom_iff]
  constructor
  · rintro ⟨⟨h1, h2, _⟩, h3, h4, _⟩
    exact ⟨h1, h2, h3, h4⟩
  · rintro ⟨h1, h2, h3, h4⟩
    exact ⟨⟨h1, h2, by simp⟩, h3, h4, by simp⟩
theorem tabE_zero (t : TabC) : tabE t = 0 ↔ TabOk t := by
  rw [← tabB_iff]
  unfold tabE
  split
  · simp_all
  · simp_all
/-! ### the page's Check -/
def okPair (o s : SesC) : Bool := !(Op.bytesLess s.ten o.ten || (o.ten == s.ten && (decide (s.hd ≤ o.hd) || o.into == s.into)))
def rsesB (t : TabC) (s : SesC) : Bool := sesB t s && decide ((seOf t.opn s.ten).length ≤ 16)
def ropnFrom (t : TabC) : List SesC → List SesC → Bool
  | _, [] => true
  | acc, x :: l => rsesB t x && acc.all (fun o => okPair o x) && ropnFrom t (acc ++ [x]) l
def rtabB (t : TabC) : Bool := hadFrom none t.had && ropnFrom t [] t.opn
theorem ropnFrom_cons (t : TabC) (acc : List SesC) (x : SesC) (l : List SesC) : ropnFrom t acc (x :: l) = (rsesB t x && acc.all (fun o => okPair o x) && ropnFrom t (acc ++ [x]) l) := rfl
theorem ropnFrom_iff (t : TabC) (acc l : List SesC) : ropnFrom t acc l = true ↔ (∀ x ∈ l, rsesB t x = true) ∧ (∀ o ∈ acc, ∀ x ∈ l, okPair o x = true) ∧ l.Pairwise fun o x => okPair o x = true := by
  induction l generalizing acc with
  | nil => simp [ropnFrom]
  | cons y l ih =>
    rw [ropnFrom_cons, Bool.and_eq_true, Bool.and_eq_true, ih, List.all_eq_true]
    constructor
    · rintro ⟨⟨h1, h2⟩, h3, h4, h5⟩
      refine ⟨fun x hx => ?_, fun o ho x hx => ?_, List.pairwise_cons.2 ⟨fun x hx => h4 y (by simp) x hx, h5⟩⟩
      · rcases List.mem_cons.1 hx with rfl | hx
        · exact h1
        · exact h3 x hx
      · rcases List.mem_cons.1 hx with rfl | hx
        · exact h2 o ho
        · exact h4 o (by simp [ho]) x hx
    · rintro ⟨h1, h2, h3⟩
      obtain ⟨h4, h5⟩ := List.pairwise_cons.1 h3
      refine ⟨⟨h1 y (List.mem_cons_self ..), fun o ho => h2 o ho y (List.mem_cons_self ..)⟩, fun x hx => h1 x (List.mem_cons_of_mem _ hx), fun o ho x hx => ?_, h5⟩
      rcases List.mem_append.1 ho with ho | ho
      · exact h2 o ho x (List.mem_cons_of_mem _ hx)
      · rw [List.mem_singleton.1 ho]; exact h4 x hx
theorem okPair_iff (o s : SesC) : okPair o s = true ↔ cmpT o.ten o.hd s.ten s.hd < 0 ∧ (o.ten = s.ten → o.into ≠ s.into) := by
  unfold okPair
  rw [cmpT_neg]
  simp only [Bool.not_eq_true', Bool.or_eq_false_iff, Bool.and_eq_false_iff, beq_eq_false_iff_ne, decide_eq_false_iff_not]
  constructor
  · rintro ⟨h1, h2⟩
    by_cases e : o.ten = s.ten
    · rcases h2 with h2 | ⟨h2, h3⟩
      · exact absurd e h2
      · exact ⟨.inr ⟨e, by omega⟩, fun _ => h3⟩
    · refine ⟨.inl (bl_tri _ _ h1 (fun h => e h.symm)), fun h => absurd h e⟩
  · rintro ⟨h1, h2⟩
    rcases h1 with h1 | ⟨e, h1⟩
    · refine ⟨?_, .inl (bl_ne h1)⟩
      cases hq : Op.bytesLess s.ten o.ten with
      | false => rfl
      | true => have := bl_trans h1 hq; rw [bl_irrefl] at this; cases this
    · refine ⟨by rw [e]; exact bl_irrefl _, .inr ⟨by omega, h2 e⟩⟩
/-- who goes where is told just if no two of a tenant go to one place -/
theorem seAt_own (l : List SesC) (hs : SortT l) : (∀ s ∈ l, seAt l s.ten s.into = s.hd) ↔ l.Pairwise fun o x => o.ten = x.ten → o.into ≠ x.into := by
  induction l with
  | nil => simp
  | cons y l ih =>
    obtain ⟨h1, h2⟩ := List.pairwise_cons.1 hs
    have hc : ∀ s : SesC, seAt (y :: l) s.ten s.into = if y.ten = s.ten ∧ y.into = s.into then y.hd else seAt l s.ten s.into := by
      intro s
      unfold seAt
      rw [List.find?_cons]
      by_cases h : y.ten = s.ten ∧ y.into = s.into
      · rw [if_pos h]; simp [h.1, h.2]
      · rw [if_neg h]
        have : (y.ten == s.ten && y.into == s.into) = false := by rw [← Bool.not_eq_true, Bool.and_eq_true, beq_iff_eq, beq_iff_eq]; exact h
        rw [this]
    have hlt : ∀ s ∈ l, y.ten = s.ten → y.hd < s.hd := by
      intro s hs' e
      have := h1 s hs'
      rw [cmpT_neg] at this
      rcases this with this | ⟨_, this⟩
      · exact absurd e (bl_ne this)
      · exact this
    rw [List.pairwise_cons, ← ih h2]
    constructor
    · intro h
      have hne : ∀ s ∈ l, ¬ (y.ten = s.ten ∧ y.into = s.into) := by
        intro s hs' e
        have := h s (List.mem_cons_of_mem _ hs')
        rw [hc, if_pos e] at this
        have := hlt s hs' e.1
        omega
      refine ⟨fun s hs' e e2 => hne s hs' ⟨e, e2⟩, fun s hs' => ?_⟩
      have := h s (List.mem_cons_of_mem _ hs')
      rwa [hc, if_neg (hne s hs')] at this
    · rintro ⟨h3, h4⟩ s hs'
      rcases List.mem_cons.1 hs' with rfl | hs'
      · rw [hc, if_pos ⟨rfl, rfl⟩]
      · rw [hc, if_neg (fun e => h3 s hs' e.1 e.2)]
        exact h4 s hs'
theorem rtabB_iff (t : TabC) : rtabB t = true ↔ TabOk t := by
  unfold rtabB
  rw [Bool.and_eq_true, hadFrom_iff, ropnFrom_iff]
  have hpw : (t.opn.Pairwise fun o x => okPair o x = true) ↔ SortT t.opn ∧ t.opn.Pairwise fun o x => o.ten = x.ten → o.into ≠ x.into := by
    unfold SortT
    rw [← List.pairwise_and_iff]
    constructor
    · intro h; exact h.imp fun {a b} e => (okPair_iff a b).1 e
    · intro h; exact h.imp fun {a b} e => (okPair_iff a b).2 e
  rw [hpw]
  constructor
  · rintro ⟨⟨h1, h2, _⟩, h3, _, h4, h5⟩
    have h6 := (seAt_own _ h4).2 h5
    refine ⟨h1, h2, fun s hs => ?_, h4⟩
    have := h3 s hs
    unfold rsesB at this
    rw [Bool.and_eq_true, decide_eq_true_eq] at this
    exact ⟨this.1, h6 s hs, this.2⟩
  · rintro ⟨h1, h2, h3, h4⟩
    refine ⟨⟨h1, h2, by simp⟩, fun s hs => ?_, by simp, h4, (seAt_own _ h4).1 fun s hs => (h3 s hs).2.1⟩
    obtain ⟨a, _, c⟩ := h3 s hs
    unfold rsesB
    rw [Bool.and_eq_true, decide_eq_true_eq]
    exact ⟨a, c⟩
theorem rtabB_eq (t : TabC) : rtabB t = tabB t := by
  rw [Bool.eq_iff_iff, rtabB_iff, tabB_iff]
end Go.Proofs.YtjdebhemoeojiaaDoor
