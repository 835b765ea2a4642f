/-
  The words of properties and of records: the part of the plain law that speaks of no octets.
-/
import Derived.Test.YteafdncnnamakaaGreatDoorSm
import Derived.Test.YteafdncnnamakaaGreatDoorNmLaw
import Derived.Test.YteafdncnnamakaaGreatDoorBase
namespace Go.Proofs.YteafdncnnamakaaGreatDoor
open Go.RowKit
abbrev BS := List UInt8
/-! ### Records -/
abbrev PL := List (BS × BS)
structure Rc where
  kind : Int
  nm : BS
  frm : Int
  gd : Int
  own : PL
  ix : Int
  ct : Int
  dt : BS
  sm : Sm
def Sm0 : Sm := ⟨0, 0, 0, 0⟩
def Rc0 : Rc := ⟨0, [], 0, 0, [], 0, 0, [], Sm0⟩
def valB (s : BS) : Bool := decide (s.length ≤ 32) && s.all fun c => decide (32 ≤ c) && decide (c ≤ 126)
def propsFrom : Option BS → PL → Bool
  | _, [] => true
  | p, x :: l => nameB x.1 && valB x.2 && (match p with | none => true | some q => Op.bytesLess q x.1) && propsFrom (some x.1) l
def propsB (l : PL) : Bool := decide (l.length ≤ 8) && propsFrom none l
def smZ (s : Sm) : Bool := decide (s.a = 0 ∧ s.b = 0 ∧ s.c = 0 ∧ s.d = 0)
theorem smZ_eq (s : Sm) (h : smZ s = true) : s = Sm0 := by
  obtain ⟨a, b, c, d⟩ := s
  obtain ⟨h1, h2, h3, h4⟩ := of_decide_eq_true h
  simp only at h1 h2 h3 h4
  subst h1 h2 h3 h4
  rfl
def amt (n : Int) (least : Int) : Bool := decide (least ≤ n) && decide (n ≤ 1099511627776)
def mayB (r : Rc) : Bool :=
  if r.kind = 1 then nameB r.nm && amt r.frm 0 && amt r.gd 1 && propsB r.own && decide (r.ix = 0) && decide (r.ct = 0) && decide (r.dt = []) && smZ r.sm
  else if r.kind = 2 then decide (0 ≤ r.ix ∧ r.ix < 1024) && decide (r.dt.length = 16) && decide (r.nm = []) && decide (r.frm = 0) && decide (r.gd = 0) && decide (r.own = []) && decide (r.ct = 0) && smZ r.sm
  else if r.kind = 3 then decide (0 ≤ r.ix ∧ r.ix < 1024) && decide (1 ≤ r.ct ∧ r.ct ≤ 1024 - r.ix) && decide (r.nm = []) && decide (r.frm = 0) && decide (r.gd = 0) && decide (r.own = []) && decide (r.dt = []) && smZ r.sm
  else decide (r.nm = []) && decide (r.frm = 0) && decide (r.gd = 0) && decide (r.own = []) && decide (r.ix = 0) && decide (r.ct = 0) && decide (r.dt = [])
def recE (r : Rc) : Int := if r.kind < 1 ∨ 4 < r.kind then 23 else if mayB r = true then 0 else 9
/-! ### A record that may be -/
theorem propsFrom_small (o : Option BS) (l : PL) (h : propsFrom o l = true) : ∀ x ∈ l, nameB x.1 = true ∧ valB x.2 = true := by
  induction l generalizing o with
  | nil => intro x hx; cases hx
  | cons y l ih =>
    unfold propsFrom at h
    simp only [Bool.and_eq_true] at h
    intro x hx
    rcases List.mem_cons.1 hx with rfl | hx
    · exact ⟨h.1.1.1, h.1.1.2⟩
    · exact ih _ h.2 x hx
theorem nameB_len (s : BS) (h : nameB s = true) : s.length ≤ 16 := by
  unfold nameB at h
  simp only [Bool.and_eq_true, decide_eq_true_eq] at h
  exact h.1.2
theorem valB_len (s : BS) (h : valB s = true) : s.length ≤ 32 := by
  unfold valB at h
  simp only [Bool.and_eq_true, decide_eq_true_eq] at h
  exact h.1
theorem recE_kind (r : Rc) (h : recE r = 0) : (r.kind = 1 ∨ r.kind = 2 ∨ r.kind = 3 ∨ r.kind = 4) ∧ mayB r = true := by
  unfold recE at h
  split at h
  · cases h
  · rename_i hk
    split at h
    · rename_i hm
      exact ⟨by omega, hm⟩
    · cases h
theorem mayB_1 (r : Rc) (hk : r.kind = 1) (h : mayB r = true) : nameB r.nm = true ∧ (0 ≤ r.frm ∧ r.frm ≤ 1099511627776) ∧ (1 ≤ r.gd ∧ r.gd ≤ 1099511627776) ∧ propsB r.own = true ∧ r.ix = 0 ∧ r.ct = 0 ∧ r.dt = [] ∧ r.sm = Sm0 := by
  unfold mayB amt at h
  rw [if_pos hk] at h
  simp only [Bool.and_eq_true, decide_eq_true_eq] at h
  obtain ⟨⟨⟨⟨⟨⟨⟨h1, h2⟩, h3⟩, h4⟩, h5⟩, h6⟩, h7⟩, h8⟩ := h
  exact ⟨h1, h2, h3, h4, h5, h6, h7, smZ_eq _ h8⟩
theorem mayB_2 (r : Rc) (hk : r.kind = 2) (h : mayB r = true) : (0 ≤ r.ix ∧ r.ix < 1024) ∧ r.dt.length = 16 ∧ r.nm = [] ∧ r.frm = 0 ∧ r.gd = 0 ∧ r.own = [] ∧ r.ct = 0 ∧ r.sm = Sm0 := by
  unfold mayB at h
  rw [if_neg (by omega), if_pos hk] at h
  simp only [Bool.and_eq_true, decide_eq_true_eq] at h
  obtain ⟨⟨⟨⟨⟨⟨⟨h1, h2⟩, h3⟩, h4⟩, h5⟩, h6⟩, h7⟩, h8⟩ := h
  exact ⟨h1, h2, h3, h4, h5, h6, h7, smZ_eq _ h8⟩
theorem mayB_3 (r : Rc) (hk : r.kind = 3) (h : mayB r = true) : (0 ≤ r.ix ∧ r.ix < 1024) ∧ (1 ≤ r.ct ∧ r.ct ≤ 1024 - r.ix) ∧ r.nm = [] ∧ r.frm = 0 ∧ r.gd = 0 ∧ r.own = [] ∧ r.dt = [] ∧ r.sm = Sm0 := by
  unfold mayB at h
  rw [if_neg (by omega), if_neg (by omega), if_pos hk] at h
  simp only [Bool.and_eq_true, decide_eq_true_eq] at h
  obtain ⟨⟨⟨⟨⟨⟨⟨h1, h2⟩, h3⟩, h4⟩, h5⟩, h6⟩, h7⟩, h8⟩ := h
  exact ⟨h1, h2, h3, h4, h5, h6, h7, smZ_eq _ h8⟩
theorem mayB_4 (r : Rc) (hk : r.kind = 4) (h : mayB r = true) : r.nm = [] ∧ r.frm = 0 ∧ r.gd = 0 ∧ r.own = [] ∧ r.ix = 0 ∧ r.ct = 0 ∧ r.dt = [] := by
  unfold mayB at h
  rw [if_neg (by omega), if_neg (by omega), if_neg (by omega)] at h
  simp only [Bool.and_eq_true, decide_eq_true_eq] at h
  obtain ⟨⟨⟨⟨⟨⟨h1, h2⟩, h3⟩, h4⟩, h5⟩, h6⟩, h7⟩ := h
  exact ⟨h1, h2, h3, h4, h5, h6, h7⟩
end Go.Proofs.YteafdncnnamakaaGreatDoor
