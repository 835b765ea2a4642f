/-
  Grants: rights given, had, and taken away, in plain lists.
-/
import Derived.Test.YtodikfhaghpkhaaDoorPmLaw
namespace Go.Proofs.YtodikfhaghpkhaaDoor
open Go.RowKit

theorem bv_nat (a : Nat) (h : a < 18446744073709551616) : (BitVec.ofInt 64 (a : Int)).toNat = a := by
  rw [BitVec.ofInt_natCast, BitVec.toNat_ofNat]; omega
theorem wrapN (a : Nat) (h : a < 9223372036854775808) : IntKind.i64.wrap (a : Int) = (a : Int) := IntWalk.i64_in _ (by omega)
theorem or_nat (a b : Nat) (ha : a < 256) (hb : b < 256) : bits .or .i64 (a : Int) (b : Int) = ((a ||| b : Nat) : Int) ∧ a ||| b < 256 := by
  have h := Nat.or_lt_two_pow (n := 8) ha hb
  refine ⟨?_, h⟩
  show IntKind.i64.wrap ((BitVec.ofInt 64 (a : Int) ||| BitVec.ofInt 64 (b : Int)).toNat : Int) = _
  rw [BitVec.toNat_or, bv_nat a (by omega), bv_nat b (by omega), wrapN _ (by have : (2 : Nat) ^ 8 = 256 := rfl; omega)]
theorem andNot_self (a : Nat) (_ha : a < 256) : bits .andNot .i64 (a : Int) (a : Int) = 0 := by
  show IntKind.i64.wrap ((BitVec.ofInt 64 (a : Int) &&& ~~~ BitVec.ofInt 64 (a : Int)).toNat : Int) = _
  have : BitVec.ofInt 64 (a : Int) &&& ~~~ BitVec.ofInt 64 (a : Int) = 0#64 := by
    ext i
    simp
  rw [this]
  rfl
theorem and_all (a : Nat) (ha : a < 256) : bits .and .i64 255 (a : Int) = (a : Int) := by
  show IntKind.i64.wrap ((BitVec.ofInt 64 ((255 : Nat) : Int) &&& BitVec.ofInt 64 (a : Int)).toNat : Int) = _
  rw [BitVec.toNat_and, bv_nat a (by omega), bv_nat 255 (by omega)]
  have : 255 &&& a = a := by
    rw [Nat.and_comm, show 255 = 2 ^ 8 - 1 from rfl, Nat.and_two_pow_sub_one_eq_mod]
    exact Nat.mod_eq_of_lt ha
  rw [this, wrapN _ (by omega)]
def orL (l : List Nat) : Nat := l.foldr (fun a b => a ||| b) 0
theorem orL_append (a b : List Nat) : orL (a ++ b) = orL a ||| orL b := by
  induction a with
  | nil => simp [orL]
  | cons x a ih =>
    show x ||| orL (a ++ b) = (x ||| orL a) ||| orL b
    rw [ih, Nat.or_assoc]
theorem orL_lt (l : List Nat) (h : ∀ x ∈ l, x < 256) : orL l < 256 := by
  induction l with
  | nil => decide
  | cons x l ih => exact Nat.or_lt_two_pow (n := 8) (h x (List.mem_cons_self ..)) (ih fun y hy => h y (List.mem_cons_of_mem _ hy))
def hasG (u pl : BS) (g : GT) : Bool := g.1 == u && nameB u && underB pl g.2.1
def ofF (u pl : BS) (n : Int) (g : GT) : Int := if hasG u pl g = true then bits .or .i64 n g.2.2 else n
def ofG (l : GL) (u pl : BS) : Int := if u = [] then 255 else l.foldl (ofF u pl) 0
def fG (u pl : BS) (g : GT) : Nat := if hasG u pl g = true then g.2.2.toNat else 0
def okG (l : GL) : Prop := ∀ x ∈ l, 0 ≤ x.2.2 ∧ x.2.2 ≤ 255
theorem fG_lt (u pl : BS) (l : GL) (h : okG l) : ∀ x ∈ l.map (fG u pl), x < 256 := by
  intro x hx
  obtain ⟨g, hg, rfl⟩ := List.mem_map.1 hx
  have := h g hg
  unfold fG
  split <;> omega
theorem ofF_nat (u pl : BS) (l : GL) (h : okG l) (n : Nat) (hn : n < 256) : l.foldl (ofF u pl) (n : Int) = ((n ||| orL (l.map (fG u pl)) : Nat) : Int) := by
  induction l generalizing n with
  | nil => simp [orL]
  | cons g l ih =>
    have hg := h g (List.mem_cons_self ..)
    have h2 : okG l := fun x hx => h x (List.mem_cons_of_mem _ hx)
    rw [List.foldl_cons, List.map_cons]
    show _ = ((n ||| (fG u pl g ||| orL (l.map (fG u pl))) : Nat) : Int)
    unfold ofF fG
    by_cases hc : hasG u pl g = true
    · rw [if_pos hc, if_pos hc]
      obtain ⟨k, hk⟩ : ∃ k : Nat, g.2.2 = (k : Int) := ⟨g.2.2.toNat, by omega⟩
      rw [hk] at hg ⊢
      obtain ⟨h3, h4⟩ := or_nat n k hn (by omega)
      rw [h3, ← Nat.or_assoc]
      exact ih h2 _ h4
    · rw [if_neg hc, if_neg hc, Nat.zero_or]
      exact ih h2 n hn
theorem ofG_nat (l : GL) (u pl : BS) (h : okG l) (hu : u ≠ []) : ofG l u pl = ((orL (l.map (fG u pl)) : Nat) : Int) := by
  unfold ofG
  rw [if_neg hu]
  have := ofF_nat u pl l h 0 (by omega)
  rw [Nat.zero_or] at this
  exact this
theorem grantB_perm (g : GT) (h : grantB g = true) : 1 ≤ g.2.2 ∧ g.2.2 ≤ 255 := by
  unfold grantB at h
  simp only [Bool.and_eq_true, decide_eq_true_eq] at h
  exact ⟨h.1.2, h.2⟩
theorem okG_of (l : GL) (h : grantsB l = true) : okG l := by
  intro x hx
  have := grantB_perm x (((grantsB_iff l).1 h).2.1 x hx)
  omega

/-! ### Given -/
def oldP (l : GL) (k : Nat) : Int := ((l[k]?).map (·.2.2)).getD 0
/-- with rights at (u, p) -/
def allowL (l : GL) (u p : BS) (r : Int) : GL :=
  l.take (posF (cfG u p) l) ++ [if atF (cfG u p) l = true then (u, p, bits .or .i64 (oldP l (posF (cfG u p) l)) r) else (u, p, r)] ++ l.drop (posF (cfG u p) l + if atF (cfG u p) l = true then 1 else 0)
def rightE (l : GL) (u p : BS) (r : Int) : Int := if grantsB l = true then (if (nameB u && pathB p) = true then (if 1 ≤ r ∧ r ≤ 255 then 0 else 4) else 31) else 9
def allowE (l : GL) (u p : BS) (r : Int) : Int := if rightE l u p r = 0 then (if atF (cfG u p) l = false ∧ l.length = 16 then 3 else 0) else rightE l u p r
def denyL (l : GL) (u p : BS) (r : Int) : GL :=
  l.take (posF (cfG u p) l) ++ (if bits .andNot .i64 (oldP l (posF (cfG u p) l)) r = 0 then [] else [(u, p, bits .andNot .i64 (oldP l (posF (cfG u p) l)) r)]) ++ l.drop (posF (cfG u p) l + 1)
def denyE (l : GL) (u p : BS) (r : Int) : Int := if rightE l u p r = 0 then (if atF (cfG u p) l = true then 0 else 71) else rightE l u p r
theorem rightE_zero (l : GL) (u p : BS) (r : Int) (h : rightE l u p r = 0) : grantsB l = true ∧ nameB u = true ∧ pathB p = true ∧ 1 ≤ r ∧ r ≤ 255 := by
  unfold rightE at h
  split at h
  · rename_i h1
    split at h
    · rename_i h2
      rw [Bool.and_eq_true] at h2
      split at h
      · rename_i h3
        exact ⟨h1, h2.1, h2.2, h3⟩
      · cases h
    · cases h
  · cases h
theorem at_get (l : GL) (u p : BS) (h : atF (cfG u p) l = true) : ∃ g, l[posF (cfG u p) l]? = some g ∧ g.1 = u ∧ g.2.1 = p := by
  unfold atF at h
  cases hg : l[posF (cfG u p) l]? with
  | none => rw [hg] at h; cases h
  | some g =>
    rw [hg] at h
    have h2 : cfG u p g = 0 := by simpa using h
    obtain ⟨e1, e2⟩ := (cmpG_zero _ _ _ _).1 h2
    exact ⟨g, rfl, e1, e2⟩
theorem split_at {α : Type} (l : List α) (k : Nat) (g : α) (h : l[k]? = some g) : l = l.take k ++ [g] ++ l.drop (k + 1) := by
  obtain ⟨hlt, hg⟩ := List.getElem?_eq_some_iff.1 h
  conv => lhs; rw [← List.take_append_drop k l]
  rw [List.drop_eq_getElem_cons hlt, hg]
  simp
/-- what one has of grants with rights more -/
theorem allow_of (l : GL) (u p : BS) (r : Int) (h : rightE l u p r = 0) (o pl : BS) :
    ofG (allowL l u p r) o pl = if hasG o pl (u, p, r) = true then bits .or .i64 (ofG l o pl) r else ofG l o pl := by
  obtain ⟨hl, hu, hp, hr1, hr2⟩ := rightE_zero l u p r h
  have hok := okG_of l hl
  have hune : u ≠ [] := by rintro rfl; cases hu
  obtain ⟨k, rfl⟩ : ∃ k : Nat, r = (k : Int) := ⟨r.toNat, by omega⟩
  by_cases ho : o = []
  · subst ho
    have : hasG [] pl (u, p, (k : Int)) = false := by
      unfold hasG
      have : (u == ([] : BS)) = false := by simpa using hune
      simp [this]
    rw [if_neg (by rw [this]; simp)]
    rfl
  have hbd := orL_lt _ (fG_lt o pl l hok)
  rw [ofG_nat l o pl hok ho]
  have hokT : okG (l.take (posF (cfG u p) l)) := fun x hx => hok x (List.mem_of_mem_take hx)
  have hokD : ∀ j, okG (l.drop j) := fun j x hx => hok x (List.mem_of_mem_drop hx)
  unfold allowL
  by_cases hat : atF (cfG u p) l = true
  · obtain ⟨g, hg, e1, e2⟩ := at_get l u p hat
    rw [if_pos hat, if_pos hat]
    have hold : oldP l (posF (cfG u p) l) = g.2.2 := by unfold oldP; rw [hg]; rfl
    rw [hold]
    have hgm : g ∈ l := List.mem_of_getElem? hg
    have hgk := hok g hgm
    obtain ⟨j, hj⟩ : ∃ j : Nat, g.2.2 = (j : Int) := ⟨g.2.2.toNat, by omega⟩
    obtain ⟨o1, o2⟩ := or_nat j k (by omega) (by omega)
    rw [hj, o1]
    rw [ofG_nat _ o pl (by
      intro x hx
      rcases List.mem_append.1 hx with hx | hx
      · rcases List.mem_append.1 hx with hx | hx
        · exact hokT x hx
        · rw [List.mem_singleton] at hx
          subst hx
          simp only
          omega
      · exact hokD _ x hx) ho]
    have hl2 := congrArg (fun m => orL (m.map (fG o pl))) (split_at l _ g hg)
    simp only [List.map_append, orL_append] at hl2 ⊢
    have hh : hasG o pl g = hasG o pl (u, p, (k : Int)) := by unfold hasG; rw [e1, e2]
    have hh2 : hasG o pl (u, p, ((j ||| k : Nat) : Int)) = hasG o pl (u, p, (k : Int)) := rfl
    by_cases hc : hasG o pl (u, p, (k : Int)) = true
    · have f1 : orL ([g].map (fG o pl)) = j := by
        show fG o pl g ||| 0 = j
        unfold fG
        rw [if_pos (hh.trans hc), hj, Nat.or_zero]; rfl
      have f2 : orL ([((u, p, ((j ||| k : Nat) : Int)) : GT)].map (fG o pl)) = j ||| k := by
        show fG o pl _ ||| 0 = _
        unfold fG
        rw [if_pos (hh2.trans hc), Nat.or_zero]; rfl
      rw [if_pos hc, (or_nat _ k hbd (by omega)).1]
      congr 1
      rw [f1] at hl2
      rw [f2, hl2, Nat.or_assoc, Nat.or_assoc, Nat.or_assoc, Nat.or_assoc, Nat.or_comm k]
    · have f1 : orL ([g].map (fG o pl)) = 0 := by
        show fG o pl g ||| 0 = _
        unfold fG
        rw [if_neg (by rw [hh]; exact hc)]; rfl
      have f2 : orL ([((u, p, ((j ||| k : Nat) : Int)) : GT)].map (fG o pl)) = 0 := by
        show fG o pl _ ||| 0 = _
        unfold fG
        rw [if_neg (by rw [hh2]; exact hc)]; rfl
      rw [if_neg hc]
      congr 1
      rw [f1] at hl2
      rw [f2, hl2]
  · rw [if_neg hat, if_neg hat, Nat.add_zero]
    rw [ofG_nat _ o pl (by
      intro x hx
      rcases List.mem_append.1 hx with hx | hx
      · rcases List.mem_append.1 hx with hx | hx
        · exact hokT x hx
        · rw [List.mem_singleton] at hx
          subst hx
          simp only
          omega
      · exact hokD _ x hx) ho]
    have hl2 := congrArg (fun m => orL (m.map (fG o pl))) (List.take_append_drop (posF (cfG u p) l) l)
    simp only [List.map_append, orL_append] at hl2 ⊢
    by_cases hc : hasG o pl (u, p, (k : Int)) = true
    · have f2 : orL ([((u, p, (k : Int)) : GT)].map (fG o pl)) = k := by
        show fG o pl _ ||| 0 = _
        unfold fG
        rw [if_pos hc, Nat.or_zero]; rfl
      rw [if_pos hc, (or_nat _ k hbd (by omega)).1]
      congr 1
      rw [f2, ← hl2, Nat.or_assoc, Nat.or_assoc, Nat.or_comm k]
    · have f2 : orL ([((u, p, (k : Int)) : GT)].map (fG o pl)) = 0 := by
        show fG o pl _ ||| 0 = _
        unfold fG
        rw [if_neg hc]; rfl
      rw [if_neg hc]
      congr 1
      rw [f2, ← hl2, Nat.or_zero]

/-! ### Given, and taken away -/
theorem sort_new (l : GL) (u p : BS) (x : Int) (h : SortG l) (d : Nat) (hd : atF (cfG u p) l = true ∧ d = 1 ∨ atF (cfG u p) l = false ∧ d = 0) :
    SortG (l.take (posF (cfG u p) l) ++ [(u, p, x)] ++ l.drop (posF (cfG u p) l + d)) := by
  obtain ⟨h1, h2, h3⟩ := sortG_parts l u p h
  have hd2 : ∀ y ∈ l.drop (posF (cfG u p) l + d), 0 < cfG u p y := by
    rcases hd with ⟨_, rfl⟩ | ⟨hat, rfl⟩
    · exact h3
    · intro y hy
      have h4 := h2 y hy
      rcases Int.lt_or_eq_of_le h4 with h5 | h5
      · exact h5
      · exfalso
        rw [atF_any l u p h, List.any_eq_false] at hat
        obtain ⟨e1, e2⟩ := (cmpG_zero _ _ _ _).1 h5.symm
        exact hat y (List.mem_of_mem_drop hy) (by simp [e1, e2])
  have hs1 : SortG (l.take (posF (cfG u p) l)) := h.sublist (List.take_sublist _ _)
  have hs2 : SortG (l.drop (posF (cfG u p) l + d)) := h.sublist (List.drop_sublist _ _)
  unfold SortG
  rw [List.append_assoc]
  refine List.pairwise_append.2 ⟨hs1, List.pairwise_cons.2 ⟨fun y hy => ?_, hs2⟩, fun a ha b hb => ?_⟩
  · have h5 := hd2 y hy
    refine cmpG_tri (a := y.1) (b := y.2.1) (c := u) (d := p) (by unfold cfG at h5; omega) (fun e => ?_)
    have := (cmpG_zero y.1 y.2.1 u p).2 e
    unfold cfG at h5
    omega
  · have h6 := h1 a ha
    rcases List.mem_cons.1 hb with rfl | hb
    · exact h6
    · have h5 := hd2 b hb
      refine cmpG_trans h6 (cmpG_tri (a := b.1) (b := b.2.1) (by unfold cfG at h5; omega) (fun e => ?_))
      have := (cmpG_zero b.1 b.2.1 u p).2 e
      unfold cfG at h5
      omega
theorem allow_ok (l : GL) (u p : BS) (r : Int) (h : allowE l u p r = 0) : grantsB (allowL l u p r) = true := by
  unfold allowE at h
  split at h
  · rename_i h0
    obtain ⟨hl, hu, hp, hr1, hr2⟩ := rightE_zero l u p r h0
    obtain ⟨g1, g2, g3⟩ := (grantsB_iff l).1 hl
    have hpos := posF_le (cfG u p) l
    have hok := okG_of l hl
    rw [grantsB_iff]
    unfold allowL
    by_cases hat : atF (cfG u p) l = true
    · obtain ⟨g, hg, e1, e2⟩ := at_get l u p hat
      have hlt := (List.getElem?_eq_some_iff.1 hg).1
      have hold : oldP l (posF (cfG u p) l) = g.2.2 := by unfold oldP; rw [hg]; rfl
      have hgp := grantB_perm g (g2 g (List.mem_of_getElem? hg))
      obtain ⟨j, hj⟩ : ∃ j : Nat, g.2.2 = (j : Int) := ⟨g.2.2.toNat, by omega⟩
      obtain ⟨k, rfl⟩ : ∃ k : Nat, r = (k : Int) := ⟨r.toNat, by omega⟩
      obtain ⟨o1, o2⟩ := or_nat j k (by omega) (by omega)
      have o3 : k ≤ j ||| k := Nat.right_le_or
      rw [if_pos hat, if_pos hat, hold, hj, o1]
      refine ⟨?_, ?_, sort_new l u p _ g3 1 (.inl ⟨hat, rfl⟩)⟩
      · simp only [List.length_append, List.length_take, List.length_drop, List.length_cons, List.length_nil]
        omega
      · intro x hx
        rcases List.mem_append.1 hx with hx | hx
        · rcases List.mem_append.1 hx with hx | hx
          · exact g2 x (List.mem_of_mem_take hx)
          · rw [List.mem_singleton] at hx
            subst hx
            unfold grantB
            rw [hu, hp, decide_eq_true (by simp only; omega), decide_eq_true (by simp only; omega)]
            rfl
        · exact g2 x (List.mem_of_mem_drop hx)
    · rw [if_neg hat, if_neg hat]
      have hatf : atF (cfG u p) l = false := by simpa using hat
      split at h
      · cases h
      · rename_i h16
        refine ⟨?_, ?_, sort_new l u p _ g3 0 (.inr ⟨hatf, rfl⟩)⟩
        · simp only [List.length_append, List.length_take, List.length_drop, List.length_cons, List.length_nil]
          have : ¬ l.length = 16 := fun e => h16 ⟨hatf, e⟩
          omega
        · intro x hx
          rcases List.mem_append.1 hx with hx | hx
          · rcases List.mem_append.1 hx with hx | hx
            · exact g2 x (List.mem_of_mem_take hx)
            · rw [List.mem_singleton] at hx
              subst hx
              unfold grantB
              rw [hu, hp, decide_eq_true (by simp only; omega), decide_eq_true (by simp only; omega)]
              rfl
          · exact g2 x (List.mem_of_mem_drop hx)
  · rename_i h0
    exact absurd h h0
theorem posF_new (l : GL) (u p : BS) (x : Int) (h : SortG l) (_hat : atF (cfG u p) l = false) :
    posF (cfG u p) (l.take (posF (cfG u p) l) ++ [(u, p, x)] ++ l.drop (posF (cfG u p) l)) = posF (cfG u p) l ∧ atF (cfG u p) (l.take (posF (cfG u p) l) ++ [(u, p, x)] ++ l.drop (posF (cfG u p) l)) = true := by
  obtain ⟨h1, h2, h3⟩ := sortG_parts l u p h
  have hle := posF_le (cfG u p) l
  have hlen : (l.take (posF (cfG u p) l)).length = posF (cfG u p) l := by rw [List.length_take]; omega
  have hz : cfG u p (u, p, x) = 0 := (cmpG_zero _ _ _ _).2 ⟨rfl, rfl⟩
  have hget : (l.take (posF (cfG u p) l) ++ [(u, p, x)] ++ l.drop (posF (cfG u p) l))[posF (cfG u p) l]? = some (u, p, x) := by
    rw [List.append_assoc, List.getElem?_append_right (by omega), hlen]
    simp
  have hpos : posF (cfG u p) (l.take (posF (cfG u p) l) ++ [(u, p, x)] ++ l.drop (posF (cfG u p) l)) = posF (cfG u p) l := by
    refine posF_eq _ _ _ (by simp only [List.length_append, List.length_take, List.length_drop, List.length_cons, List.length_nil]; omega) (fun k y hk hy => ?_) (fun y hy => ?_)
    · rw [List.append_assoc, List.getElem?_append_left (by omega)] at hy
      exact h1 y (List.mem_of_getElem? hy)
    · rw [hget] at hy
      cases hy
      omega
  refine ⟨hpos, ?_⟩
  unfold atF
  rw [hpos, hget]
  simp [hz]
/-- rights given where there were none, and taken away again -/
theorem allow_deny (l : GL) (u p : BS) (r : Int) (h : allowE l u p r = 0) (hno : l.any (fun x => x.1 == u && x.2.1 == p) = false) :
    denyE (allowL l u p r) u p r = 0 ∧ denyL (allowL l u p r) u p r = l := by
  have hok := allow_ok l u p r h
  have h0 : rightE l u p r = 0 := by
    unfold allowE at h
    split at h
    · assumption
    · exact h
  obtain ⟨hl, hu, hp, hr1, hr2⟩ := rightE_zero l u p r h0
  have g3 := ((grantsB_iff l).1 hl).2.2
  have hat : atF (cfG u p) l = false := by rw [atF_any l u p g3]; exact hno
  have hle := posF_le (cfG u p) l
  have hlen : (l.take (posF (cfG u p) l)).length = posF (cfG u p) l := by rw [List.length_take]; omega
  have hal : allowL l u p r = l.take (posF (cfG u p) l) ++ [(u, p, r)] ++ l.drop (posF (cfG u p) l) := by
    unfold allowL
    rw [if_neg (by rw [hat]; simp), if_neg (by rw [hat]; simp)]
    rfl
  obtain ⟨p1, p2⟩ := posF_new l u p r g3 hat
  obtain ⟨k, rfl⟩ : ∃ k : Nat, r = (k : Int) := ⟨r.toNat, by omega⟩
  constructor
  · have : rightE (allowL l u p (k : Int)) u p (k : Int) = 0 := by
      unfold rightE
      rw [if_pos hok, if_pos (by rw [hu, hp]; rfl), if_pos ⟨hr1, hr2⟩]
    unfold denyE
    rw [if_pos this, hal, p2]
    rfl
  · have hold : oldP (l.take (posF (cfG u p) l) ++ [(u, p, (k : Int))] ++ l.drop (posF (cfG u p) l)) (posF (cfG u p) l) = (k : Int) := by
      unfold oldP
      rw [List.append_assoc, List.getElem?_append_right (by omega), hlen]
      simp
    unfold denyL
    rw [hal, p1, hold, if_pos (andNot_self k (by omega)), List.append_nil]
    have t1 : (l.take (posF (cfG u p) l) ++ [(u, p, (k : Int))] ++ l.drop (posF (cfG u p) l)).take (posF (cfG u p) l) = l.take (posF (cfG u p) l) := by
      rw [List.append_assoc, List.take_append_of_le_length (by omega), List.take_take, Nat.min_self]
    have t2 : (l.take (posF (cfG u p) l) ++ [(u, p, (k : Int))] ++ l.drop (posF (cfG u p) l)).drop (posF (cfG u p) l + 1) = l.drop (posF (cfG u p) l) :=
      List.drop_left' (by simp only [List.length_append, List.length_cons, List.length_nil]; omega)
    rw [t1, t2, List.take_append_drop]
end Go.Proofs.YtodikfhaghpkhaaDoor
