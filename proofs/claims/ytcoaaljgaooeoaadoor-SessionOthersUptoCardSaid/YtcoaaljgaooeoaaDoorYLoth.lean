/-
  Sessions: the plain law of what is opened and closed.
  The law's num and alive, by their contracts; how large tables are.
  The law SessionOthers: its walk.
-/
import Derived.Test.YtcoaaljgaooeoaaDoorYOpn
import Derived.Deep.Cut
import Derived.Test.YtcoaaljgaooeoaaDoorSeRf2
namespace Go.Proofs.YtcoaaljgaooeoaaDoor
open Go.RowKit

theorem posF_parts {α : Type} (cf : α → Int) (l : List α) (h : SignAsc cf l) : (∀ y ∈ l.take (posF cf l), cf y < 0) ∧ (∀ y ∈ l.drop (posF cf l), 0 ≤ cf y) := by
  induction l with
  | nil => simp
  | cons x l ih =>
    have h' : SignAsc cf l := fun i j a b hij ha hb hlt => h (i + 1) (j + 1) a b (by omega) (by simpa using ha) (by simpa using hb) hlt
    rw [posF_cons]
    by_cases hn : cf x < 0
    · rw [if_pos hn]
      obtain ⟨a, b⟩ := ih h'
      refine ⟨fun y hy => ?_, b⟩
      rw [List.take_succ_cons] at hy
      rcases List.mem_cons.1 hy with rfl | hy
      · exact hn
      · exact a y hy
    · rw [if_neg hn]
      refine ⟨by simp, fun y hy => ?_⟩
      rw [List.drop_zero] at hy
      rcases List.mem_cons.1 hy with rfl | hy
      · omega
      · obtain ⟨j, hj, rfl⟩ := List.getElem_of_mem hy
        rcases Int.lt_or_le (cf (l[j]'hj)) 0 with hc | hc
        · exact absurd (h 0 (j + 1) x _ (by omega) rfl (by simp [hj]) hc) hn
        · exact hc
theorem cmpT_tri {a b : BS} {n m : Int} (h1 : ¬ cmpT a n b m < 0) (h2 : ¬ (a = b ∧ n = m)) : cmpT b m a n < 0 := by
  rw [cmpT_neg] at *
  by_cases hab : a = b
  · subst hab
    refine .inr ⟨rfl, ?_⟩
    have : ¬ n < m := fun e => h1 (.inr ⟨rfl, e⟩)
    have : n ≠ m := fun e => h2 ⟨rfl, e⟩
    omega
  · refine .inl (bl_tri a b ?_ hab)
    rw [← Bool.not_eq_true]
    exact fun e => h1 (.inl e)
/-! ### how many were had -/
theorem seHad_mem (l : List HadT) (x : BS) : (∃ y ∈ l, y.1 = x ∧ seHad l x = y.2) ∨ ((∀ y ∈ l, y.1 ≠ x) ∧ seHad l x = 0) := by
  unfold seHad
  cases h : l.find? (fun h => h.1 == x) with
  | none =>
    refine .inr ⟨fun y hy e => ?_, rfl⟩
    have := List.find?_eq_none.1 h y hy
    simp [e] at this
  | some y =>
    have h1 := List.mem_of_find?_eq_some h
    have h2 := List.find?_some h
    exact .inl ⟨y, h1, by simpa using h2, rfl⟩
theorem seHad_pos (l : List HadT) (x : BS) (h : ∀ y ∈ l, hadOk y) : 0 ≤ seHad l x ∧ seHad l x ≤ 1099511627776 := by
  rcases seHad_mem l x with ⟨y, hy, _, he⟩ | ⟨_, he⟩
  · have := h y hy
    rw [he]
    exact ⟨by have := this.2.1; omega, this.2.2⟩
  · rw [he]; omega
theorem seHad_append (a b : List HadT) (x : BS) : seHad (a ++ b) x = if (a.any fun h => h.1 == x) = true then seHad a x else seHad b x := by
  induction a with
  | nil => rfl
  | cons y a ih =>
    have hc : ∀ l, seHad (y :: l) x = if y.1 = x then y.2 else seHad l x := fun l => by
      have := seHad_drop (l := y :: l) (t := x) (k := 0) (by simp)
      simpa using this
    rw [List.cons_append, hc, hc, List.any_cons, ih]
    by_cases e : y.1 = x
    · simp [e]
    · rw [if_neg e, if_neg e, show (y.1 == x) = false by simpa using e, Bool.false_or]
theorem any_none {l : List HadT} {x : BS} (h : ∀ y ∈ l, y.1 ≠ x) : (l.any fun h => h.1 == x) = false := by
  rw [List.any_eq_false]
  intro y hy
  simpa using h y hy
/-- where one stands among those that were had -/
theorem had_parts (l : List HadT) (x : BS) (h : SortH l) : (∀ y ∈ l.take (posF (cfH x) l), Op.bytesLess y.1 x = true) ∧ (∀ y ∈ l.drop (posF (cfH x) l), Op.bytesLess y.1 x = false) := by
  obtain ⟨a, b⟩ := posF_parts (cfH x) l (cfH_asc l h x)
  refine ⟨fun y hy => (cmpS_neg _ _).1 (a y hy), fun y hy => ?_⟩
  have := b y hy
  rw [← Bool.not_eq_true]
  intro e
  have := (cmpS_neg _ _).2 e
  unfold cfH at *
  omega
theorem putH_cases (l : List HadT) (x : BS) (h : SortH l) :
    (∃ a c b, l = a ++ [(x, c)] ++ b ∧ putH l x = a ++ [(x, c + 1)] ++ b ∧ seHad l x = c ∧ (∀ y ∈ a, Op.bytesLess y.1 x = true) ∧ (∀ y ∈ b, Op.bytesLess x y.1 = true)) ∨
    (∃ a b, l = a ++ b ∧ putH l x = a ++ [(x, 1)] ++ b ∧ seHad l x = 0 ∧ (∀ y ∈ a, Op.bytesLess y.1 x = true) ∧ (∀ y ∈ b, Op.bytesLess x y.1 = true)) := by
  obtain ⟨h1, h2⟩ := had_parts l x h
  unfold putH
  cases ht : atF (cfH x) l with
  | true =>
    obtain ⟨hp, he⟩ := atF_had l x h ht
    have hs := split_atH l _ _ (show l[posF (cfH x) l]? = some (x, seHad l x) by rw [List.getElem?_eq_getElem hp, he])
    refine .inl ⟨_, seHad l x, _, hs, by rw [if_pos rfl], rfl, h1, fun y hy => ?_⟩
    have hpw := h
    rw [hs] at hpw
    exact (List.pairwise_append.1 hpw).2.2 (x, seHad l x) (by simp) y hy
  | false =>
    have hne : ∀ y ∈ l, y.1 ≠ x := by
      intro y hy e
      obtain ⟨j, hj, hjy⟩ := List.getElem_of_mem hy
      have hz : cfH x y = 0 := (cmpS_zero _ _).2 e
      have hpj : posF (cfH x) l = j := by
        refine posF_eq _ _ _ (by omega) (fun k z hk hz2 => ?_) (fun z hz2 => ?_)
        · obtain ⟨hkl, hkz⟩ := List.getElem?_eq_some_iff.1 hz2
          have := List.pairwise_iff_getElem.1 h k j hkl hj hk
          rw [hkz, hjy, e] at this
          exact (cmpS_neg _ _).2 this
        · rw [List.getElem?_eq_getElem hj, hjy] at hz2
          cases hz2
          omega
      have : atF (cfH x) l = true := by
        unfold atF
        rw [hpj, List.getElem?_eq_getElem hj, hjy]
        simp [hz]
      rw [ht] at this
      cases this
    refine .inr ⟨l.take (posF (cfH x) l), l.drop (posF (cfH x) l), (List.take_append_drop _ _).symm, by rw [if_neg (by decide)], ?_, h1, fun y hy => ?_⟩
    · rcases seHad_mem l x with ⟨y, hy, e, _⟩ | ⟨_, e⟩
      · exact absurd e (hne y hy)
      · exact e
    · exact bl_tri _ _ (h2 y hy) (hne y (List.mem_of_mem_drop hy))
theorem putH_sort (l : List HadT) (x : BS) (h : SortH l) : SortH (putH l x) := by
  rcases putH_cases l x h with ⟨a, c, b, hl, hp, _, h1, h2⟩ | ⟨a, b, hl, hp, _, h1, h2⟩
  · rw [hp]
    rw [hl] at h
    unfold SortH at h ⊢
    simp only [List.append_assoc, List.pairwise_append, List.cons_append, List.nil_append, List.pairwise_cons, List.mem_cons] at h ⊢
    refine ⟨h.1, ⟨h2, h.2.1.2⟩, fun y hy z hz => ?_⟩
    rcases hz with rfl | hz
    · exact h1 y hy
    · exact h.2.2 y hy z (.inr hz)
  · rw [hp]
    rw [hl] at h
    unfold SortH at h ⊢
    simp only [List.append_assoc, List.pairwise_append, List.cons_append, List.nil_append, List.pairwise_cons, List.mem_cons] at h ⊢
    refine ⟨h.1, ⟨h2, h.2.1⟩, fun y hy z hz => ?_⟩
    rcases hz with rfl | hz
    · exact h1 y hy
    · exact h.2.2 y hy z hz
theorem putH_same (l : List HadT) (x : BS) (h : SortH l) : seHad (putH l x) x = seHad l x + 1 := by
  rcases putH_cases l x h with ⟨a, c, b, hl, hp, he, h1, h2⟩ | ⟨a, b, hl, hp, he, h1, h2⟩
  · rw [hp, he, List.append_assoc, seHad_append, any_none (fun y hy => bl_ne (h1 y hy))]
    simp [seHad]
  · rw [hp, he, List.append_assoc, seHad_append, any_none (fun y hy => bl_ne (h1 y hy))]
    simp [seHad]
theorem putH_other (l : List HadT) (x y : BS) (hxy : x ≠ y) (h : SortH l) : seHad (putH l x) y = seHad l y := by
  have hone : ∀ (c : Int) (b : List HadT), seHad ([(x, c)] ++ b) y = seHad b y := fun c b => by
    rw [seHad_append]
    simp [hxy]
  have hmid : ∀ (c : Int) (a b : List HadT), seHad (a ++ ([(x, c)] ++ b)) y = if (a.any fun h => h.1 == y) = true then seHad a y else seHad b y := fun c a b => by rw [seHad_append, hone]
  rcases putH_cases l x h with ⟨a, c, b, hl, hp, _, _, _⟩ | ⟨a, b, hl, hp, _, _, _⟩
  · rw [hp, List.append_assoc, hmid, hl, List.append_assoc, hmid]
  · rw [hp, List.append_assoc, hmid, hl, seHad_append]
theorem putH_ok (l : List HadT) (x : BS) (h : SortH l) (hok : ∀ y ∈ l, hadOk y) (hx : nameB x = true) (hm : seHad l x ≠ 1099511627776) : ∀ y ∈ putH l x, hadOk y := by
  have hb := seHad_pos l x hok
  rcases putH_cases l x h with ⟨a, c, b, hl, hp, he, _, _⟩ | ⟨a, b, hl, hp, he, _, _⟩
  · rw [hp]
    intro y hy
    simp only [List.append_assoc, List.mem_append, List.mem_cons, List.not_mem_nil, or_false] at hy
    rcases hy with hy | rfl | hy
    · exact hok y (by rw [hl]; simp [hy])
    · exact ⟨hx, by simp only; omega, by simp only; omega⟩
    · exact hok y (by rw [hl]; simp [hy])
  · rw [hp]
    intro y hy
    simp only [List.append_assoc, List.mem_append, List.mem_cons, List.not_mem_nil, or_false] at hy
    rcases hy with hy | rfl | hy
    · exact hok y (by rw [hl]; simp [hy])
    · exact ⟨hx, by simp only; omega, by simp only; omega⟩
    · exact hok y (by rw [hl]; simp [hy])
/-! ### who goes where -/
theorem seAt_none (l : List SesC) (x z : BS) (h : ∀ s ∈ l, 1 ≤ s.hd) (h0 : ¬ 0 < seAt l x z) : ∀ s ∈ l, ¬ (s.ten = x ∧ s.into = z) := by
  intro s hs e
  unfold seAt at h0
  cases hf : l.find? (fun s => s.ten == x && s.into == z) with
  | none =>
    have := List.find?_eq_none.1 hf s hs
    simp [e.1, e.2] at this
  | some y =>
    rw [hf] at h0
    have := h y (List.mem_of_find?_eq_some hf)
    simp only at h0
    omega
theorem seAt_of (l : List SesC) (x z : BS) : seAt l x z = seAt (seOf l x) x z := by
  unfold seAt seOf
  rw [List.find?_filter]
  have : (fun s : SesC => s.ten == x && s.into == z) = (fun a => decide ((a.ten == x) = true ∧ (a.ten == x && a.into == z) = true)) := by
    funext s
    cases s.ten == x <;> cases s.into == z <;> rfl
  rw [← this]
theorem sesB_had (T T' : TabC) (s : SesC) (h : seHad T.had s.ten ≤ seHad T'.had s.ten) (hs : sesB T s = true) : sesB T' s = true := by
  unfold sesB at hs ⊢
  rw [Bool.and_eq_true, decide_eq_true_eq] at hs ⊢
  exact ⟨hs.1, by omega⟩
theorem sesB_hd {T : TabC} {s : SesC} (h : sesB T s = true) : 1 ≤ s.hd ∧ s.hd ≤ seHad T.had s.ten := by
  unfold sesB at h
  rw [Bool.and_eq_true, Bool.and_eq_true, decide_eq_true_eq, decide_eq_true_eq] at h
  exact ⟨h.1.2, h.2⟩
theorem openE_zero (T : TabC) (x z : BS) (h : openE T x z = 0) : TabOk T ∧ nameB x = true ∧ sePath z = true ∧ ¬ 0 < seAt T.opn x z ∧ (seOf T.opn x).length ≠ 16 ∧ seHad T.had x ≠ 1099511627776 := by
  unfold openE at h
  split at h
  · cases h
  rename_i h0
  split at h
  · cases h
  rename_i h1
  split at h
  · cases h
  rename_i h2
  split at h
  · cases h
  rename_i h3
  split at h
  · cases h
  rename_i h4
  have h5 : tabE T = 0 := (tabE_09 T).resolve_right h0
  refine ⟨(tabE_zero T).1 h5, ?_, ?_, h2, h3, h4⟩
  · cases hn : nameB x with
    | true => rfl
    | false => exact absurd (.inl hn) h1
  · cases hn : sePath z with
    | true => rfl
    | false => exact absurd (.inr hn) h1
theorem openE_of (T : TabC) (x z : BS) (h0 : TabOk T) : openE T x z = if nameB x = false ∨ sePath z = false then 31 else if 0 < seAt T.opn x z then 44 else if (seOf T.opn x).length = 16 then 3 else if seHad T.had x = 1099511627776 then 15 else 0 := by
  unfold openE
  rw [if_neg (by rw [(tabE_zero T).2 h0]; decide)]
theorem count_le (T : TabC) (h : TabOk T) (x : BS) : (seOf T.opn x).length ≤ 16 := by
  cases hf : seOf T.opn x with
  | nil => exact Nat.zero_le _
  | cons s r =>
    have hm : s ∈ seOf T.opn x := by rw [hf]; exact List.mem_cons_self ..
    unfold seOf at hm
    rw [List.mem_filter] at hm
    have h1 := (h.opn s hm.1).2.2
    have h2 : s.ten = x := by simpa using hm.2
    rw [h2, hf] at h1
    exact h1
/-- WHAT IS OPENED MAY BE -/
theorem open_ok (T : TabC) (x z : BS) (h : openE T x z = 0) : TabOk (openL T x z) := by
  obtain ⟨hT, hx, hz, hat, hc, hm⟩ := openE_zero T x z h
  have hN : openN T x = seHad T.had x + 1 := putH_same _ _ hT.sortH
  have hb := seHad_pos T.had x hT.had
  have hmon : ∀ y, seHad T.had y ≤ seHad (putH T.had x) y := by
    intro y
    by_cases e : x = y
    · subst e
      rw [putH_same _ _ hT.sortH]
      omega
    · rw [putH_other _ _ _ e hT.sortH]; exact Int.le_refl _
  obtain ⟨hp1, hp2⟩ := posF_parts (cfT x (openN T x)) T.opn (cfT_asc T.opn hT.sortT x (openN T x))
  have hlt : ∀ s ∈ T.opn, s.ten = x → s.hd < openN T x := by
    intro s hs e
    have := (sesB_hd (hT.opn s hs).1).2
    rw [e] at this
    omega
  have hmem : ∀ s, s ∈ (openL T x z).opn ↔ s ∈ T.opn ∨ s = ⟨x, openN T x, z, [], false⟩ := by
    intro s
    unfold openL
    simp only [List.append_assoc, List.mem_append, List.mem_cons, List.not_mem_nil, or_false]
    constructor
    · rintro (h | h | h)
      · exact .inl (List.mem_of_mem_take h)
      · exact .inr h
      · exact .inl (List.mem_of_mem_drop h)
    · rintro (h | h)
      · rw [← List.take_append_drop (posF (cfT x (openN T x)) T.opn) T.opn, List.mem_append] at h
        rcases h with h | h
        · exact .inl h
        · exact .inr (.inr h)
      · exact .inr (.inl h)
  have hst : SortT (openL T x z).opn := by
    have h0 := hT.sortT
    rw [← List.take_append_drop (posF (cfT x (openN T x)) T.opn) T.opn] at h0
    unfold SortT at h0 ⊢
    unfold openL
    simp only [List.append_assoc, List.pairwise_append, List.cons_append, List.nil_append, List.pairwise_cons, List.mem_cons] at h0 ⊢
    refine ⟨h0.1, ⟨fun y hy => ?_, h0.2.1⟩, fun y hy w hw => ?_⟩
    · have h1 := hp2 y hy
      have h3 := List.mem_of_mem_drop hy
      refine cmpT_tri (by unfold cfT at h1; omega) (fun e => ?_)
      have := hlt y h3 e.1
      omega
    · rcases hw with rfl | hw
      · exact hp1 y hy
      · exact h0.2.2 y hy w hw
  have hpw : (openL T x z).opn.Pairwise fun o s => o.ten = s.ten → o.into ≠ s.into := by
    have h0 := (seAt_own T.opn hT.sortT).1 (fun s hs => (hT.opn s hs).2.1)
    have hno := seAt_none T.opn x z (fun s hs => (sesB_hd (hT.opn s hs).1).1) hat
    rw [← List.take_append_drop (posF (cfT x (openN T x)) T.opn) T.opn] at h0
    unfold openL
    simp only [List.append_assoc, List.pairwise_append, List.cons_append, List.nil_append, List.pairwise_cons, List.mem_cons] at h0 ⊢
    refine ⟨h0.1, ⟨fun y hy e e2 => hno y (List.mem_of_mem_drop hy) ⟨e.symm, e2.symm⟩, h0.2.1⟩, fun y hy w hw => ?_⟩
    rcases hw with rfl | hw
    · exact fun e e2 => hno y (List.mem_of_mem_take hy) ⟨e, e2⟩
    · exact h0.2.2 y hy w hw
  have hof : ∀ y, seOf (openL T x z).opn y = seOf (T.opn.take (posF (cfT x (openN T x)) T.opn)) y ++ (if x = y then [⟨x, openN T x, z, [], false⟩] else []) ++ seOf (T.opn.drop (posF (cfT x (openN T x)) T.opn)) y := by
    intro y
    unfold openL seOf
    rw [List.filter_append, List.filter_append]
    congr 2
    by_cases e : x = y
    · rw [if_pos e]; simp [e]
    · rw [if_neg e]; simp [e]
  have hof2 : ∀ y, (seOf T.opn y).length = (seOf (T.opn.take (posF (cfT x (openN T x)) T.opn)) y).length + (seOf (T.opn.drop (posF (cfT x (openN T x)) T.opn)) y).length := by
    intro y
    conv => lhs; rw [← List.take_append_drop (posF (cfT x (openN T x)) T.opn) T.opn]
    unfold seOf
    rw [List.filter_append, List.length_append]
  refine ⟨putH_ok _ _ hT.sortH hT.had hx hm, putH_sort _ _ hT.sortH, fun s hs => ⟨?_, (seAt_own _ hst).2 hpw s hs, ?_⟩, hst⟩
  · rcases (hmem s).1 hs with h1 | rfl
    · exact sesB_had T _ s (hmon s.ten) (hT.opn s h1).1
    · unfold sesB
      have hz' : (!z.isEmpty && pathB z) = true := hz
      simp only [hx, hz', Bool.true_and, List.length_nil]
      have h1 : decide (1 ≤ openN T x) = true := by simp; omega
      have h2 : decide (openN T x ≤ seHad (openL T x z).had x) = true := by
        have : seHad (openL T x z).had x = openN T x := rfl
        rw [this]; simp
      rw [h1, h2]
      rfl
  · rw [hof, List.length_append, List.length_append]
    have h1 := hof2 s.ten
    have h2 := count_le T hT s.ten
    by_cases e : x = s.ten
    · rw [if_pos e]
      rw [← e] at h1 h2 ⊢
      simp only [List.length_cons, List.length_nil]
      omega
    · rw [if_neg e]
      simp only [List.length_nil]
      omega
theorem open_of (T : TabC) (x z y : BS) (h : x ≠ y) : seOf (openL T x z).opn y = seOf T.opn y := by
  conv => rhs; rw [← List.take_append_drop (posF (cfT x (openN T x)) T.opn) T.opn]
  unfold openL seOf
  rw [List.filter_append, List.filter_append, List.filter_append]
  simp [h]
/-! ### what is closed -/
def dropAt (T : TabC) (k : Nat) : TabC := ⟨T.opn.take k ++ T.opn.drop (k + 1), T.had⟩
theorem drop_sub (l : List SesC) (k : Nat) : List.Sublist (l.take k ++ l.drop (k + 1)) l := by
  conv => rhs; rw [← List.take_append_drop k l]
  exact (List.Sublist.refl _).append (List.drop_sublist_drop_left l (Nat.le_succ k))
theorem close_ok (T : TabC) (k : Nat) (h : TabOk T) : TabOk (dropAt T k) := by
  have hs := drop_sub T.opn k
  have hst : SortT (dropAt T k).opn := h.sortT.sublist hs
  have hpw := ((seAt_own T.opn h.sortT).1 (fun s hs => (h.opn s hs).2.1)).sublist hs
  refine ⟨h.had, h.sortH, fun s hm => ⟨(h.opn s (hs.subset hm)).1, (seAt_own _ hst).2 hpw s hm, ?_⟩, hst⟩
  have : ((seOf (dropAt T k).opn s.ten)).length ≤ (seOf T.opn s.ten).length := (hs.filter _).length_le
  have := count_le T h s.ten
  omega
theorem close_of (T : TabC) (k : Nat) (hk : k < T.opn.length) (y : BS) (h : (T.opn[k]'hk).ten ≠ y) : seOf (dropAt T k).opn y = seOf T.opn y := by
  conv => rhs; rw [← List.take_append_drop k T.opn, List.drop_eq_getElem_cons hk]
  unfold dropAt seOf
  rw [List.filter_append, List.filter_append, List.filter_cons]
  simp [h]
/-- what is asked of a table hangs on a tenant's own alone -/
theorem open_same (T X : TabC) (y z : BS) (hT : TabOk T) (hX : TabOk X) (ho : seOf X.opn y = seOf T.opn y) (hh : seHad X.had y = seHad T.had y) : (openC X y z).2 = (openC T y z).2 ∧ openE X y z = openE T y z := by
  have he : openE X y z = openE T y z := by
    rw [openE_of X y z hX, openE_of T y z hT, seAt_of X.opn, seAt_of T.opn, ho, hh]
  refine ⟨?_, he⟩
  unfold openC
  rw [he]
  split
  · show openN X y = openN T y
    unfold openN
    rw [putH_same _ _ hX.sortH, putH_same _ _ hT.sortH, hh]
  · rfl
theorem place_open (T : TabC) (x z : BS) (h : openE T x z = 0) : ∃ k, ∃ hk : k < (openL T x z).opn.length, placeI (openL T x z) x (openN T x) = ((k : Int), 0) ∧ ((openL T x z).opn[k]'hk).ten = x := by
  have hok := open_ok T x z h
  rcases placeI_cs (openL T x z) x (openN T x) with h1 | h1 | ⟨k, hk, h1, h2, h3, h4⟩
  · unfold placeI at h1
    rw [if_neg (by rw [(tabE_zero _).2 hok]; decide)] at h1
    split at h1
    · simp at h1
    · simp at h1
  · exfalso
    unfold placeI at h1
    rw [if_neg (by rw [(tabE_zero _).2 hok]; decide)] at h1
    split at h1
    · rename_i h2
      have hm : (⟨x, openN T x, z, [], false⟩ : SesC) ∈ (openL T x z).opn := by unfold openL; simp
      have := firstI_any (sesAt x (openN T x)) (openL T x z).opn
      rw [decide_eq_false (by omega)] at this
      have h5 := List.any_eq_false.1 this.symm _ hm
      simp [sesAt] at h5
    · simp at h1
  · refine ⟨k, hk, h1, ?_⟩
    unfold sesAt at h3
    rw [Bool.and_eq_true] at h3
    simpa using h3.1
end Go.Proofs.YtcoaaljgaooeoaaDoor
namespace Go.Proofs.YtcoaaljgaooeoaaDoor
open Go.RowKit

set_option maxRecDepth 100000 in
theorem num27_any (n : Int) (w : World) : Calls Tryd.prog 15 #[.int .i64 n] w fun e w' => e = .returned (.int .i64 n) ∧ w' = w := by
  go_enter Tryd.func15, Tryd.ntmps15
  go_wp2_with fail
  go_ret
  exact ⟨rfl, rfl⟩
structure TabC.szc (N : Nat) (T : TabC) : Prop where
  opn : T.opn.length ≤ N
  had : T.had.length ≤ N
  each : ∀ s ∈ T.opn, s.ten.length ≤ 4000000000 ∧ s.into.length ≤ 4000000000 ∧ s.rest.length ≤ 4000000000
  eachH : ∀ y ∈ T.had, y.1.length ≤ 4000000000
theorem TabR.szc {t : TabR} {w : World} {B N : Nat} (hr : t.rd w B) (hz : t.sz) (h1 : t.opn.n ≤ N) (h2 : t.had.n ≤ N) : t.con.szc N := by
  refine ⟨?_, by rw [show t.con.had = t.had.l from rfl, ← hr.had.1]; exact h2, fun s hs => ?_, hz.eachH⟩
  · show (t.opn.l.map SesR.con).length ≤ N
    rw [List.length_map, ← hr.opn.1]; exact h1
  · obtain ⟨y, hy, rfl⟩ := List.mem_map.1 (show s ∈ t.opn.l.map SesR.con from hs)
    have := hz.each y hy
    exact ⟨this.ten, this.into, by show y.rest.l.length ≤ _; rw [← (hr.each y hy).1]; exact this.rest⟩
theorem TabO.szd {s : TabR} {w : World} {b N : Nat} (ho : TabO w b s) (h : s.con.szc N) (hN : N ≤ 1000000000) : s.sz ∧ s.opn.n ≤ N ∧ s.had.n ≤ N := by
  have h1 : s.opn.n ≤ N := by
    have := h.opn
    rw [show s.con.opn = s.opn.l.map SesR.con from rfl, List.length_map, ← ho.opn.1] at this
    exact this
  have h2 : s.had.n ≤ N := by
    have := h.had
    rw [show s.con.had = s.had.l from rfl, ← ho.had.1] at this
    exact this
  refine ⟨⟨by omega, fun y hy => ?_, by omega, h.eachH⟩, h1, h2⟩
  have := h.each y.con (List.mem_map.2 ⟨y, hy, rfl⟩)
  exact ⟨this.1, this.2.1, by rw [(ho.each y hy).1]; exact this.2.2⟩
theorem openL_szc {T : TabC} {N : Nat} (h : T.szc N) (x z : BS) (hx : x.length ≤ 4000000000) (hz : z.length ≤ 4000000000) : (openL T x z).szc (N + 1) := by
  refine ⟨?_, ?_, fun s hs => ?_, putH_each _ _ _ hx h.eachH⟩
  · unfold openL
    simp only [List.length_append, List.length_take, List.length_drop, List.length_cons, List.length_nil]
    have := h.opn
    omega
  · have := putH_len T.had x
    have := h.had
    show (putH T.had x).length ≤ _
    omega
  · unfold openL at hs
    simp only [List.append_assoc, List.mem_append, List.mem_cons, List.not_mem_nil, or_false] at hs
    rcases hs with hs | rfl | hs
    · exact h.each s (List.mem_of_mem_take hs)
    · exact ⟨hx, hz, by simp⟩
    · exact h.each s (List.mem_of_mem_drop hs)
theorem dropAt_szc {T : TabC} {N : Nat} (h : T.szc N) (k : Nat) : (dropAt T k).szc N := by
  have hs := drop_sub T.opn k
  exact ⟨Nat.le_trans hs.length_le h.opn, h.had, fun s hm => h.each s (hs.subset hm), h.eachH⟩
theorem nil_szc (N : Nat) : (⟨[], []⟩ : TabC).szc N := ⟨Nat.zero_le _, Nat.zero_le _, by simp, by simp⟩
theorem openC_szc {T : TabC} {N : Nat} (h : T.szc N) (x z : BS) (hx : x.length ≤ 4000000000) (hz : z.length ≤ 4000000000) : (openC T x z).1.szc (N + 1) := by
  unfold openC
  split
  · exact openL_szc h x z hx hz
  · exact nil_szc _
theorem closeC_szc {T : TabC} {N : Nat} (h : T.szc N) (x : BS) (n : Int) : (closeC T x n).1.szc N := by
  unfold closeC
  split
  · exact dropAt_szc h _
  · exact nil_szc _
theorem alive27_open : openE ⟨[], []⟩ [97] [120] = 0 ∧ openC ⟨[], []⟩ [97] [120] = (⟨[⟨[97], 1, [120], [], false⟩], [([97], 1)]⟩, 1) := ⟨by kernel_rfl, by kernel_rfl⟩
set_option maxRecDepth 100000 in
set_option maxHeartbeats 1000000 in
theorem alive27_any (w : World) (hmx : HasMax w) : Calls Tryd.prog 8 #[] w fun e w' => e = .returned (.bool true) ∧ Below w.heap.size w w' := by
  have hop := open_any ⟨⟨none, 0, 0, []⟩, ⟨none, 0, 0, []⟩⟩ [97] [120] (by simp) (by simp) w w.heap.size ⟨⟨rfl, Nat.le_refl _, Reads.none_⟩, (fun y hy => by cases hy), ⟨rfl, Nat.le_refl _, Reads.none_⟩⟩ (Nat.le_refl _) ⟨Nat.zero_le _, (fun y hy => by cases hy), Nat.zero_le _, (fun y hy => by cases hy)⟩ ⟨Nat.zero_le _, Nat.zero_le _⟩ hmx
  replace hop : Calls Tryd.prog 10 #[.agg #[.slice none 0 0, .slice none 0 0], .string ⟨#[97]⟩, .string ⟨#[120]⟩] w fun e w' => ∃ s : TabR, e = .returned (.tuple #[s.val, .int .i64 1, .int .i64 0]) ∧ TabO w' w.heap.size s ∧ s.con = ⟨[⟨[97], 1, [120], [], false⟩], [([97], 1)]⟩ ∧ Below w.heap.size w w' := by
    refine hop.mono ?_
    rintro e w' ⟨s, h1, h2, h3, h4⟩
    rw [show (TabR.con ⟨⟨none, 0, 0, []⟩, ⟨none, 0, 0, []⟩⟩) = ⟨[], []⟩ from rfl, alive27_open.2] at h1 h3
    rw [alive27_open.1] at h1
    exact ⟨s, h1, h2, h3, h4⟩
  go_enter Tryd.func8, Tryd.ntmps8
  go_wp2_with fail
  refine hop.mono ?_
  clear hop
  rintro e w2 ⟨⟨⟨sA, sn, sc, sl⟩, ⟨eA, en, ec, el⟩⟩, he, hO2, hcon, hb2⟩
  replace he : e = .returned (.tuple #[.agg #[.slice sA sn sc, .slice eA en ec], .int .i64 1, .int .i64 0]) := he
  subst he
  have hba := (Below.refl w2.heap.size w2).alloc (Nat.le_refl _) (.cells #[.slice sA sn sc, .slice eA en ec] 25)
  have kG := Blk.new w2 25 #[.slice sA sn sc, .slice eA en ec]
  obtain ⟨W3, hW3⟩ : ∃ W, W = w2.alloc (.cells #[.slice sA sn sc, .slice eA en ec] 25) := ⟨_, rfl⟩
  rw [← hW3] at hba kG
  have hszc : (TabR.con ⟨⟨sA, sn, sc, sl⟩, ⟨eA, en, ec, el⟩⟩).szc 1000 := by rw [hcon]; exact ⟨by simp, by simp, by simp, by simp⟩
  have hz := (hO2.szd hszc (by omega)).1
  have hat := at_any ⟨⟨sA, sn, sc, sl⟩, ⟨eA, en, ec, el⟩⟩ [97] [120] W3 W3.heap.size (hO2.below hba).rd (Nat.le_refl _) hz
  rw [hcon] at hat
  replace hat : Calls Tryd.prog 28 #[.agg #[.slice sA sn sc, .slice eA en ec], .string ⟨#[97]⟩, .string ⟨#[120]⟩] W3 fun e w' => e = .returned (.int .i64 1) ∧ Below W3.heap.size W3 w' := hat
  obtain ⟨⟨c0, c1⟩, -⟩ := blk2T kG
  have HB3 := Lib.hid (hb2.trans (hba.mono hb2.size))
  rw [hW3] at c0 c1
  clear hO2 hcon hb2 hba kG hszc hz
  go_wp2_with fail
  refine (num27_any 0 _).mono ?_
  rintro e w4 ⟨rfl, hw4⟩
  rw [hw4, ← hW3]
  rw [← hW3] at c0 c1
  clear hw4 w4 hW3
  go_wp2_with fail
  refine hat.mono ?_
  rintro e w5 ⟨rfl, hb5⟩
  go_wp2_with fail
  go_ret
  exact ⟨rfl, HB3.out.trans (hb5.mono HB3.out.size)⟩
end Go.Proofs.YtcoaaljgaooeoaaDoor
namespace Go.Proofs.YtcoaaljgaooeoaaDoor
open Go.RowKit

structure Like (N : Nat) (T X : TabC) (y : BS) : Prop where
  ok : TabOk X
  of : seOf X.opn y = seOf T.opn y
  hd : seHad X.had y = seHad T.had y
  sz : X.szc N
theorem like_open {T : TabC} {N : Nat} (hs : T.szc N) (x z y : BS) (hx : x.length ≤ 4000000000) (hz : z.length ≤ 4000000000) (h : openE T x z = 0) (hxy : x ≠ y) : Like (N + 1) T (openC T x z).1 y := by
  have hT := (openE_zero T x z h).1
  have e : (openC T x z).1 = openL T x z := by unfold openC; rw [if_pos h]
  rw [e]
  exact ⟨open_ok T x z h, open_of T x z y hxy, putH_other _ _ _ hxy hT.sortH, openL_szc hs x z hx hz⟩
theorem like_self {T : TabC} {N : Nat} (hs : T.szc N) (hT : TabOk T) (y : BS) : Like (N + 1) T T y := ⟨hT, rfl, rfl, ⟨Nat.le_succ_of_le hs.opn, Nat.le_succ_of_le hs.had, hs.each, hs.eachH⟩⟩
theorem like_close {T : TabC} {N : Nat} (hs : T.szc N) (x y : BS) (n : Int) (hT : TabOk T) (h : (closeC T x n).2 = 0) (hxy : x ≠ y) : Like (N + 1) T (closeC T x n).1 y := by
  rcases placeI_cs T x n with hp | hp | ⟨k, hk, hp, _, hat, _⟩
  · unfold closeC at h; rw [hp] at h; simp at h
  · unfold closeC at h; rw [hp] at h; simp at h
  · have e : (closeC T x n).1 = dropAt T k := by unfold closeC; rw [hp, if_pos rfl]; rfl
    have ht : (T.opn[k]'hk).ten = x := by
      unfold sesAt at hat
      rw [Bool.and_eq_true] at hat
      simpa using hat.1
    have hd := dropAt_szc hs k
    rw [e]
    exact ⟨close_ok T k hT, close_of T k hk y (by rw [ht]; exact hxy), rfl, ⟨Nat.le_succ_of_le hd.opn, Nat.le_succ_of_le hd.had, hd.each, hd.eachH⟩⟩
theorem TabO.keepT {w w' : World} {b : Nat} {t : TabR} (h : TabO w b t) (hk : KeepsT 25 w w') : TabO w' b t :=
  ⟨⟨h.opn.1, hk.own h.opn.2 (by decide)⟩, fun y hy => ⟨(h.each y hy).1, hk.own (h.each y hy).2 (by decide)⟩, ⟨h.had.1, hk.own h.had.2 (by decide)⟩⟩
theorem TabR.rd.szd {s : TabR} {w : World} {b N : Nat} (ho : s.rd w b) (h : s.con.szc N) (hN : N ≤ 1000000000) : s.sz ∧ s.opn.n ≤ N ∧ s.had.n ≤ N := by
  have h1 : s.opn.n ≤ N := by
    have := h.opn
    rw [show s.con.opn = s.opn.l.map SesR.con from rfl, List.length_map, ← ho.opn.1] at this
    exact this
  have h2 : s.had.n ≤ N := by
    have := h.had
    rw [show s.con.had = s.had.l from rfl, ← ho.had.1] at this
    exact this
  refine ⟨⟨by omega, fun y hy => ?_, by omega, h.eachH⟩, h1, h2⟩
  have := h.each y.con (List.mem_map.2 ⟨y, hy, rfl⟩)
  exact ⟨this.1, this.2.1, by rw [(ho.each y hy).1]; exact this.2.2⟩
/-- a slice of sessions that reads so -/
def SesL (L : List SesC) (v : Value) (W : World) : Prop := ∃ s : FS SesR, v = .slice s.A s.n s.c ∧ s.rd W W.heap.size 5 encSes ∧ (∀ y ∈ s.l, y.rd W W.heap.size) ∧ s.l.map SesR.con = L
theorem SesL.stays (L : List SesC) : Stays (SesL L) := by
  rintro v W W' ⟨s, hv, h1, h2, h3⟩ hb
  exact ⟨s, hv, (h1.below hb).more hb.size, fun y hy => ((h2 y hy).below hb).more hb.size, h3⟩
set_option maxRecDepth 100000 in
/-- the way from where the tables lie to the end -/
theorem others_open (T : TabC) (X : TabR) (y z : BS) (hy : y.length ≤ 4000000000) (hz : z.length ≤ 4000000000) (W : World) (hr : X.rd W W.heap.size) (hL : Like 1048577 T X.con y) (hT : TabOk T) (hmx : HasMax W) :
    Calls Tryd.prog 10 #[X.val, .string ⟨y.toArray⟩, .string ⟨z.toArray⟩] W fun e w' => ∃ s : TabR, e = .returned (.tuple #[s.val, .int .i64 (openC T y z).2, .int .i64 (openE T y z)]) ∧ Below W.heap.size W w' := by
  have hs := hr.szd hL.sz (by omega)
  have h := open_any X y z hy hz W W.heap.size hr (Nat.le_refl _) hs.1 ⟨by have := hs.2.1; omega, by have := hs.2.2; omega⟩ hmx
  obtain ⟨h1, h2⟩ := open_same T X.con y z hT hL.ok hL.of hL.hd
  rw [h1, h2] at h
  refine h.mono ?_
  rintro e w' ⟨s, he, _, _, hb⟩
  exact ⟨s, he, hb⟩
theorem others_of (T : TabC) (X : TabR) (y : BS) (W : World) (hr : X.rd W W.heap.size) (hL : Like 1048577 T X.con y) :
    Calls Tryd.prog 19 #[X.val, .string ⟨y.toArray⟩] W fun e w' => ∃ v, e = .returned v ∧ SesL (seOf T.opn y) v w' ∧ Below W.heap.size W w' := by
  have hs := hr.szd hL.sz (by omega)
  refine (of_any X y W W.heap.size hr (Nat.le_refl _) hs.1).mono ?_
  rintro e w' ⟨s, he, ho, hea, hc, hb⟩
  exact ⟨_, he, ⟨s, rfl, ho.rd, fun y hy => (hea y hy).rd, by rw [hc, hL.of]⟩, hb⟩
set_option maxRecDepth 100000 in
set_option maxHeartbeats 16000000 in
theorem sessionOthers_any (t : TabR) (x y z : BS) (h : Int) (w : World) (hr : t.rd w w.heap.size) (hz : t.sz) (h1 : t.opn.n ≤ 1048576) (h2 : t.had.n ≤ 1048576) (hxl : x.length ≤ 4000000000) (hyl : y.length ≤ 4000000000) (hzl : z.length ≤ 4000000000) (hmx : HasMax w) :
    Calls Tryd.prog 4 #[t.val, .string ⟨x.toArray⟩, .string ⟨y.toArray⟩, .string ⟨z.toArray⟩, .int .i64 h] w fun e w' => e = .returned (.bool true) ∧ Below w.heap.size w w' := by
  have hzc := TabR.szc hr hz h1 h2
  have hck := fun W (hb : Below w.heap.size w W) => rcheck26_any t W w.heap.size (hr.below hb) hb.size hz
  have hop := fun W (hb : Below w.heap.size w W) => open_any t x z hxl hzl W w.heap.size (hr.below hb) hb.size hz ⟨by omega, by omega⟩ (hmx.below hb)
  have hcl := fun W (hb : Below w.heap.size w W) => close_any t x h W w.heap.size (hr.below hb) hb.size hz (hmx.below hb)
  obtain ⟨T, hT0⟩ : ∃ T, T = t.con := ⟨_, rfl⟩
  rw [← hT0] at hzc hop hcl hck
  obtain ⟨⟨tA, tn, tc, tl⟩, ⟨tB, tm, td, tk⟩⟩ := t
  have HTC := Lib.hid hT0.symm
  clear hT0
  show Calls Tryd.prog 4 #[.agg #[.slice tA tn tc, .slice tB tm td], .string ⟨x.toArray⟩, .string ⟨y.toArray⟩, .string ⟨z.toArray⟩, .int .i64 h] w fun e w' => e = .returned (.bool true) ∧ Below w.heap.size w w'
  have hb1 := (Below.refl w.heap.size w).alloc (Nat.le_refl _) (.cells #[.slice tA tn tc, .slice tB tm td] 25)
  have kT := Blk.new w 25 #[.slice tA tn tc, .slice tB tm td]
  obtain ⟨W1, hW1⟩ : ∃ W, W = w.alloc (.cells #[.slice tA tn tc, .slice tB tm td] 25) := ⟨_, rfl⟩
  have hsz1 : W1.heap.size = w.heap.size + 1 := by rw [hW1]; simp
  rw [← hW1] at hb1 kT
  have hT := Lib.hid (fun (W' : World) (hB' : Below W1.heap.size W1 W') => (⟨(kT.below hB' (by omega)).cell 0, (kT.below hB' (by omega)).cell 1⟩ : W'.cell? ⟨w.heap.size, 0, none⟩ = some (.slice tA tn tc) ∧ W'.cell? ⟨w.heap.size, 1, none⟩ = some (.slice tB tm td)))
  have hal := alive27_any W1 (hmx.below hb1)
  have HR := Lib.hid hr
  have HOP := Lib.hid hop
  have HCL := Lib.hid hcl
  have HCK := Lib.hid hck
  have HB1 := Lib.hid hb1
  have HSZ1 := Lib.hid hsz1
  have HMX := Lib.hid hmx
  have HZC := Lib.hid hzc
  have KT1 := Lib.hid kT
  clear hb1 kT hr hz hsz1 hop hcl hck hmx hzc h1 h2 hT
  go_enter Tryd.func4, Tryd.ntmps4
  go_wp2_with fail
  rw [← hW1]
  clear hW1
  refine hal.mono ?_
  clear hal
  rintro e w2 ⟨rfl, hb2⟩
  have HB2 := Lib.hid (HB1.out.trans (hb2.mono HB1.out.size))
  have KT2 := Lib.hid (KT1.out.below hb2 KT1.out.lt)
  clear hb2 KT1 HB1
  by_cases hxy : x = y
  · have d0 : (x == y) = true := by simp [hxy]
    clear hxy
    go_wp2_with fail
    go_ret
    exact ⟨rfl, HB2.out⟩
  have d0 : (x == y) = false := by simp [hxy]
  have HXY := Lib.hid hxy
  have hc := HCK.out w2 HB2.out
  have hE9 := tabE_09 T
  obtain ⟨E, hE⟩ : ∃ E, E = tabE T := ⟨_, rfl⟩
  rw [← hE] at hc hE9
  have HE := Lib.hid hE
  obtain ⟨⟨c0, c1⟩, -⟩ := blk2T KT2.out
  clear hE HCK hxy
  replace hc : Calls Tryd.prog 17 #[.agg #[.slice tA tn tc, .slice tB tm td]] w2 fun e w' => e = .returned (.int .i64 E) ∧ Below w2.heap.size w2 w' := hc
  go_wp2_with fail
  refine hc.mono ?_
  clear hc c0 c1
  rintro e w3 ⟨rfl, hb3⟩
  have HB3 := Lib.hid (HB2.out.trans (hb3.mono HB2.out.size))
  have KT3 := Lib.hid (KT2.out.below hb3 KT2.out.lt)
  clear hb3 KT2 HB2
  rcases hE9 with rfl | rfl
  case inr =>
    go_wp2_with fail
    go_ret
    exact ⟨rfl, HB3.out⟩
  case inl =>
    have HTK := Lib.hid ((tabE_zero T).1 HE.out.symm)
    obtain ⟨N, hN⟩ : ∃ N, N = (openC T y z).2 := ⟨_, rfl⟩
    obtain ⟨G, hG⟩ : ∃ N, N = openE T y z := ⟨_, rfl⟩
    have HNN := Lib.hid hN
    have HGG := Lib.hid hG
    obtain ⟨V, hV⟩ : ∃ V, V = openE T x z := ⟨_, rfl⟩
    obtain ⟨Fe, hF⟩ : ∃ V, V = (closeC T x h).2 := ⟨_, rfl⟩
    obtain ⟨NA, hNA⟩ : ∃ N, N = (openC T x z).2 := ⟨_, rfl⟩
    have HVV := Lib.hid hV
    have HFF := Lib.hid hF
    have hc := HOP.out w3 HB3.out
    rw [← hV, ← hNA] at hc
    replace hc : Calls Tryd.prog 10 #[.agg #[.slice tA tn tc, .slice tB tm td], .string ⟨x.toArray⟩, .string ⟨z.toArray⟩] w3 fun e w' => ∃ s : TabR, e = .returned (.tuple #[s.val, .int .i64 NA, .int .i64 V]) ∧ TabO w' w3.heap.size s ∧ s.con = (openC T x z).1 ∧ Below w3.heap.size w3 w' := hc
    obtain ⟨⟨c0, c1⟩, -⟩ := blk2T KT3.out
    clear hN hG hV hF hNA HOP
    go_wp2_with fail
    refine hc.mono ?_
    clear hc c0 c1
    rintro e w4 ⟨⟨⟨aA, an, ac, al⟩, ⟨aB, am, ad, ak⟩⟩, he, hOa, hca, hb4⟩
    replace he : e = .returned (.tuple #[.agg #[.slice aA an ac, .slice aB am ad], .int .i64 NA, .int .i64 V]) := he
    subst he
    have hsl4 : w.heap.size < w4.heap.size := by have := KT3.out.lt; have := hb4.size; omega
    obtain ⟨⟨c0, c1⟩, -⟩ := blk2T (KT3.out.below hb4 KT3.out.lt)
    obtain ⟨gx, hggx⟩ : ∃ g, g = w4.heap.size := ⟨_, rfl⟩
    have hba := (Below.refl w4.heap.size w4).alloc (Nat.le_refl _) (.cells #[.slice aA an ac, .slice aB am ad] 25)
    have kgx := Blk.new w4 25 #[.slice aA an ac, .slice aB am ad]
    obtain ⟨W5, hW5⟩ : ∃ W, W = w4.alloc (.cells #[.slice aA an ac, .slice aB am ad] 25) := ⟨_, rfl⟩
    rw [← hW5] at hba kgx
    rw [← hggx] at kgx
    have hb35 := hb4.trans (hba.mono hb4.size)
    have HOA5 := Lib.hid (hOa.below hba)
    have HCA := Lib.hid hca
    have HB5 := Lib.hid (HB3.out.trans (hb35.mono HB3.out.size))
    have KT5 := Lib.hid (KT3.out.below hb35 KT3.out.lt)
    have KX5 := Lib.hid kgx
    have hcl5 := HCL.out W5 HB5.out
    rw [← HFF.out] at hcl5
    replace hcl5 : Calls Tryd.prog 18 #[.agg #[.slice tA tn tc, .slice tB tm td], .string ⟨x.toArray⟩, .int .i64 h] W5 fun e w' => ∃ s : TabR, e = .returned (.tuple #[s.val, .int .i64 Fe]) ∧ TabO w' W5.heap.size s ∧ s.con = (closeC T x h).1 ∧ Below W5.heap.size W5 w' := hcl5
    have hntx : w.heap.size ≠ gx := by omega
    clear hOa hca hb4 hba kgx hb35 HCL
    go_wp2_with fail
    rw [← hW5]
    clear hW5 c0 c1
    rw [← hggx]
    have hwgx : w.heap.size ≤ gx := by omega
    clear hggx hsl4
    refine hcl5.mono ?_
    clear hcl5
    rintro e w6 ⟨⟨⟨bA, bn, bc, bl⟩, ⟨bB, bm, bd, bk⟩⟩, he, hOb, hcb, hb6⟩
    replace he : e = .returned (.tuple #[.agg #[.slice bA bn bc, .slice bB bm bd], .int .i64 Fe]) := he
    subst he
    obtain ⟨gy, hggy⟩ : ∃ g, g = w6.heap.size := ⟨_, rfl⟩
    have hba := (Below.refl w6.heap.size w6).alloc (Nat.le_refl _) (.cells #[.slice bA bn bc, .slice bB bm bd] 25)
    have kgy := Blk.new w6 25 #[.slice bA bn bc, .slice bB bm bd]
    obtain ⟨W6, hW6⟩ : ∃ W, W = w6.alloc (.cells #[.slice bA bn bc, .slice bB bm bd] 25) := ⟨_, rfl⟩
    rw [← hW6] at hba kgy
    rw [← hggy] at kgy
    have hb56 := hb6.trans (hba.mono hb6.size)
    have HOA := Lib.hid (HOA5.out.below hb56)
    have HOB := Lib.hid (hOb.below hba)
    have HCB := Lib.hid hcb
    have HB6w := Lib.hid (HB5.out.trans (hb56.mono HB5.out.size))
    have KT6 := Lib.hid (KT5.out.below hb56 KT5.out.lt)
    have KX6 := Lib.hid (KX5.out.below hb56 KX5.out.lt)
    have KY6 := Lib.hid kgy
    have hgxy : gx < gy := by have := KX5.out.lt; have := hb6.size; omega
    have hnxy : gx ≠ gy := by omega
    have hnty : w.heap.size ≠ gy := by omega
    have hw6s : gx < w6.heap.size := by omega
    have hxy := HXY.out
    clear hOb hcb hb6 hba kgy hb56
    by_cases hV0 : V = 0
    · have dv1 : (V == 0) = true := by simpa using hV0
      have dv2 : (V != 0) = false := by simp [hV0]
      by_cases hF0 : Fe = 0
      · have df1 : (Fe == 0) = true := by simpa using hF0
        have df2 : (Fe != 0) = false := by simp [hF0]
        go_upto_region 7 with (fail)
        rw [← hW6]
        clear hW6
        rw [← hggy]
        clear hggy
        have kY0 : Blk W6 gy 25 #[.slice bA bn bc, .slice bB bm bd] := KY6.out
        have hKP : KeepsT 25 W6 W6 := (KeepsT.refl _ _).trans (KeepsT.refl _ _)
        have hKT7 : Blk W6 w.heap.size 25 #[.slice tA tn tc, .slice tB tm td] := KT6.out
        have hKX7 : Blk W6 gx 25 #[.slice aA an ac, .slice aB am ad] := KX6.out
        have hKY7 : Blk W6 gy 25 #[.slice bA bn bc, .slice bB bm bd] := kY0
        have hWB7 : Below w.heap.size w W6 := HB6w.out
        obtain ⟨⟨g0, g1⟩, fg0, fg1⟩ := blk2T KX6.out
        obtain ⟨⟨y0, y1⟩, fy0, fy1⟩ := blk2T kY0
        obtain ⟨⟨y2, y3⟩, fy2, fy3⟩ := blk2T KY6.out
        obtain ⟨⟨t0, t1⟩, -⟩ := blk2T KT6.out
        have hnxt : gx ≠ w.heap.size := fun e => hntx e.symm
        have hnyx : gy ≠ gx := fun e => hnxy e.symm
        go_upto_region 11 with (fail)
        obtain ⟨W7, hW7⟩ : ∃ W, W = W6 := ⟨_, rfl⟩
        rw [← hW7] at hKP hKT7 hKX7 hKY7 hWB7 ⊢
        rw [← hW7] at HOA HOB
        have KT7 := Lib.hid hKT7
        have KX7 := Lib.hid hKX7
        have KY7 := Lib.hid hKY7
        have WB7 := Lib.hid hWB7
        have RT0 : TabR.rd W7 w.heap.size ⟨⟨tA, tn, tc, tl⟩, ⟨tB, tm, td, tk⟩⟩ := TabR.rd.below HR.out hWB7
        have RT : Hid (TabR.rd W7 W7.heap.size ⟨⟨tA, tn, tc, tl⟩, ⟨tB, tm, td, tk⟩⟩) := RT0.more hWB7.size
        have MX : Hid (HasMax W7) := HMX.out.below hWB7
        have LT : Hid (Like 1048577 T (TabR.con ⟨⟨tA, tn, tc, tl⟩, ⟨tB, tm, td, tk⟩⟩) y) := by
          show Like _ _ _ _
          rw [HTC.out]
          exact like_self HZC.out HTK.out y
        have RX : Hid (TabR.rd W7 W7.heap.size ⟨⟨aA, an, ac, al⟩, ⟨aB, am, ad, ak⟩⟩) := (HOA.out.keepT hKP).rd
        have LX : Hid (Like 1048577 T (TabR.con ⟨⟨aA, an, ac, al⟩, ⟨aB, am, ad, ak⟩⟩) y) := by
          show Like _ _ _ _
          rw [HCA.out]
          exact like_open HZC.out x z y hxl hzl (by rw [← HVV.out]; exact hV0) hxy
        have RY : Hid (TabR.rd W7 W7.heap.size ⟨⟨bA, bn, bc, bl⟩, ⟨bB, bm, bd, bk⟩⟩) := (HOB.out.keepT hKP).rd
        have LY : Hid (Like 1048577 T (TabR.con ⟨⟨bA, bn, bc, bl⟩, ⟨bB, bm, bd, bk⟩⟩) y) := by
          show Like _ _ _ _
          rw [HCB.out]
          exact like_close HZC.out x y h HTK.out (by rw [← HFF.out]; exact hF0) hxy
        clear hKP hKT7 hKX7 hKY7 hWB7 g0 g1 fg0 fg1 y0 y1 fy0 fy1 y2 y3 fy2 fy3 t0 t1 hnxt hnyx hW7 kY0 RT0
        have hOT : Hid (∀ W, Below W7.heap.size W7 W → Calls Tryd.prog 19 #[.agg #[.slice tA tn tc, .slice tB tm td], .string ⟨y.toArray⟩] W fun e w' => ∃ v, e = .returned v ∧ SesL (seOf T.opn y) v w' ∧ Below W.heap.size W w') := fun W hb => others_of T ⟨⟨tA, tn, tc, tl⟩, ⟨tB, tm, td, tk⟩⟩ y W ((RT.out.below hb).more hb.size) LT.out
        have hOX : Hid (∀ W, Below W7.heap.size W7 W → Calls Tryd.prog 19 #[.agg #[.slice aA an ac, .slice aB am ad], .string ⟨y.toArray⟩] W fun e w' => ∃ v, e = .returned v ∧ SesL (seOf T.opn y) v w' ∧ Below W.heap.size W w') := fun W hb => others_of T ⟨⟨aA, an, ac, al⟩, ⟨aB, am, ad, ak⟩⟩ y W ((RX.out.below hb).more hb.size) LX.out
        have hOY : Hid (∀ W, Below W7.heap.size W7 W → Calls Tryd.prog 19 #[.agg #[.slice bA bn bc, .slice bB bm bd], .string ⟨y.toArray⟩] W fun e w' => ∃ v, e = .returned v ∧ SesL (seOf T.opn y) v w' ∧ Below W.heap.size W w') := fun W hb => others_of T ⟨⟨bA, bn, bc, bl⟩, ⟨bB, bm, bd, bk⟩⟩ y W ((RY.out.below hb).more hb.size) LY.out
        have hNT : Hid (∀ W, Below W7.heap.size W7 W → Calls Tryd.prog 10 #[.agg #[.slice tA tn tc, .slice tB tm td], .string ⟨y.toArray⟩, .string ⟨z.toArray⟩] W fun e w' => ∃ s : TabR, e = .returned (.tuple #[s.val, .int .i64 N, .int .i64 G]) ∧ Below W.heap.size W w') := fun W hb => by rw [HNN.out, HGG.out]; exact others_open T ⟨⟨tA, tn, tc, tl⟩, ⟨tB, tm, td, tk⟩⟩ y z hyl hzl W ((RT.out.below hb).more hb.size) LT.out HTK.out (MX.out.below hb)
        have hNX : Hid (∀ W, Below W7.heap.size W7 W → Calls Tryd.prog 10 #[.agg #[.slice aA an ac, .slice aB am ad], .string ⟨y.toArray⟩, .string ⟨z.toArray⟩] W fun e w' => ∃ s : TabR, e = .returned (.tuple #[s.val, .int .i64 N, .int .i64 G]) ∧ Below W.heap.size W w') := fun W hb => by rw [HNN.out, HGG.out]; exact others_open T ⟨⟨aA, an, ac, al⟩, ⟨aB, am, ad, ak⟩⟩ y z hyl hzl W ((RX.out.below hb).more hb.size) LX.out HTK.out (MX.out.below hb)
        have hNY : Hid (∀ W, Below W7.heap.size W7 W → Calls Tryd.prog 10 #[.agg #[.slice bA bn bc, .slice bB bm bd], .string ⟨y.toArray⟩, .string ⟨z.toArray⟩] W fun e w' => ∃ s : TabR, e = .returned (.tuple #[s.val, .int .i64 N, .int .i64 G]) ∧ Below W.heap.size W w') := fun W hb => by rw [HNN.out, HGG.out]; exact others_open T ⟨⟨bA, bn, bc, bl⟩, ⟨bB, bm, bd, bk⟩⟩ y z hyl hzl W ((RY.out.below hb).more hb.size) LY.out HTK.out (MX.out.below hb)
        have hc := hOT.out W7 (Below.refl _ _)
        obtain ⟨⟨c0, c1⟩, -⟩ := blk2T KT7.out
        go_wp2_with fail
        refine hc.mono ?_
        clear hc c0 c1
        rintro e w8 ⟨v0, rfl, hs0, hb8⟩
        have HS0 := Lib.hid hs0
        obtain ⟨⟨sA, sn, sc, sl⟩, rfl, -, -, -⟩ := hs0
        have HB8 := Lib.hid hb8
        have KT8 := Lib.hid (KT7.out.below hb8 KT7.out.lt)
        have KX8 := Lib.hid (KX7.out.below hb8 KX7.out.lt)
        have KY8 := Lib.hid (KY7.out.below hb8 KY7.out.lt)
        have hOX : Hid (∀ W, Below w8.heap.size w8 W → Calls Tryd.prog 19 #[.agg #[.slice aA an ac, .slice aB am ad], .string ⟨y.toArray⟩] W fun e w' => ∃ v, e = .returned v ∧ SesL (seOf T.opn y) v w' ∧ Below W.heap.size W w') := fun W hb => hOX.out W (HB8.out.trans (hb.mono HB8.out.size))
        have hOY : Hid (∀ W, Below w8.heap.size w8 W → Calls Tryd.prog 19 #[.agg #[.slice bA bn bc, .slice bB bm bd], .string ⟨y.toArray⟩] W fun e w' => ∃ v, e = .returned v ∧ SesL (seOf T.opn y) v w' ∧ Below W.heap.size W w') := fun W hb => hOY.out W (HB8.out.trans (hb.mono HB8.out.size))
        clear hb8
        go_wp2_with fail
        refine wp_region_good2 (by kernel_rfl) (by kernel_rfl) [(fun v _ => v = .agg #[.slice aA an ac, .slice aB am ad]),
          (fun v _ => v = .string ⟨y.toArray⟩),
          (SesL (seOf T.opn y)),
          (fun v _ => v = .agg #[.slice bA bn bc, .slice bB bm bd]),
          (fun v _ => v = .string ⟨y.toArray⟩),
          (SesL (seOf T.opn y)),
          (SesL (seOf T.opn y)),
          (SesL (seOf T.opn y))] ?_ ?_ ?_
        · repeat' (first | exact stays_nil | refine stays_cons ?_ ?_ | exact Stays.pure | exact SesL.stays _)
        · intro i oo ho m2 W hb0 hmi hcl hdeps AA KK hA hK
          rcases i with _ | _ | _ | _ | _ | _ | _ | _ | i
          · injection ho with ho
            subst ho
            have ef11 : AA.tmps[11]?.getD undef = .pointer (some ⟨gx, 0, none⟩) := by rw [hA]; exact tmps_free (by kernel_rfl)
            clear hA hdeps hcl hmi
            obtain ⟨⟨b0, b1⟩, -⟩ := blk2T (KX8.out.below hb0 KX8.out.lt)
            have hK0 : KK (AA.put (some 63) _) _ := hK (.agg #[.slice aA an ac, .slice aB am ad]) _ (Below.refl _ _) (Eq.refl _)
            clear hK
            go_simp
            exact hK0
          · injection ho with ho
            subst ho
            have ef2 : AA.tmps[2]?.getD undef = .string ⟨y.toArray⟩ := by rw [hA]; exact tmps_free (by kernel_rfl)
            clear hA hdeps hcl hmi
            have hK0 : KK (AA.put (some 64) _) _ := hK (.string ⟨y.toArray⟩) _ (Below.refl _ _) (Eq.refl _)
            clear hK
            go_simp
            exact hK0
          · injection ho with ho
            subst ho
            obtain ⟨x0, hx0, hg0⟩ := hdeps ⟨0, .data⟩ (by simp) rfl
            have hg0 : x0 = .agg #[.slice aA an ac, .slice aB am ad] := hg0
            subst hg0
            have e0 : AA.tmps[63]?.getD undef = .agg #[.slice aA an ac, .slice aB am ad] := by rw [hA]; exact tmps_own (by kernel_rfl) hx0 (of_decide_eq_true (by kernel_rfl))
            obtain ⟨x1, hx1, hg1⟩ := hdeps ⟨1, .data⟩ (by simp) rfl
            have hg1 : x1 = .string ⟨y.toArray⟩ := hg1
            subst hg1
            have e1 : AA.tmps[64]?.getD undef = .string ⟨y.toArray⟩ := by rw [hA]; exact tmps_own (by kernel_rfl) hx1 (of_decide_eq_true (by kernel_rfl))
            clear hA hdeps hcl hmi hx0 hx1
            have hKK := Lib.hid hK
            clear hK
            go_simp
            refine (hOX.out _ (hb0)).mono ?_
            rintro e w5 ⟨v, rfl, hsl, hbn⟩
            exact hKK.out _ _ hbn hsl
          · injection ho with ho
            subst ho
            have ef14 : AA.tmps[14]?.getD undef = .pointer (some ⟨gy, 0, none⟩) := by rw [hA]; exact tmps_free (by kernel_rfl)
            clear hA hdeps hcl hmi
            obtain ⟨⟨b0, b1⟩, -⟩ := blk2T (KY8.out.below hb0 KY8.out.lt)
            have hK0 : KK (AA.put (some 66) _) _ := hK (.agg #[.slice bA bn bc, .slice bB bm bd]) _ (Below.refl _ _) (Eq.refl _)
            clear hK
            go_simp
            exact hK0
          · injection ho with ho
            subst ho
            have ef2 : AA.tmps[2]?.getD undef = .string ⟨y.toArray⟩ := by rw [hA]; exact tmps_free (by kernel_rfl)
            clear hA hdeps hcl hmi
            have hK0 : KK (AA.put (some 67) _) _ := hK (.string ⟨y.toArray⟩) _ (Below.refl _ _) (Eq.refl _)
            clear hK
            go_simp
            exact hK0
          · injection ho with ho
            subst ho
            obtain ⟨x3, hx3, hg3⟩ := hdeps ⟨3, .data⟩ (by simp) rfl
            have hg3 : x3 = .agg #[.slice bA bn bc, .slice bB bm bd] := hg3
            subst hg3
            have e3 : AA.tmps[66]?.getD undef = .agg #[.slice bA bn bc, .slice bB bm bd] := by rw [hA]; exact tmps_own (by kernel_rfl) hx3 (of_decide_eq_true (by kernel_rfl))
            obtain ⟨x4, hx4, hg4⟩ := hdeps ⟨4, .data⟩ (by simp) rfl
            have hg4 : x4 = .string ⟨y.toArray⟩ := hg4
            subst hg4
            have e4 : AA.tmps[67]?.getD undef = .string ⟨y.toArray⟩ := by rw [hA]; exact tmps_own (by kernel_rfl) hx4 (of_decide_eq_true (by kernel_rfl))
            clear hA hdeps hcl hmi hx3 hx4
            have hKK := Lib.hid hK
            clear hK
            go_simp
            refine (hOY.out _ (hb0)).mono ?_
            rintro e w5 ⟨v, rfl, hsl, hbn⟩
            exact hKK.out _ _ hbn hsl
          · injection ho with ho
            subst ho
            obtain ⟨x2, hx2, hg2⟩ := hdeps ⟨2, .data⟩ (by simp) rfl
            have hg2 : SesL (seOf T.opn y) x2 W := hg2
            have e2 : AA.tmps[65]?.getD undef = x2 := by rw [hA]; exact tmps_own (by kernel_rfl) hx2 (of_decide_eq_true (by kernel_rfl))
            clear hA hdeps hcl hmi hx2
            have hK0 : KK (AA.put (some 17) _) _ := hK x2 _ (Below.refl _ _) hg2
            clear hK
            go_simp
            exact hK0
          · injection ho with ho
            subst ho
            obtain ⟨x5, hx5, hg5⟩ := hdeps ⟨5, .data⟩ (by simp) rfl
            have hg5 : SesL (seOf T.opn y) x5 W := hg5
            have e5 : AA.tmps[68]?.getD undef = x5 := by rw [hA]; exact tmps_own (by kernel_rfl) hx5 (of_decide_eq_true (by kernel_rfl))
            clear hA hdeps hcl hmi hx5
            have hK0 : KK (AA.put (some 18) _) _ := hK x5 _ (Below.refl _ _) hg5
            clear hK
            go_simp
            exact hK0
          · simp at ho
        · intro m W hbx hall
          obtain ⟨x0, m0, g0⟩ := hall 0 (by simp)
          replace g0 : x0 = .agg #[.slice aA an ac, .slice aB am ad] := g0
          subst g0
          obtain ⟨x1, m1, g1⟩ := hall 1 (by simp)
          replace g1 : x1 = .string ⟨y.toArray⟩ := g1
          subst g1
          obtain ⟨x2, m2, g2⟩ := hall 2 (by simp)
          replace g2 : SesL (seOf T.opn y) x2 W := g2
          obtain ⟨x3, m3, g3⟩ := hall 3 (by simp)
          replace g3 : x3 = .agg #[.slice bA bn bc, .slice bB bm bd] := g3
          subst g3
          obtain ⟨x4, m4, g4⟩ := hall 4 (by simp)
          replace g4 : x4 = .string ⟨y.toArray⟩ := g4
          subst g4
          obtain ⟨x5, m5, g5⟩ := hall 5 (by simp)
          replace g5 : SesL (seOf T.opn y) x5 W := g5
          obtain ⟨x6, m6, g6⟩ := hall 6 (by simp)
          replace g6 : SesL (seOf T.opn y) x6 W := g6
          obtain ⟨x7, m7, g7⟩ := hall 7 (by simp)
          replace g7 : SesL (seOf T.opn y) x7 W := g7
          rw [frameM_all (by kernel_rfl) [.agg #[.slice aA an ac, .slice aB am ad], .string ⟨y.toArray⟩, x2, .agg #[.slice bA bn bc, .slice bB bm bd], .string ⟨y.toArray⟩, x5, x6, x7] rfl (fun i hi => by
              rcases i with _ | _ | _ | _ | _ | _ | _ | _ | i
              · exact m0
              · exact m1
              · exact m2
              · exact m3
              · exact m4
              · exact m5
              · exact m6
              · exact m7
              · simp at hi; omega)]
          clear hall m0 m1 m2 m3 m4 m5 m6 m7
          simp only [putAll, Act.put, List.setIfInBounds_toArray, List.set_cons_succ, List.set_cons_zero]
          have HS9 := Lib.hid (SesL.stays _ _ _ _ HS0.out hbx)
          have HB9 := Lib.hid (HB8.out.trans (hbx.mono HB8.out.size))
          have KT9 := Lib.hid (KT8.out.below hbx KT8.out.lt)
          have KX9 := Lib.hid (KX8.out.below hbx KX8.out.lt)
          have KY9 := Lib.hid (KY8.out.below hbx KY8.out.lt)
          obtain ⟨⟨pA, pn, pc, pl⟩, rfl, hp1, hp2, hp3⟩ := g6
          obtain ⟨⟨qA, qn, qc, ql⟩, rfl, hq1, hq2, hq3⟩ := g7
          obtain ⟨⟨sA', sn', sc', sl'⟩, hv0, hr1, hr2, hr3⟩ := HS9.out
          injection hv0 with hv1 hv2 hv3
          simp only at hv1 hv2 hv3
          subst hv1 hv2 hv3
          clear g2 g5 hOX hOY hOT hbx HS0 HS9 HB8 KT8 KX8 KY8 KT7 KX7 KY7
          have hnp : pn = sn := by
            have h1 : pn = pl.length := hp1.1
            have h2 : sn = sl'.length := hr1.1
            have h3 : pl.length = sl'.length := by simpa using congrArg List.length (hp3.trans hr3.symm)
            omega
          have hnq : qn = sn := by
            have h1 : qn = ql.length := hq1.1
            have h2 : sn = sl'.length := hr1.1
            have h3 : ql.length = sl'.length := by simpa using congrArg List.length (hq3.trans hr3.symm)
            omega
          have hq16 : qn ≤ 16 := by
            have h1 : qn = ql.length := hq1.1
            have h3 : ql.length = (seOf T.opn y).length := by simpa using congrArg List.length hq3
            have := count_le T HTK.out y
            omega
          subst hnp
          subst hnq
          have HP1 := Lib.hid hp1
          have HP2 := Lib.hid hp2
          have HQ1 := Lib.hid hq1
          have HQ2 := Lib.hid hq2
          have HR1 := Lib.hid hr1
          have HR2 := Lib.hid hr2
          have HPE := Lib.hid (hp3.trans hr3.symm)
          have HQE := Lib.hid (hq3.trans hr3.symm)
          clear hp1 hp2 hp3 hq1 hq2 hq3 hr1 hr2 hr3
          obtain ⟨W9, hW9⟩ : ∃ X, X = W := ⟨_, rfl⟩
          rw [← hW9] at HB9 KT9 KX9 KY9 HP1 HP2 HQ1 HQ2 HR1 HR2
          go_wp2_with fail
          rw [← hW9]
          clear hW9 W
          go_loopw [19] (fun j wr => ∃ i : Nat, i ≤ qn ∧ j = .int .i64 (i : Int) ∧ Below W9.heap.size W9 wr) (fun j _ => qn - (intOf j).toNat)
          case atStart => exact ⟨0, Nat.zero_le _, rfl, Below.refl _ _⟩
          case round =>
            obtain ⟨i, hi, rfl, hbr⟩ := hrel
            by_cases hlt : i < qn
            · have hii : (i : Int) < (qn : Int) := by omega
              have hi0 : (0 : Int) ≤ (i : Int) := by omega
              have hsz9 := hbr.size
              obtain ⟨ad, rfl, hadB, a0, a1, a2, a3, a4⟩ := ses_at ((HP1.out.below hbr).2.2) (show qn = pl.length from HP1.out.1) hlt
              obtain ⟨ae, rfl, haeB, b0, b1, b2, b3, b4⟩ := ses_at ((HR1.out.below hbr).2.2) (show qn = sl'.length from HR1.out.1) hlt
              obtain ⟨af, rfl, hafB, c0, c1, c2, c3, c4⟩ := ses_at ((HQ1.out.below hbr).2.2) (show qn = ql.length from HQ1.out.1) hlt
              have hpl : i < pl.length := by have : qn = pl.length := HP1.out.1; omega
              have hsl : i < sl'.length := by have : qn = sl'.length := HR1.out.1; omega
              have hql : i < ql.length := by have : qn = ql.length := HQ1.out.1; omega
              have hcp : (pl[i]'hpl).con = (sl'[i]'hsl).con := by
                have := congrArg (fun l : List SesC => l[i]?) HPE.out
                simpa [List.getElem?_map, List.getElem?_eq_getElem hpl, List.getElem?_eq_getElem hsl] using this
              have hcq : (ql[i]'hql).con = (sl'[i]'hsl).con := by
                have := congrArg (fun l : List SesC => l[i]?) HQE.out
                simpa [List.getElem?_map, List.getElem?_eq_getElem hql, List.getElem?_eq_getElem hsl] using this
              have hxp := HP2.out _ (List.getElem_mem hpl)
              have hxr := HR2.out _ (List.getElem_mem hsl)
              have hxq := HQ2.out _ (List.getElem_mem hql)
              obtain ⟨yp, hyp⟩ : ∃ y, y = pl[i]'hpl := ⟨_, rfl⟩
              obtain ⟨yr, hyr⟩ : ∃ y, y = sl'[i]'hsl := ⟨_, rfl⟩
              obtain ⟨yq, hyq⟩ : ∃ y, y = ql[i]'hql := ⟨_, rfl⟩
              rw [← hyp] at a0 a1 a2 a3 a4 hcp hxp
              rw [← hyr] at b0 b1 b2 b3 b4 hcp hcq hxr
              rw [← hyq] at c0 c1 c2 c3 c4 hcq hxq
              have hSX : Hid (∀ W, Below wr.heap.size wr W → Calls Tryd.prog 16 #[.agg (encSes yp).toArray, .agg (encSes yr).toArray] W fun e w' => e = .returned (.bool true) ∧ Below W.heap.size W w') := fun W hb => sameS_any yp yr hcp W W9.heap.size (by have := hb.size; omega) (hxp.below (hbr.trans (hb.mono hsz9))) (hxr.below (hbr.trans (hb.mono hsz9)))
              have hSY : Hid (∀ W, Below wr.heap.size wr W → Calls Tryd.prog 16 #[.agg (encSes yq).toArray, .agg (encSes yr).toArray] W fun e w' => e = .returned (.bool true) ∧ Below W.heap.size W w') := fun W hb => sameS_any yq yr hcq W W9.heap.size (by have := hb.size; omega) (hxq.below (hbr.trans (hb.mono hsz9))) (hxr.below (hbr.trans (hb.mono hsz9)))
              obtain ⟨ft, fh, fi, ⟨fA, fn, fc, fl⟩, fb⟩ := yp
              obtain ⟨ut, uh, ui, ⟨uA, un, uc, ul⟩, ub⟩ := yr
              obtain ⟨vt, vh, vi, ⟨vA, vn, vc, vl⟩, vb⟩ := yq
              simp only at a0 a1 a2 a3 a4 b0 b1 b2 b3 b4 c0 c1 c2 c3 c4
              simp only [encSes] at hSX hSY
              have lp : (ad.add (i * 5)).block < wr.heap.size := by rw [block_of_add]; omega
              have lr : (ae.add (i * 5)).block < wr.heap.size := by rw [block_of_add]; omega
              have lq : (af.add (i * 5)).block < wr.heap.size := by rw [block_of_add]; omega
              have hS := Lib.hid (fun (W' : World) (hB' : Below wr.heap.size wr W') => (⟨(hB'.cell (p := (ad.add (i * 5))) lp).trans a0, (hB'.cell (p := ⟨(ad.add (i * 5)).block, (ad.add (i * 5)).off + 1, none⟩) lp).trans a1, (hB'.cell (p := ⟨(ad.add (i * 5)).block, (ad.add (i * 5)).off + 2, none⟩) lp).trans a2, (hB'.cell (p := ⟨(ad.add (i * 5)).block, (ad.add (i * 5)).off + 3, none⟩) lp).trans a3, (hB'.cell (p := ⟨(ad.add (i * 5)).block, (ad.add (i * 5)).off + 4, none⟩) lp).trans a4, (hB'.cell (p := (ae.add (i * 5))) lr).trans b0, (hB'.cell (p := ⟨(ae.add (i * 5)).block, (ae.add (i * 5)).off + 1, none⟩) lr).trans b1, (hB'.cell (p := ⟨(ae.add (i * 5)).block, (ae.add (i * 5)).off + 2, none⟩) lr).trans b2, (hB'.cell (p := ⟨(ae.add (i * 5)).block, (ae.add (i * 5)).off + 3, none⟩) lr).trans b3, (hB'.cell (p := ⟨(ae.add (i * 5)).block, (ae.add (i * 5)).off + 4, none⟩) lr).trans b4, (hB'.cell (p := (af.add (i * 5))) lq).trans c0, (hB'.cell (p := ⟨(af.add (i * 5)).block, (af.add (i * 5)).off + 1, none⟩) lq).trans c1, (hB'.cell (p := ⟨(af.add (i * 5)).block, (af.add (i * 5)).off + 2, none⟩) lq).trans c2, (hB'.cell (p := ⟨(af.add (i * 5)).block, (af.add (i * 5)).off + 3, none⟩) lq).trans c3, (hB'.cell (p := ⟨(af.add (i * 5)).block, (af.add (i * 5)).off + 4, none⟩) lq).trans c4⟩ : W'.cell? (ad.add (i * 5)) = some (.string ⟨ft.toArray⟩) ∧ W'.cell? ⟨(ad.add (i * 5)).block, (ad.add (i * 5)).off + 1, none⟩ = some (.int .i64 fh) ∧ W'.cell? ⟨(ad.add (i * 5)).block, (ad.add (i * 5)).off + 2, none⟩ = some (.string ⟨fi.toArray⟩) ∧ W'.cell? ⟨(ad.add (i * 5)).block, (ad.add (i * 5)).off + 3, none⟩ = some (.slice fA fn fc) ∧ W'.cell? ⟨(ad.add (i * 5)).block, (ad.add (i * 5)).off + 4, none⟩ = some (.bool fb) ∧ W'.cell? (ae.add (i * 5)) = some (.string ⟨ut.toArray⟩) ∧ W'.cell? ⟨(ae.add (i * 5)).block, (ae.add (i * 5)).off + 1, none⟩ = some (.int .i64 uh) ∧ W'.cell? ⟨(ae.add (i * 5)).block, (ae.add (i * 5)).off + 2, none⟩ = some (.string ⟨ui.toArray⟩) ∧ W'.cell? ⟨(ae.add (i * 5)).block, (ae.add (i * 5)).off + 3, none⟩ = some (.slice uA un uc) ∧ W'.cell? ⟨(ae.add (i * 5)).block, (ae.add (i * 5)).off + 4, none⟩ = some (.bool ub) ∧ W'.cell? (af.add (i * 5)) = some (.string ⟨vt.toArray⟩) ∧ W'.cell? ⟨(af.add (i * 5)).block, (af.add (i * 5)).off + 1, none⟩ = some (.int .i64 vh) ∧ W'.cell? ⟨(af.add (i * 5)).block, (af.add (i * 5)).off + 2, none⟩ = some (.string ⟨vi.toArray⟩) ∧ W'.cell? ⟨(af.add (i * 5)).block, (af.add (i * 5)).off + 3, none⟩ = some (.slice vA vn vc) ∧ W'.cell? ⟨(af.add (i * 5)).block, (af.add (i * 5)).off + 4, none⟩ = some (.bool vb)))
              have HBR := Lib.hid hbr
              have hb4 := Below.refl wr.heap.size wr
              clear a0 a1 a2 a3 a4 b0 b1 b2 b3 b4 c0 c1 c2 c3 c4 lp lr lq hyp hyr hyq hcp hcq hxp hxr hxq hbr
              go_wp2_with fail
              refine wpC_region (fun W' => Below wr.heap.size wr W') (by kernel_rfl) (by kernel_rfl) (hb4.drew) (fun OPS D QQ HO hD hD2 hQQ => ?_)
              have hgo10 : Hid ((OPS[10]?).bind (·.dst) = some 97) := by show _ = _; rw [HO.out]; rfl
              clear HO
              have HD := Lib.hid hD
              have HD2 := Lib.hid hD2
              have HQQ := Lib.hid hQQ
              clear hD hD2 hQQ
              refine wpC_read (v := ?_) rfl (fun W hW => ?_) ?_
              rotate_left
              · clear hW; go_simp; try (with_reducible rfl)
              try simp only [Act.put, List.setIfInBounds_toArray, List.set_cons_zero, List.set_cons_succ]
              refine wpC_read (v := ?_) rfl (fun W hW => ?_) ?_
              rotate_left
              · clear hW; go_simp; try (with_reducible rfl)
              try simp only [Act.put, List.setIfInBounds_toArray, List.set_cons_zero, List.set_cons_succ]
              refine wpC_read (v := ?_) rfl (fun W hW => ?_) ?_
              rotate_left
              · clear hW; go_simp; try (with_reducible rfl)
              try simp only [Act.put, List.setIfInBounds_toArray, List.set_cons_zero, List.set_cons_succ]
              refine wpC_read (v := ?_) rfl (fun W hW => ?_) ?_
              rotate_left
              · replace hW := HD.out W hW
                obtain ⟨a0, a1, a2, a3, a4, b0, b1, b2, b3, b4, c0, c1, c2, c3, c4⟩ := hS.out W hW
                go_simp; try (with_reducible rfl)
              try simp only [Act.put, List.setIfInBounds_toArray, List.set_cons_zero, List.set_cons_succ]
              refine wpC_read (v := ?_) rfl (fun W hW => ?_) ?_
              rotate_left
              · clear hW; go_simp; try (with_reducible rfl)
              try simp only [Act.put, List.setIfInBounds_toArray, List.set_cons_zero, List.set_cons_succ]
              refine wpC_read (v := ?_) rfl (fun W hW => ?_) ?_
              rotate_left
              · clear hW; go_simp; try (with_reducible rfl)
              try simp only [Act.put, List.setIfInBounds_toArray, List.set_cons_zero, List.set_cons_succ]
              refine wpC_read (v := ?_) rfl (fun W hW => ?_) ?_
              rotate_left
              · clear hW; go_simp; try (with_reducible rfl)
              try simp only [Act.put, List.setIfInBounds_toArray, List.set_cons_zero, List.set_cons_succ]
              refine wpC_read (v := ?_) rfl (fun W hW => ?_) ?_
              rotate_left
              · replace hW := HD.out W hW
                obtain ⟨a0, a1, a2, a3, a4, b0, b1, b2, b3, b4, c0, c1, c2, c3, c4⟩ := hS.out W hW
                go_simp; try (with_reducible rfl)
              try simp only [Act.put, List.setIfInBounds_toArray, List.set_cons_zero, List.set_cons_succ]
              refine wpC_read (v := .bool true) rfl (fun W hW => ?_) ?_
              · replace hW := HD.out W hW
                obtain ⟨a0, a1, a2, a3, a4, b0, b1, b2, b3, b4, c0, c1, c2, c3, c4⟩ := hS.out W hW
                go_simp
                refine (hSX.out _ hW).mono ?_
                rintro e w5 ⟨rfl, hbn⟩
                exact ⟨rfl, HD2.out _ (below_step hW hbn)⟩
              try simp only [Act.put, List.setIfInBounds_toArray, List.set_cons_zero, List.set_cons_succ]
              refine wpC_read (v := ?_) rfl (fun W hW => ?_) ?_
              rotate_left
              · clear hW; go_simp; try (with_reducible rfl)
              try simp only [Act.put, List.setIfInBounds_toArray, List.set_cons_zero, List.set_cons_succ]
              refine wpC_read (v := ?_) rfl (fun W hW => ?_) ?_
              rotate_left
              · clear hW; go_simp; try (with_reducible rfl)
              try simp only [Act.put, List.setIfInBounds_toArray, List.set_cons_zero, List.set_cons_succ]
              refine wpC_gread (v := ?_) rfl hgo10.out rfl (fun W hW => ?_) ?_
              rotate_left
              · clear hW; go_simp; try (with_reducible rfl)
              try simp only [Act.put, List.setIfInBounds_toArray, List.set_cons_zero, List.set_cons_succ]
              refine wpC_gread (v := ?_) rfl hgo10.out rfl (fun W hW => ?_) ?_
              rotate_left
              · clear hW; go_simp; try (with_reducible rfl)
              try simp only [Act.put, List.setIfInBounds_toArray, List.set_cons_zero, List.set_cons_succ]
              refine wpC_gread (v := ?_) rfl hgo10.out rfl (fun W hW => ?_) ?_
              rotate_left
              · clear hW; go_simp; try (with_reducible rfl)
              try simp only [Act.put, List.setIfInBounds_toArray, List.set_cons_zero, List.set_cons_succ]
              refine wpC_gread (v := ?_) rfl hgo10.out rfl (fun W hW => ?_) ?_
              rotate_left
              · replace hW := HD.out W hW
                obtain ⟨a0, a1, a2, a3, a4, b0, b1, b2, b3, b4, c0, c1, c2, c3, c4⟩ := hS.out W hW
                go_simp; try (with_reducible rfl)
              try simp only [Act.put, List.setIfInBounds_toArray, List.set_cons_zero, List.set_cons_succ]
              refine wpC_gread (v := ?_) rfl hgo10.out rfl (fun W hW => ?_) ?_
              rotate_left
              · clear hW; go_simp; try (with_reducible rfl)
              try simp only [Act.put, List.setIfInBounds_toArray, List.set_cons_zero, List.set_cons_succ]
              refine wpC_gread (v := ?_) rfl hgo10.out rfl (fun W hW => ?_) ?_
              rotate_left
              · clear hW; go_simp; try (with_reducible rfl)
              try simp only [Act.put, List.setIfInBounds_toArray, List.set_cons_zero, List.set_cons_succ]
              refine wpC_gread (v := ?_) rfl hgo10.out rfl (fun W hW => ?_) ?_
              rotate_left
              · clear hW; go_simp; try (with_reducible rfl)
              try simp only [Act.put, List.setIfInBounds_toArray, List.set_cons_zero, List.set_cons_succ]
              refine wpC_gread (v := ?_) rfl hgo10.out rfl (fun W hW => ?_) ?_
              rotate_left
              · replace hW := HD.out W hW
                obtain ⟨a0, a1, a2, a3, a4, b0, b1, b2, b3, b4, c0, c1, c2, c3, c4⟩ := hS.out W hW
                go_simp; try (with_reducible rfl)
              try simp only [Act.put, List.setIfInBounds_toArray, List.set_cons_zero, List.set_cons_succ]
              refine wpC_gread (v := .bool true) rfl hgo10.out rfl (fun W hW => ?_) ?_
              · replace hW := HD.out W hW
                obtain ⟨a0, a1, a2, a3, a4, b0, b1, b2, b3, b4, c0, c1, c2, c3, c4⟩ := hS.out W hW
                go_simp
                refine (hSY.out _ hW).mono ?_
                rintro e w5 ⟨rfl, hbn⟩
                exact ⟨rfl, HD2.out _ (below_step hW hbn)⟩
              try simp only [Act.put, List.setIfInBounds_toArray, List.set_cons_zero, List.set_cons_succ]
              refine wpC_gread (v := ?_) rfl hgo10.out rfl (fun W hW => ?_) ?_
              rotate_left
              · clear hW; go_simp; try (with_reducible rfl)
              try simp only [Act.put, List.setIfInBounds_toArray, List.set_cons_zero, List.set_cons_succ]
              refine wpC_read (v := ?_) rfl (fun W hW => ?_) ?_
              rotate_left
              · clear hW; go_simp; try (with_reducible rfl)
              try simp only [Act.put, List.setIfInBounds_toArray, List.set_cons_zero, List.set_cons_succ]
              refine wpQuiet_nil (HQQ.out _ (fun W hW => ?_))
              obtain ⟨a0, a1, a2, a3, a4, b0, b1, b2, b3, b4, c0, c1, c2, c3, c4⟩ := hS.out W hW
              go_wp2_with fail
              go_roundw
              case rel => exact ⟨i + 1, by omega, by go_num, HBR.out.trans (hW.mono HBR.out.size)⟩
              case measure => simp [intOf]; omega
            · have hie : i = qn := by omega
              have hni : ¬ (i : Int) < (qn : Int) := by omega
              have HBA := Lib.hid hbr
              have HB10 := Lib.hid (HB9.out.trans (hbr.mono HB9.out.size))
              obtain ⟨⟨c0, c1⟩, -⟩ := blk2T (KT9.out.below hbr KT9.out.lt)
              have hc := hNT.out wr HB10.out
              clear hbr
              go_wp2_with fail
              refine hc.mono ?_
              clear hc c0 c1
              rintro e w11 ⟨⟨⟨k1, k2, k3, k4⟩, ⟨k5, k6, k7, k8⟩⟩, he, hb11⟩
              replace he : e = .returned (.tuple #[.agg #[.slice k1 k2 k3, .slice k5 k6 k7], .int .i64 N, .int .i64 G]) := he
              subst he
              have hba := (hb11.alloc hb11.size (.cells #[.slice k1 k2 k3, .slice k5 k6 k7] 25))
              have hsl2 : gx < w11.heap.size := by have := (KX9.out.below HBA.out KX9.out.lt).lt; have := hb11.size; omega
              obtain ⟨⟨c0, c1⟩, -⟩ := blk2T ((KX9.out.below HBA.out KX9.out.lt).below hb11 (KX9.out.below HBA.out KX9.out.lt).lt)
              obtain ⟨W12, hW12⟩ : ∃ W, W = w11.alloc (.cells #[.slice k1 k2 k3, .slice k5 k6 k7] 25) := ⟨_, rfl⟩
              rw [← hW12] at hba
              have HBB := Lib.hid (HBA.out.trans (hba.mono HBA.out.size))
              have HB12 := Lib.hid (HB10.out.trans (hba.mono HB10.out.size))
              have hc := hNX.out W12 HB12.out
              clear hb11 hba
              go_wp2_with fail
              rw [← hW12]
              clear hW12
              refine hc.mono ?_
              clear hc c0 c1 hsl2
              rintro e w13 ⟨⟨⟨k1', k2', k3', k4'⟩, ⟨k5', k6', k7', k8'⟩⟩, he, hb13⟩
              replace he : e = .returned (.tuple #[.agg #[.slice k1' k2' k3', .slice k5' k6' k7'], .int .i64 N, .int .i64 G]) := he
              subst he
              have hba := (hb13.alloc hb13.size (.cells #[.slice k1' k2' k3', .slice k5' k6' k7'] 25))
              have hsl2 : gy < w13.heap.size := by have := (KY9.out.below HBB.out KY9.out.lt).lt; have := hb13.size; omega
              obtain ⟨⟨c0, c1⟩, -⟩ := blk2T ((KY9.out.below HBB.out KY9.out.lt).below hb13 (KY9.out.below HBB.out KY9.out.lt).lt)
              obtain ⟨W14, hW14⟩ : ∃ W, W = w13.alloc (.cells #[.slice k1' k2' k3', .slice k5' k6' k7'] 25) := ⟨_, rfl⟩
              rw [← hW14] at hba
              have HB14 := Lib.hid (HB12.out.trans (hba.mono HB12.out.size))
              have hc := hNY.out W14 HB14.out
              clear hb13 hba
              go_wp2_with fail
              rw [← hW14]
              clear hW14
              refine hc.mono ?_
              clear hc c0 c1 hsl2
              rintro e w15 ⟨⟨⟨k1'', k2'', k3'', k4''⟩, ⟨k5'', k6'', k7'', k8''⟩⟩, he, hb15⟩
              replace he : e = .returned (.tuple #[.agg #[.slice k1'' k2'' k3'', .slice k5'' k6'' k7''], .int .i64 N, .int .i64 G]) := he
              subst he
              have HBF := Lib.hid (WB7.out.trans (((HB14.out.trans (hb15.mono HB14.out.size)).alloc (by have := HB14.out.size; have := hb15.size; omega) (.cells #[.slice k1'' k2'' k3'', .slice k5'' k6'' k7''] 25)).mono WB7.out.size))
              have dN : (N == N) = true := by simp
              have dG : (G == G) = true := by simp
              clear hb15
              go_wp2_with fail
              go_ret
              exact ⟨rfl, HBF.out⟩
      · have df1 : (Fe == 0) = false := by simpa using hF0
        have df2 : (Fe != 0) = true := by simp [hF0]
        go_upto_region 7 with (fail)
        rw [← hW6]
        clear hW6
        rw [← hggy]
        clear hggy
        have kY0 : Blk W6 gy 25 #[.slice bA bn bc, .slice bB bm bd] := KY6.out
        have hKP : KeepsT 25 W6 ((W6.setCell ⟨gy, 0, none⟩ (.slice tA tn tc)).setCell ⟨gy, 1, none⟩ (.slice tB tm td)) := (KeepsT.refl _ _).trans ((KeepsT.of_box kY0).trans (KeepsT.of_box (kY0.set_ 0 (.slice tA tn tc))))
        have hKT7 : Blk ((W6.setCell ⟨gy, 0, none⟩ (.slice tA tn tc)).setCell ⟨gy, 1, none⟩ (.slice tB tm td)) w.heap.size 25 #[.slice tA tn tc, .slice tB tm td] := ((KT6.out.far (p := ⟨gy, 0, none⟩) hnty (.slice tA tn tc)).far (p := ⟨gy, 1, none⟩) hnty (.slice tB tm td))
        have hKX7 : Blk ((W6.setCell ⟨gy, 0, none⟩ (.slice tA tn tc)).setCell ⟨gy, 1, none⟩ (.slice tB tm td)) gx 25 #[.slice aA an ac, .slice aB am ad] := ((KX6.out.far (p := ⟨gy, 0, none⟩) hnxy (.slice tA tn tc)).far (p := ⟨gy, 1, none⟩) hnxy (.slice tB tm td))
        have hKY7 : Blk ((W6.setCell ⟨gy, 0, none⟩ (.slice tA tn tc)).setCell ⟨gy, 1, none⟩ (.slice tB tm td)) gy 25 #[.slice tA tn tc, .slice tB tm td] := ((kY0.set_ 0 (.slice tA tn tc)).set_ 1 (.slice tB tm td))
        have hWB7 : Below w.heap.size w ((W6.setCell ⟨gy, 0, none⟩ (.slice tA tn tc)).setCell ⟨gy, 1, none⟩ (.slice tB tm td)) := ((HB6w.out.setCell (by simp only; omega) _).setCell (by simp only; omega) _)
        obtain ⟨⟨g0, g1⟩, fg0, fg1⟩ := blk2T KX6.out
        obtain ⟨⟨y0, y1⟩, fy0, fy1⟩ := blk2T kY0
        obtain ⟨⟨y2, y3⟩, fy2, fy3⟩ := blk2T KY6.out
        obtain ⟨⟨t0, t1⟩, -⟩ := blk2T KT6.out
        have hnxt : gx ≠ w.heap.size := fun e => hntx e.symm
        have hnyx : gy ≠ gx := fun e => hnxy e.symm
        go_upto_region 11 with (fail)
        obtain ⟨W7, hW7⟩ : ∃ W, W = ((W6.setCell ⟨gy, 0, none⟩ (.slice tA tn tc)).setCell ⟨gy, 1, none⟩ (.slice tB tm td)) := ⟨_, rfl⟩
        rw [← hW7] at hKP hKT7 hKX7 hKY7 hWB7 ⊢

        have KT7 := Lib.hid hKT7
        have KX7 := Lib.hid hKX7
        have KY7 := Lib.hid hKY7
        have WB7 := Lib.hid hWB7
        have RT0 : TabR.rd W7 w.heap.size ⟨⟨tA, tn, tc, tl⟩, ⟨tB, tm, td, tk⟩⟩ := TabR.rd.below HR.out hWB7
        have RT : Hid (TabR.rd W7 W7.heap.size ⟨⟨tA, tn, tc, tl⟩, ⟨tB, tm, td, tk⟩⟩) := RT0.more hWB7.size
        have MX : Hid (HasMax W7) := HMX.out.below hWB7
        have LT : Hid (Like 1048577 T (TabR.con ⟨⟨tA, tn, tc, tl⟩, ⟨tB, tm, td, tk⟩⟩) y) := by
          show Like _ _ _ _
          rw [HTC.out]
          exact like_self HZC.out HTK.out y
        have RX : Hid (TabR.rd W7 W7.heap.size ⟨⟨aA, an, ac, al⟩, ⟨aB, am, ad, ak⟩⟩) := (HOA.out.keepT hKP).rd
        have LX : Hid (Like 1048577 T (TabR.con ⟨⟨aA, an, ac, al⟩, ⟨aB, am, ad, ak⟩⟩) y) := by
          show Like _ _ _ _
          rw [HCA.out]
          exact like_open HZC.out x z y hxl hzl (by rw [← HVV.out]; exact hV0) hxy
        have RY := RT
        have LY := LT
        clear hKP hKT7 hKX7 hKY7 hWB7 g0 g1 fg0 fg1 y0 y1 fy0 fy1 y2 y3 fy2 fy3 t0 t1 hnxt hnyx hW7 kY0 RT0
        have hOT : Hid (∀ W, Below W7.heap.size W7 W → Calls Tryd.prog 19 #[.agg #[.slice tA tn tc, .slice tB tm td], .string ⟨y.toArray⟩] W fun e w' => ∃ v, e = .returned v ∧ SesL (seOf T.opn y) v w' ∧ Below W.heap.size W w') := fun W hb => others_of T ⟨⟨tA, tn, tc, tl⟩, ⟨tB, tm, td, tk⟩⟩ y W ((RT.out.below hb).more hb.size) LT.out
        have hOX : Hid (∀ W, Below W7.heap.size W7 W → Calls Tryd.prog 19 #[.agg #[.slice aA an ac, .slice aB am ad], .string ⟨y.toArray⟩] W fun e w' => ∃ v, e = .returned v ∧ SesL (seOf T.opn y) v w' ∧ Below W.heap.size W w') := fun W hb => others_of T ⟨⟨aA, an, ac, al⟩, ⟨aB, am, ad, ak⟩⟩ y W ((RX.out.below hb).more hb.size) LX.out
        have hOY : Hid (∀ W, Below W7.heap.size W7 W → Calls Tryd.prog 19 #[.agg #[.slice tA tn tc, .slice tB tm td], .string ⟨y.toArray⟩] W fun e w' => ∃ v, e = .returned v ∧ SesL (seOf T.opn y) v w' ∧ Below W.heap.size W w') := fun W hb => others_of T ⟨⟨tA, tn, tc, tl⟩, ⟨tB, tm, td, tk⟩⟩ y W ((RY.out.below hb).more hb.size) LY.out
        have hNT : Hid (∀ W, Below W7.heap.size W7 W → Calls Tryd.prog 10 #[.agg #[.slice tA tn tc, .slice tB tm td], .string ⟨y.toArray⟩, .string ⟨z.toArray⟩] W fun e w' => ∃ s : TabR, e = .returned (.tuple #[s.val, .int .i64 N, .int .i64 G]) ∧ Below W.heap.size W w') := fun W hb => by rw [HNN.out, HGG.out]; exact others_open T ⟨⟨tA, tn, tc, tl⟩, ⟨tB, tm, td, tk⟩⟩ y z hyl hzl W ((RT.out.below hb).more hb.size) LT.out HTK.out (MX.out.below hb)
        have hNX : Hid (∀ W, Below W7.heap.size W7 W → Calls Tryd.prog 10 #[.agg #[.slice aA an ac, .slice aB am ad], .string ⟨y.toArray⟩, .string ⟨z.toArray⟩] W fun e w' => ∃ s : TabR, e = .returned (.tuple #[s.val, .int .i64 N, .int .i64 G]) ∧ Below W.heap.size W w') := fun W hb => by rw [HNN.out, HGG.out]; exact others_open T ⟨⟨aA, an, ac, al⟩, ⟨aB, am, ad, ak⟩⟩ y z hyl hzl W ((RX.out.below hb).more hb.size) LX.out HTK.out (MX.out.below hb)
        have hNY : Hid (∀ W, Below W7.heap.size W7 W → Calls Tryd.prog 10 #[.agg #[.slice tA tn tc, .slice tB tm td], .string ⟨y.toArray⟩, .string ⟨z.toArray⟩] W fun e w' => ∃ s : TabR, e = .returned (.tuple #[s.val, .int .i64 N, .int .i64 G]) ∧ Below W.heap.size W w') := fun W hb => by rw [HNN.out, HGG.out]; exact others_open T ⟨⟨tA, tn, tc, tl⟩, ⟨tB, tm, td, tk⟩⟩ y z hyl hzl W ((RY.out.below hb).more hb.size) LY.out HTK.out (MX.out.below hb)
        have hc := hOT.out W7 (Below.refl _ _)
        obtain ⟨⟨c0, c1⟩, -⟩ := blk2T KT7.out
        go_wp2_with fail
        refine hc.mono ?_
        clear hc c0 c1
        rintro e w8 ⟨v0, rfl, hs0, hb8⟩
        have HS0 := Lib.hid hs0
        obtain ⟨⟨sA, sn, sc, sl⟩, rfl, -, -, -⟩ := hs0
        have HB8 := Lib.hid hb8
        have KT8 := Lib.hid (KT7.out.below hb8 KT7.out.lt)
        have KX8 := Lib.hid (KX7.out.below hb8 KX7.out.lt)
        have KY8 := Lib.hid (KY7.out.below hb8 KY7.out.lt)
        have hOX : Hid (∀ W, Below w8.heap.size w8 W → Calls Tryd.prog 19 #[.agg #[.slice aA an ac, .slice aB am ad], .string ⟨y.toArray⟩] W fun e w' => ∃ v, e = .returned v ∧ SesL (seOf T.opn y) v w' ∧ Below W.heap.size W w') := fun W hb => hOX.out W (HB8.out.trans (hb.mono HB8.out.size))
        have hOY : Hid (∀ W, Below w8.heap.size w8 W → Calls Tryd.prog 19 #[.agg #[.slice tA tn tc, .slice tB tm td], .string ⟨y.toArray⟩] W fun e w' => ∃ v, e = .returned v ∧ SesL (seOf T.opn y) v w' ∧ Below W.heap.size W w') := fun W hb => hOY.out W (HB8.out.trans (hb.mono HB8.out.size))
        clear hb8
        go_wp2_with fail
        refine wp_region_good2 (by kernel_rfl) (by kernel_rfl) [(fun v _ => v = .agg #[.slice aA an ac, .slice aB am ad]),
          (fun v _ => v = .string ⟨y.toArray⟩),
          (SesL (seOf T.opn y)),
          (fun v _ => v = .agg #[.slice tA tn tc, .slice tB tm td]),
          (fun v _ => v = .string ⟨y.toArray⟩),
          (SesL (seOf T.opn y)),
          (SesL (seOf T.opn y)),
          (SesL (seOf T.opn y))] ?_ ?_ ?_
        · repeat' (first | exact stays_nil | refine stays_cons ?_ ?_ | exact Stays.pure | exact SesL.stays _)
        · intro i oo ho m2 W hb0 hmi hcl hdeps AA KK hA hK
          rcases i with _ | _ | _ | _ | _ | _ | _ | _ | i
          · injection ho with ho
            subst ho
            have ef11 : AA.tmps[11]?.getD undef = .pointer (some ⟨gx, 0, none⟩) := by rw [hA]; exact tmps_free (by kernel_rfl)
            clear hA hdeps hcl hmi
            obtain ⟨⟨b0, b1⟩, -⟩ := blk2T (KX8.out.below hb0 KX8.out.lt)
            have hK0 : KK (AA.put (some 63) _) _ := hK (.agg #[.slice aA an ac, .slice aB am ad]) _ (Below.refl _ _) (Eq.refl _)
            clear hK
            go_simp
            exact hK0
          · injection ho with ho
            subst ho
            have ef2 : AA.tmps[2]?.getD undef = .string ⟨y.toArray⟩ := by rw [hA]; exact tmps_free (by kernel_rfl)
            clear hA hdeps hcl hmi
            have hK0 : KK (AA.put (some 64) _) _ := hK (.string ⟨y.toArray⟩) _ (Below.refl _ _) (Eq.refl _)
            clear hK
            go_simp
            exact hK0
          · injection ho with ho
            subst ho
            obtain ⟨x0, hx0, hg0⟩ := hdeps ⟨0, .data⟩ (by simp) rfl
            have hg0 : x0 = .agg #[.slice aA an ac, .slice aB am ad] := hg0
            subst hg0
            have e0 : AA.tmps[63]?.getD undef = .agg #[.slice aA an ac, .slice aB am ad] := by rw [hA]; exact tmps_own (by kernel_rfl) hx0 (of_decide_eq_true (by kernel_rfl))
            obtain ⟨x1, hx1, hg1⟩ := hdeps ⟨1, .data⟩ (by simp) rfl
            have hg1 : x1 = .string ⟨y.toArray⟩ := hg1
            subst hg1
            have e1 : AA.tmps[64]?.getD undef = .string ⟨y.toArray⟩ := by rw [hA]; exact tmps_own (by kernel_rfl) hx1 (of_decide_eq_true (by kernel_rfl))
            clear hA hdeps hcl hmi hx0 hx1
            have hKK := Lib.hid hK
            clear hK
            go_simp
            refine (hOX.out _ (hb0)).mono ?_
            rintro e w5 ⟨v, rfl, hsl, hbn⟩
            exact hKK.out _ _ hbn hsl
          · injection ho with ho
            subst ho
            have ef14 : AA.tmps[14]?.getD undef = .pointer (some ⟨gy, 0, none⟩) := by rw [hA]; exact tmps_free (by kernel_rfl)
            clear hA hdeps hcl hmi
            obtain ⟨⟨b0, b1⟩, -⟩ := blk2T (KY8.out.below hb0 KY8.out.lt)
            have hK0 : KK (AA.put (some 66) _) _ := hK (.agg #[.slice tA tn tc, .slice tB tm td]) _ (Below.refl _ _) (Eq.refl _)
            clear hK
            go_simp
            exact hK0
          · injection ho with ho
            subst ho
            have ef2 : AA.tmps[2]?.getD undef = .string ⟨y.toArray⟩ := by rw [hA]; exact tmps_free (by kernel_rfl)
            clear hA hdeps hcl hmi
            have hK0 : KK (AA.put (some 67) _) _ := hK (.string ⟨y.toArray⟩) _ (Below.refl _ _) (Eq.refl _)
            clear hK
            go_simp
            exact hK0
          · injection ho with ho
            subst ho
            obtain ⟨x3, hx3, hg3⟩ := hdeps ⟨3, .data⟩ (by simp) rfl
            have hg3 : x3 = .agg #[.slice tA tn tc, .slice tB tm td] := hg3
            subst hg3
            have e3 : AA.tmps[66]?.getD undef = .agg #[.slice tA tn tc, .slice tB tm td] := by rw [hA]; exact tmps_own (by kernel_rfl) hx3 (of_decide_eq_true (by kernel_rfl))
            obtain ⟨x4, hx4, hg4⟩ := hdeps ⟨4, .data⟩ (by simp) rfl
            have hg4 : x4 = .string ⟨y.toArray⟩ := hg4
            subst hg4
            have e4 : AA.tmps[67]?.getD undef = .string ⟨y.toArray⟩ := by rw [hA]; exact tmps_own (by kernel_rfl) hx4 (of_decide_eq_true (by kernel_rfl))
            clear hA hdeps hcl hmi hx3 hx4
            have hKK := Lib.hid hK
            clear hK
            go_simp
            refine (hOY.out _ (hb0)).mono ?_
            rintro e w5 ⟨v, rfl, hsl, hbn⟩
            exact hKK.out _ _ hbn hsl
          · injection ho with ho
            subst ho
            obtain ⟨x2, hx2, hg2⟩ := hdeps ⟨2, .data⟩ (by simp) rfl
            have hg2 : SesL (seOf T.opn y) x2 W := hg2
            have e2 : AA.tmps[65]?.getD undef = x2 := by rw [hA]; exact tmps_own (by kernel_rfl) hx2 (of_decide_eq_true (by kernel_rfl))
            clear hA hdeps hcl hmi hx2
            have hK0 : KK (AA.put (some 17) _) _ := hK x2 _ (Below.refl _ _) hg2
            clear hK
            go_simp
            exact hK0
          · injection ho with ho
            subst ho
            obtain ⟨x5, hx5, hg5⟩ := hdeps ⟨5, .data⟩ (by simp) rfl
            have hg5 : SesL (seOf T.opn y) x5 W := hg5
            have e5 : AA.tmps[68]?.getD undef = x5 := by rw [hA]; exact tmps_own (by kernel_rfl) hx5 (of_decide_eq_true (by kernel_rfl))
            clear hA hdeps hcl hmi hx5
            have hK0 : KK (AA.put (some 18) _) _ := hK x5 _ (Below.refl _ _) hg5
            clear hK
            go_simp
            exact hK0
          · simp at ho
        · intro m W hbx hall
          obtain ⟨x0, m0, g0⟩ := hall 0 (by simp)
          replace g0 : x0 = .agg #[.slice aA an ac, .slice aB am ad] := g0
          subst g0
          obtain ⟨x1, m1, g1⟩ := hall 1 (by simp)
          replace g1 : x1 = .string ⟨y.toArray⟩ := g1
          subst g1
          obtain ⟨x2, m2, g2⟩ := hall 2 (by simp)
          replace g2 : SesL (seOf T.opn y) x2 W := g2
          obtain ⟨x3, m3, g3⟩ := hall 3 (by simp)
          replace g3 : x3 = .agg #[.slice tA tn tc, .slice tB tm td] := g3
          subst g3
          obtain ⟨x4, m4, g4⟩ := hall 4 (by simp)
          replace g4 : x4 = .string ⟨y.toArray⟩ := g4
          subst g4
          obtain ⟨x5, m5, g5⟩ := hall 5 (by simp)
          replace g5 : SesL (seOf T.opn y) x5 W := g5
          obtain ⟨x6, m6, g6⟩ := hall 6 (by simp)
          replace g6 : SesL (seOf T.opn y) x6 W := g6
          obtain ⟨x7, m7, g7⟩ := hall 7 (by simp)
          replace g7 : SesL (seOf T.opn y) x7 W := g7
          rw [frameM_all (by kernel_rfl) [.agg #[.slice aA an ac, .slice aB am ad], .string ⟨y.toArray⟩, x2, .agg #[.slice tA tn tc, .slice tB tm td], .string ⟨y.toArray⟩, x5, x6, x7] rfl (fun i hi => by
              rcases i with _ | _ | _ | _ | _ | _ | _ | _ | i
              · exact m0
              · exact m1
              · exact m2
              · exact m3
              · exact m4
              · exact m5
              · exact m6
              · exact m7
              · simp at hi; omega)]
          clear hall m0 m1 m2 m3 m4 m5 m6 m7
          simp only [putAll, Act.put, List.setIfInBounds_toArray, List.set_cons_succ, List.set_cons_zero]
          have HS9 := Lib.hid (SesL.stays _ _ _ _ HS0.out hbx)
          have HB9 := Lib.hid (HB8.out.trans (hbx.mono HB8.out.size))
          have KT9 := Lib.hid (KT8.out.below hbx KT8.out.lt)
          have KX9 := Lib.hid (KX8.out.below hbx KX8.out.lt)
          have KY9 := Lib.hid (KY8.out.below hbx KY8.out.lt)
          obtain ⟨⟨pA, pn, pc, pl⟩, rfl, hp1, hp2, hp3⟩ := g6
          obtain ⟨⟨qA, qn, qc, ql⟩, rfl, hq1, hq2, hq3⟩ := g7
          obtain ⟨⟨sA', sn', sc', sl'⟩, hv0, hr1, hr2, hr3⟩ := HS9.out
          injection hv0 with hv1 hv2 hv3
          simp only at hv1 hv2 hv3
          subst hv1 hv2 hv3
          clear g2 g5 hOX hOY hOT hbx HS0 HS9 HB8 KT8 KX8 KY8 KT7 KX7 KY7
          have hnp : pn = sn := by
            have h1 : pn = pl.length := hp1.1
            have h2 : sn = sl'.length := hr1.1
            have h3 : pl.length = sl'.length := by simpa using congrArg List.length (hp3.trans hr3.symm)
            omega
          have hnq : qn = sn := by
            have h1 : qn = ql.length := hq1.1
            have h2 : sn = sl'.length := hr1.1
            have h3 : ql.length = sl'.length := by simpa using congrArg List.length (hq3.trans hr3.symm)
            omega
          have hq16 : qn ≤ 16 := by
            have h1 : qn = ql.length := hq1.1
            have h3 : ql.length = (seOf T.opn y).length := by simpa using congrArg List.length hq3
            have := count_le T HTK.out y
            omega
          subst hnp
          subst hnq
          have HP1 := Lib.hid hp1
          have HP2 := Lib.hid hp2
          have HQ1 := Lib.hid hq1
          have HQ2 := Lib.hid hq2
          have HR1 := Lib.hid hr1
          have HR2 := Lib.hid hr2
          have HPE := Lib.hid (hp3.trans hr3.symm)
          have HQE := Lib.hid (hq3.trans hr3.symm)
          clear hp1 hp2 hp3 hq1 hq2 hq3 hr1 hr2 hr3
          obtain ⟨W9, hW9⟩ : ∃ X, X = W := ⟨_, rfl⟩
          rw [← hW9] at HB9 KT9 KX9 KY9 HP1 HP2 HQ1 HQ2 HR1 HR2
          go_wp2_with fail
          rw [← hW9]
          clear hW9 W
          go_loopw [19] (fun j wr => ∃ i : Nat, i ≤ qn ∧ j = .int .i64 (i : Int) ∧ Below W9.heap.size W9 wr) (fun j _ => qn - (intOf j).toNat)
          case atStart => exact ⟨0, Nat.zero_le _, rfl, Below.refl _ _⟩
          case round =>
            obtain ⟨i, hi, rfl, hbr⟩ := hrel
            by_cases hlt : i < qn
            · have hii : (i : Int) < (qn : Int) := by omega
              have hi0 : (0 : Int) ≤ (i : Int) := by omega
              have hsz9 := hbr.size
              obtain ⟨ad, rfl, hadB, a0, a1, a2, a3, a4⟩ := ses_at ((HP1.out.below hbr).2.2) (show qn = pl.length from HP1.out.1) hlt
              obtain ⟨ae, rfl, haeB, b0, b1, b2, b3, b4⟩ := ses_at ((HR1.out.below hbr).2.2) (show qn = sl'.length from HR1.out.1) hlt
              obtain ⟨af, rfl, hafB, c0, c1, c2, c3, c4⟩ := ses_at ((HQ1.out.below hbr).2.2) (show qn = ql.length from HQ1.out.1) hlt
              have hpl : i < pl.length := by have : qn = pl.length := HP1.out.1; omega
              have hsl : i < sl'.length := by have : qn = sl'.length := HR1.out.1; omega
              have hql : i < ql.length := by have : qn = ql.length := HQ1.out.1; omega
              have hcp : (pl[i]'hpl).con = (sl'[i]'hsl).con := by
                have := congrArg (fun l : List SesC => l[i]?) HPE.out
                simpa [List.getElem?_map, List.getElem?_eq_getElem hpl, List.getElem?_eq_getElem hsl] using this
              have hcq : (ql[i]'hql).con = (sl'[i]'hsl).con := by
                have := congrArg (fun l : List SesC => l[i]?) HQE.out
                simpa [List.getElem?_map, List.getElem?_eq_getElem hql, List.getElem?_eq_getElem hsl] using this
              have hxp := HP2.out _ (List.getElem_mem hpl)
              have hxr := HR2.out _ (List.getElem_mem hsl)
              have hxq := HQ2.out _ (List.getElem_mem hql)
              obtain ⟨yp, hyp⟩ : ∃ y, y = pl[i]'hpl := ⟨_, rfl⟩
              obtain ⟨yr, hyr⟩ : ∃ y, y = sl'[i]'hsl := ⟨_, rfl⟩
              obtain ⟨yq, hyq⟩ : ∃ y, y = ql[i]'hql := ⟨_, rfl⟩
              rw [← hyp] at a0 a1 a2 a3 a4 hcp hxp
              rw [← hyr] at b0 b1 b2 b3 b4 hcp hcq hxr
              rw [← hyq] at c0 c1 c2 c3 c4 hcq hxq
              have hSX : Hid (∀ W, Below wr.heap.size wr W → Calls Tryd.prog 16 #[.agg (encSes yp).toArray, .agg (encSes yr).toArray] W fun e w' => e = .returned (.bool true) ∧ Below W.heap.size W w') := fun W hb => sameS_any yp yr hcp W W9.heap.size (by have := hb.size; omega) (hxp.below (hbr.trans (hb.mono hsz9))) (hxr.below (hbr.trans (hb.mono hsz9)))
              have hSY : Hid (∀ W, Below wr.heap.size wr W → Calls Tryd.prog 16 #[.agg (encSes yq).toArray, .agg (encSes yr).toArray] W fun e w' => e = .returned (.bool true) ∧ Below W.heap.size W w') := fun W hb => sameS_any yq yr hcq W W9.heap.size (by have := hb.size; omega) (hxq.below (hbr.trans (hb.mono hsz9))) (hxr.below (hbr.trans (hb.mono hsz9)))
              obtain ⟨ft, fh, fi, ⟨fA, fn, fc, fl⟩, fb⟩ := yp
              obtain ⟨ut, uh, ui, ⟨uA, un, uc, ul⟩, ub⟩ := yr
              obtain ⟨vt, vh, vi, ⟨vA, vn, vc, vl⟩, vb⟩ := yq
              simp only at a0 a1 a2 a3 a4 b0 b1 b2 b3 b4 c0 c1 c2 c3 c4
              simp only [encSes] at hSX hSY
              have lp : (ad.add (i * 5)).block < wr.heap.size := by rw [block_of_add]; omega
              have lr : (ae.add (i * 5)).block < wr.heap.size := by rw [block_of_add]; omega
              have lq : (af.add (i * 5)).block < wr.heap.size := by rw [block_of_add]; omega
              have hS := Lib.hid (fun (W' : World) (hB' : Below wr.heap.size wr W') => (⟨(hB'.cell (p := (ad.add (i * 5))) lp).trans a0, (hB'.cell (p := ⟨(ad.add (i * 5)).block, (ad.add (i * 5)).off + 1, none⟩) lp).trans a1, (hB'.cell (p := ⟨(ad.add (i * 5)).block, (ad.add (i * 5)).off + 2, none⟩) lp).trans a2, (hB'.cell (p := ⟨(ad.add (i * 5)).block, (ad.add (i * 5)).off + 3, none⟩) lp).trans a3, (hB'.cell (p := ⟨(ad.add (i * 5)).block, (ad.add (i * 5)).off + 4, none⟩) lp).trans a4, (hB'.cell (p := (ae.add (i * 5))) lr).trans b0, (hB'.cell (p := ⟨(ae.add (i * 5)).block, (ae.add (i * 5)).off + 1, none⟩) lr).trans b1, (hB'.cell (p := ⟨(ae.add (i * 5)).block, (ae.add (i * 5)).off + 2, none⟩) lr).trans b2, (hB'.cell (p := ⟨(ae.add (i * 5)).block, (ae.add (i * 5)).off + 3, none⟩) lr).trans b3, (hB'.cell (p := ⟨(ae.add (i * 5)).block, (ae.add (i * 5)).off + 4, none⟩) lr).trans b4, (hB'.cell (p := (af.add (i * 5))) lq).trans c0, (hB'.cell (p := ⟨(af.add (i * 5)).block, (af.add (i * 5)).off + 1, none⟩) lq).trans c1, (hB'.cell (p := ⟨(af.add (i * 5)).block, (af.add (i * 5)).off + 2, none⟩) lq).trans c2, (hB'.cell (p := ⟨(af.add (i * 5)).block, (af.add (i * 5)).off + 3, none⟩) lq).trans c3, (hB'.cell (p := ⟨(af.add (i * 5)).block, (af.add (i * 5)).off + 4, none⟩) lq).trans c4⟩ : W'.cell? (ad.add (i * 5)) = some (.string ⟨ft.toArray⟩) ∧ W'.cell? ⟨(ad.add (i * 5)).block, (ad.add (i * 5)).off + 1, none⟩ = some (.int .i64 fh) ∧ W'.cell? ⟨(ad.add (i * 5)).block, (ad.add (i * 5)).off + 2, none⟩ = some (.string ⟨fi.toArray⟩) ∧ W'.cell? ⟨(ad.add (i * 5)).block, (ad.add (i * 5)).off + 3, none⟩ = some (.slice fA fn fc) ∧ W'.cell? ⟨(ad.add (i * 5)).block, (ad.add (i * 5)).off + 4, none⟩ = some (.bool fb) ∧ W'.cell? (ae.add (i * 5)) = some (.string ⟨ut.toArray⟩) ∧ W'.cell? ⟨(ae.add (i * 5)).block, (ae.add (i * 5)).off + 1, none⟩ = some (.int .i64 uh) ∧ W'.cell? ⟨(ae.add (i * 5)).block, (ae.add (i * 5)).off + 2, none⟩ = some (.string ⟨ui.toArray⟩) ∧ W'.cell? ⟨(ae.add (i * 5)).block, (ae.add (i * 5)).off + 3, none⟩ = some (.slice uA un uc) ∧ W'.cell? ⟨(ae.add (i * 5)).block, (ae.add (i * 5)).off + 4, none⟩ = some (.bool ub) ∧ W'.cell? (af.add (i * 5)) = some (.string ⟨vt.toArray⟩) ∧ W'.cell? ⟨(af.add (i * 5)).block, (af.add (i * 5)).off + 1, none⟩ = some (.int .i64 vh) ∧ W'.cell? ⟨(af.add (i * 5)).block, (af.add (i * 5)).off + 2, none⟩ = some (.string ⟨vi.toArray⟩) ∧ W'.cell? ⟨(af.add (i * 5)).block, (af.add (i * 5)).off + 3, none⟩ = some (.slice vA vn vc) ∧ W'.cell? ⟨(af.add (i * 5)).block, (af.add (i * 5)).off + 4, none⟩ = some (.bool vb)))
              have HBR := Lib.hid hbr
              have hb4 := Below.refl wr.heap.size wr
              clear a0 a1 a2 a3 a4 b0 b1 b2 b3 b4 c0 c1 c2 c3 c4 lp lr lq hyp hyr hyq hcp hcq hxp hxr hxq hbr
              go_wp2_with fail
              refine wpC_region (fun W' => Below wr.heap.size wr W') (by kernel_rfl) (by kernel_rfl) (hb4.drew) (fun OPS D QQ HO hD hD2 hQQ => ?_)
              have hgo10 : Hid ((OPS[10]?).bind (·.dst) = some 97) := by show _ = _; rw [HO.out]; rfl
              clear HO
              have HD := Lib.hid hD
              have HD2 := Lib.hid hD2
              have HQQ := Lib.hid hQQ
              clear hD hD2 hQQ
              refine wpC_read (v := ?_) rfl (fun W hW => ?_) ?_
              rotate_left
              · clear hW; go_simp; try (with_reducible rfl)
              try simp only [Act.put, List.setIfInBounds_toArray, List.set_cons_zero, List.set_cons_succ]
              refine wpC_read (v := ?_) rfl (fun W hW => ?_) ?_
              rotate_left
              · clear hW; go_simp; try (with_reducible rfl)
              try simp only [Act.put, List.setIfInBounds_toArray, List.set_cons_zero, List.set_cons_succ]
              refine wpC_read (v := ?_) rfl (fun W hW => ?_) ?_
              rotate_left
              · clear hW; go_simp; try (with_reducible rfl)
              try simp only [Act.put, List.setIfInBounds_toArray, List.set_cons_zero, List.set_cons_succ]
              refine wpC_read (v := ?_) rfl (fun W hW => ?_) ?_
              rotate_left
              · replace hW := HD.out W hW
                obtain ⟨a0, a1, a2, a3, a4, b0, b1, b2, b3, b4, c0, c1, c2, c3, c4⟩ := hS.out W hW
                go_simp; try (with_reducible rfl)
              try simp only [Act.put, List.setIfInBounds_toArray, List.set_cons_zero, List.set_cons_succ]
              refine wpC_read (v := ?_) rfl (fun W hW => ?_) ?_
              rotate_left
              · clear hW; go_simp; try (with_reducible rfl)
              try simp only [Act.put, List.setIfInBounds_toArray, List.set_cons_zero, List.set_cons_succ]
              refine wpC_read (v := ?_) rfl (fun W hW => ?_) ?_
              rotate_left
              · clear hW; go_simp; try (with_reducible rfl)
              try simp only [Act.put, List.setIfInBounds_toArray, List.set_cons_zero, List.set_cons_succ]
              refine wpC_read (v := ?_) rfl (fun W hW => ?_) ?_
              rotate_left
              · clear hW; go_simp; try (with_reducible rfl)
              try simp only [Act.put, List.setIfInBounds_toArray, List.set_cons_zero, List.set_cons_succ]
              refine wpC_read (v := ?_) rfl (fun W hW => ?_) ?_
              rotate_left
              · replace hW := HD.out W hW
                obtain ⟨a0, a1, a2, a3, a4, b0, b1, b2, b3, b4, c0, c1, c2, c3, c4⟩ := hS.out W hW
                go_simp; try (with_reducible rfl)
              try simp only [Act.put, List.setIfInBounds_toArray, List.set_cons_zero, List.set_cons_succ]
              refine wpC_read (v := .bool true) rfl (fun W hW => ?_) ?_
              · replace hW := HD.out W hW
                obtain ⟨a0, a1, a2, a3, a4, b0, b1, b2, b3, b4, c0, c1, c2, c3, c4⟩ := hS.out W hW
                go_simp
                refine (hSX.out _ hW).mono ?_
                rintro e w5 ⟨rfl, hbn⟩
                exact ⟨rfl, HD2.out _ (below_step hW hbn)⟩
              try simp only [Act.put, List.setIfInBounds_toArray, List.set_cons_zero, List.set_cons_succ]
              refine wpC_read (v := ?_) rfl (fun W hW => ?_) ?_
              rotate_left
              · clear hW; go_simp; try (with_reducible rfl)
              try simp only [Act.put, List.setIfInBounds_toArray, List.set_cons_zero, List.set_cons_succ]
              refine wpC_read (v := ?_) rfl (fun W hW => ?_) ?_
              rotate_left
              · clear hW; go_simp; try (with_reducible rfl)
              try simp only [Act.put, List.setIfInBounds_toArray, List.set_cons_zero, List.set_cons_succ]
              refine wpC_gread (v := ?_) rfl hgo10.out rfl (fun W hW => ?_) ?_
              rotate_left
              · clear hW; go_simp; try (with_reducible rfl)
              try simp only [Act.put, List.setIfInBounds_toArray, List.set_cons_zero, List.set_cons_succ]
              refine wpC_gread (v := ?_) rfl hgo10.out rfl (fun W hW => ?_) ?_
              rotate_left
              · clear hW; go_simp; try (with_reducible rfl)
              try simp only [Act.put, List.setIfInBounds_toArray, List.set_cons_zero, List.set_cons_succ]
              refine wpC_gread (v := ?_) rfl hgo10.out rfl (fun W hW => ?_) ?_
              rotate_left
              · clear hW; go_simp; try (with_reducible rfl)
              try simp only [Act.put, List.setIfInBounds_toArray, List.set_cons_zero, List.set_cons_succ]
              refine wpC_gread (v := ?_) rfl hgo10.out rfl (fun W hW => ?_) ?_
              rotate_left
              · replace hW := HD.out W hW
                obtain ⟨a0, a1, a2, a3, a4, b0, b1, b2, b3, b4, c0, c1, c2, c3, c4⟩ := hS.out W hW
                go_simp; try (with_reducible rfl)
              try simp only [Act.put, List.setIfInBounds_toArray, List.set_cons_zero, List.set_cons_succ]
              refine wpC_gread (v := ?_) rfl hgo10.out rfl (fun W hW => ?_) ?_
              rotate_left
              · clear hW; go_simp; try (with_reducible rfl)
              try simp only [Act.put, List.setIfInBounds_toArray, List.set_cons_zero, List.set_cons_succ]
              refine wpC_gread (v := ?_) rfl hgo10.out rfl (fun W hW => ?_) ?_
              rotate_left
              · clear hW; go_simp; try (with_reducible rfl)
              try simp only [Act.put, List.setIfInBounds_toArray, List.set_cons_zero, List.set_cons_succ]
              refine wpC_gread (v := ?_) rfl hgo10.out rfl (fun W hW => ?_) ?_
              rotate_left
              · clear hW; go_simp; try (with_reducible rfl)
              try simp only [Act.put, List.setIfInBounds_toArray, List.set_cons_zero, List.set_cons_succ]
              refine wpC_gread (v := ?_) rfl hgo10.out rfl (fun W hW => ?_) ?_
              rotate_left
              · replace hW := HD.out W hW
                obtain ⟨a0, a1, a2, a3, a4, b0, b1, b2, b3, b4, c0, c1, c2, c3, c4⟩ := hS.out W hW
                go_simp; try (with_reducible rfl)
              try simp only [Act.put, List.setIfInBounds_toArray, List.set_cons_zero, List.set_cons_succ]
              refine wpC_gread (v := .bool true) rfl hgo10.out rfl (fun W hW => ?_) ?_
              · replace hW := HD.out W hW
                obtain ⟨a0, a1, a2, a3, a4, b0, b1, b2, b3, b4, c0, c1, c2, c3, c4⟩ := hS.out W hW
                go_simp
                refine (hSY.out _ hW).mono ?_
                rintro e w5 ⟨rfl, hbn⟩
                exact ⟨rfl, HD2.out _ (below_step hW hbn)⟩
              try simp only [Act.put, List.setIfInBounds_toArray, List.set_cons_zero, List.set_cons_succ]
              refine wpC_gread (v := ?_) rfl hgo10.out rfl (fun W hW => ?_) ?_
              rotate_left
              · clear hW; go_simp; try (with_reducible rfl)
              try simp only [Act.put, List.setIfInBounds_toArray, List.set_cons_zero, List.set_cons_succ]
              refine wpC_read (v := ?_) rfl (fun W hW => ?_) ?_
              rotate_left
              · clear hW; go_simp; try (with_reducible rfl)
              try simp only [Act.put, List.setIfInBounds_toArray, List.set_cons_zero, List.set_cons_succ]
              refine wpQuiet_nil (HQQ.out _ (fun W hW => ?_))
              obtain ⟨a0, a1, a2, a3, a4, b0, b1, b2, b3, b4, c0, c1, c2, c3, c4⟩ := hS.out W hW
              go_wp2_with fail
              go_roundw
              case rel => exact ⟨i + 1, by omega, by go_num, HBR.out.trans (hW.mono HBR.out.size)⟩
              case measure => simp [intOf]; omega
            · have hie : i = qn := by omega
              have hni : ¬ (i : Int) < (qn : Int) := by omega
              have HBA := Lib.hid hbr
              have HB10 := Lib.hid (HB9.out.trans (hbr.mono HB9.out.size))
              obtain ⟨⟨c0, c1⟩, -⟩ := blk2T (KT9.out.below hbr KT9.out.lt)
              have hc := hNT.out wr HB10.out
              clear hbr
              go_wp2_with fail
              refine hc.mono ?_
              clear hc c0 c1
              rintro e w11 ⟨⟨⟨k1, k2, k3, k4⟩, ⟨k5, k6, k7, k8⟩⟩, he, hb11⟩
              replace he : e = .returned (.tuple #[.agg #[.slice k1 k2 k3, .slice k5 k6 k7], .int .i64 N, .int .i64 G]) := he
              subst he
              have hba := (hb11.alloc hb11.size (.cells #[.slice k1 k2 k3, .slice k5 k6 k7] 25))
              have hsl2 : gx < w11.heap.size := by have := (KX9.out.below HBA.out KX9.out.lt).lt; have := hb11.size; omega
              obtain ⟨⟨c0, c1⟩, -⟩ := blk2T ((KX9.out.below HBA.out KX9.out.lt).below hb11 (KX9.out.below HBA.out KX9.out.lt).lt)
              obtain ⟨W12, hW12⟩ : ∃ W, W = w11.alloc (.cells #[.slice k1 k2 k3, .slice k5 k6 k7] 25) := ⟨_, rfl⟩
              rw [← hW12] at hba
              have HBB := Lib.hid (HBA.out.trans (hba.mono HBA.out.size))
              have HB12 := Lib.hid (HB10.out.trans (hba.mono HB10.out.size))
              have hc := hNX.out W12 HB12.out
              clear hb11 hba
              go_wp2_with fail
              rw [← hW12]
              clear hW12
              refine hc.mono ?_
              clear hc c0 c1 hsl2
              rintro e w13 ⟨⟨⟨k1', k2', k3', k4'⟩, ⟨k5', k6', k7', k8'⟩⟩, he, hb13⟩
              replace he : e = .returned (.tuple #[.agg #[.slice k1' k2' k3', .slice k5' k6' k7'], .int .i64 N, .int .i64 G]) := he
              subst he
              have hba := (hb13.alloc hb13.size (.cells #[.slice k1' k2' k3', .slice k5' k6' k7'] 25))
              have hsl2 : gy < w13.heap.size := by have := (KY9.out.below HBB.out KY9.out.lt).lt; have := hb13.size; omega
              obtain ⟨⟨c0, c1⟩, -⟩ := blk2T ((KY9.out.below HBB.out KY9.out.lt).below hb13 (KY9.out.below HBB.out KY9.out.lt).lt)
              obtain ⟨W14, hW14⟩ : ∃ W, W = w13.alloc (.cells #[.slice k1' k2' k3', .slice k5' k6' k7'] 25) := ⟨_, rfl⟩
              rw [← hW14] at hba
              have HB14 := Lib.hid (HB12.out.trans (hba.mono HB12.out.size))
              have hc := hNY.out W14 HB14.out
              clear hb13 hba
              go_wp2_with fail
              rw [← hW14]
              clear hW14
              refine hc.mono ?_
              clear hc c0 c1 hsl2
              rintro e w15 ⟨⟨⟨k1'', k2'', k3'', k4''⟩, ⟨k5'', k6'', k7'', k8''⟩⟩, he, hb15⟩
              replace he : e = .returned (.tuple #[.agg #[.slice k1'' k2'' k3'', .slice k5'' k6'' k7''], .int .i64 N, .int .i64 G]) := he
              subst he
              have HBF := Lib.hid (WB7.out.trans (((HB14.out.trans (hb15.mono HB14.out.size)).alloc (by have := HB14.out.size; have := hb15.size; omega) (.cells #[.slice k1'' k2'' k3'', .slice k5'' k6'' k7''] 25)).mono WB7.out.size))
              have dN : (N == N) = true := by simp
              have dG : (G == G) = true := by simp
              clear hb15
              go_wp2_with fail
              go_ret
              exact ⟨rfl, HBF.out⟩
    · have dv1 : (V == 0) = false := by simpa using hV0
      have dv2 : (V != 0) = true := by simp [hV0]
      by_cases hF0 : Fe = 0
      · have df1 : (Fe == 0) = true := by simpa using hF0
        have df2 : (Fe != 0) = false := by simp [hF0]
        go_upto_region 7 with (fail)
        rw [← hW6]
        clear hW6
        rw [← hggy]
        clear hggy
        have kY0 : Blk ((W6.setCell ⟨gx, 0, none⟩ (.slice tA tn tc)).setCell ⟨gx, 1, none⟩ (.slice tB tm td)) gy 25 #[.slice bA bn bc, .slice bB bm bd] := ((KY6.out.far (p := ⟨gx, 0, none⟩) (Ne.symm hnxy) (.slice tA tn tc)).far (p := ⟨gx, 1, none⟩) (Ne.symm hnxy) (.slice tB tm td))
        have hKP : KeepsT 25 W6 ((W6.setCell ⟨gx, 0, none⟩ (.slice tA tn tc)).setCell ⟨gx, 1, none⟩ (.slice tB tm td)) := ((KeepsT.of_box KX6.out).trans (KeepsT.of_box (KX6.out.set_ 0 (.slice tA tn tc)))).trans (KeepsT.refl _ _)
        have hKT7 : Blk ((W6.setCell ⟨gx, 0, none⟩ (.slice tA tn tc)).setCell ⟨gx, 1, none⟩ (.slice tB tm td)) w.heap.size 25 #[.slice tA tn tc, .slice tB tm td] := ((KT6.out.far (p := ⟨gx, 0, none⟩) hntx (.slice tA tn tc)).far (p := ⟨gx, 1, none⟩) hntx (.slice tB tm td))
        have hKX7 : Blk ((W6.setCell ⟨gx, 0, none⟩ (.slice tA tn tc)).setCell ⟨gx, 1, none⟩ (.slice tB tm td)) gx 25 #[.slice tA tn tc, .slice tB tm td] := ((KX6.out.set_ 0 (.slice tA tn tc)).set_ 1 (.slice tB tm td))
        have hKY7 : Blk ((W6.setCell ⟨gx, 0, none⟩ (.slice tA tn tc)).setCell ⟨gx, 1, none⟩ (.slice tB tm td)) gy 25 #[.slice bA bn bc, .slice bB bm bd] := kY0
        have hWB7 : Below w.heap.size w ((W6.setCell ⟨gx, 0, none⟩ (.slice tA tn tc)).setCell ⟨gx, 1, none⟩ (.slice tB tm td)) := ((HB6w.out.setCell (by simp only; omega) _).setCell (by simp only; omega) _)
        obtain ⟨⟨g0, g1⟩, fg0, fg1⟩ := blk2T KX6.out
        obtain ⟨⟨y0, y1⟩, fy0, fy1⟩ := blk2T kY0
        obtain ⟨⟨y2, y3⟩, fy2, fy3⟩ := blk2T KY6.out
        obtain ⟨⟨t0, t1⟩, -⟩ := blk2T KT6.out
        have hnxt : gx ≠ w.heap.size := fun e => hntx e.symm
        have hnyx : gy ≠ gx := fun e => hnxy e.symm
        go_upto_region 11 with (fail)
        obtain ⟨W7, hW7⟩ : ∃ W, W = ((W6.setCell ⟨gx, 0, none⟩ (.slice tA tn tc)).setCell ⟨gx, 1, none⟩ (.slice tB tm td)) := ⟨_, rfl⟩
        rw [← hW7] at hKP hKT7 hKX7 hKY7 hWB7 ⊢

        have KT7 := Lib.hid hKT7
        have KX7 := Lib.hid hKX7
        have KY7 := Lib.hid hKY7
        have WB7 := Lib.hid hWB7
        have RT0 : TabR.rd W7 w.heap.size ⟨⟨tA, tn, tc, tl⟩, ⟨tB, tm, td, tk⟩⟩ := TabR.rd.below HR.out hWB7
        have RT : Hid (TabR.rd W7 W7.heap.size ⟨⟨tA, tn, tc, tl⟩, ⟨tB, tm, td, tk⟩⟩) := RT0.more hWB7.size
        have MX : Hid (HasMax W7) := HMX.out.below hWB7
        have LT : Hid (Like 1048577 T (TabR.con ⟨⟨tA, tn, tc, tl⟩, ⟨tB, tm, td, tk⟩⟩) y) := by
          show Like _ _ _ _
          rw [HTC.out]
          exact like_self HZC.out HTK.out y
        have RX := RT
        have LX := LT
        have RY : Hid (TabR.rd W7 W7.heap.size ⟨⟨bA, bn, bc, bl⟩, ⟨bB, bm, bd, bk⟩⟩) := (HOB.out.keepT hKP).rd
        have LY : Hid (Like 1048577 T (TabR.con ⟨⟨bA, bn, bc, bl⟩, ⟨bB, bm, bd, bk⟩⟩) y) := by
          show Like _ _ _ _
          rw [HCB.out]
          exact like_close HZC.out x y h HTK.out (by rw [← HFF.out]; exact hF0) hxy
        clear hKP hKT7 hKX7 hKY7 hWB7 g0 g1 fg0 fg1 y0 y1 fy0 fy1 y2 y3 fy2 fy3 t0 t1 hnxt hnyx hW7 kY0 RT0
        have hOT : Hid (∀ W, Below W7.heap.size W7 W → Calls Tryd.prog 19 #[.agg #[.slice tA tn tc, .slice tB tm td], .string ⟨y.toArray⟩] W fun e w' => ∃ v, e = .returned v ∧ SesL (seOf T.opn y) v w' ∧ Below W.heap.size W w') := fun W hb => others_of T ⟨⟨tA, tn, tc, tl⟩, ⟨tB, tm, td, tk⟩⟩ y W ((RT.out.below hb).more hb.size) LT.out
        have hOX : Hid (∀ W, Below W7.heap.size W7 W → Calls Tryd.prog 19 #[.agg #[.slice tA tn tc, .slice tB tm td], .string ⟨y.toArray⟩] W fun e w' => ∃ v, e = .returned v ∧ SesL (seOf T.opn y) v w' ∧ Below W.heap.size W w') := fun W hb => others_of T ⟨⟨tA, tn, tc, tl⟩, ⟨tB, tm, td, tk⟩⟩ y W ((RX.out.below hb).more hb.size) LX.out
        have hOY : Hid (∀ W, Below W7.heap.size W7 W → Calls Tryd.prog 19 #[.agg #[.slice bA bn bc, .slice bB bm bd], .string ⟨y.toArray⟩] W fun e w' => ∃ v, e = .returned v ∧ SesL (seOf T.opn y) v w' ∧ Below W.heap.size W w') := fun W hb => others_of T ⟨⟨bA, bn, bc, bl⟩, ⟨bB, bm, bd, bk⟩⟩ y W ((RY.out.below hb).more hb.size) LY.out
        have hNT : Hid (∀ W, Below W7.heap.size W7 W → Calls Tryd.prog 10 #[.agg #[.slice tA tn tc, .slice tB tm td], .string ⟨y.toArray⟩, .string ⟨z.toArray⟩] W fun e w' => ∃ s : TabR, e = .returned (.tuple #[s.val, .int .i64 N, .int .i64 G]) ∧ Below W.heap.size W w') := fun W hb => by rw [HNN.out, HGG.out]; exact others_open T ⟨⟨tA, tn, tc, tl⟩, ⟨tB, tm, td, tk⟩⟩ y z hyl hzl W ((RT.out.below hb).more hb.size) LT.out HTK.out (MX.out.below hb)
        have hNX : Hid (∀ W, Below W7.heap.size W7 W → Calls Tryd.prog 10 #[.agg #[.slice tA tn tc, .slice tB tm td], .string ⟨y.toArray⟩, .string ⟨z.toArray⟩] W fun e w' => ∃ s : TabR, e = .returned (.tuple #[s.val, .int .i64 N, .int .i64 G]) ∧ Below W.heap.size W w') := fun W hb => by rw [HNN.out, HGG.out]; exact others_open T ⟨⟨tA, tn, tc, tl⟩, ⟨tB, tm, td, tk⟩⟩ y z hyl hzl W ((RX.out.below hb).more hb.size) LX.out HTK.out (MX.out.below hb)
        have hNY : Hid (∀ W, Below W7.heap.size W7 W → Calls Tryd.prog 10 #[.agg #[.slice bA bn bc, .slice bB bm bd], .string ⟨y.toArray⟩, .string ⟨z.toArray⟩] W fun e w' => ∃ s : TabR, e = .returned (.tuple #[s.val, .int .i64 N, .int .i64 G]) ∧ Below W.heap.size W w') := fun W hb => by rw [HNN.out, HGG.out]; exact others_open T ⟨⟨bA, bn, bc, bl⟩, ⟨bB, bm, bd, bk⟩⟩ y z hyl hzl W ((RY.out.below hb).more hb.size) LY.out HTK.out (MX.out.below hb)
        have hc := hOT.out W7 (Below.refl _ _)
        obtain ⟨⟨c0, c1⟩, -⟩ := blk2T KT7.out
        go_wp2_with fail
        refine hc.mono ?_
        clear hc c0 c1
        rintro e w8 ⟨v0, rfl, hs0, hb8⟩
        have HS0 := Lib.hid hs0
        obtain ⟨⟨sA, sn, sc, sl⟩, rfl, -, -, -⟩ := hs0
        have HB8 := Lib.hid hb8
        have KT8 := Lib.hid (KT7.out.below hb8 KT7.out.lt)
        have KX8 := Lib.hid (KX7.out.below hb8 KX7.out.lt)
        have KY8 := Lib.hid (KY7.out.below hb8 KY7.out.lt)
        have hOX : Hid (∀ W, Below w8.heap.size w8 W → Calls Tryd.prog 19 #[.agg #[.slice tA tn tc, .slice tB tm td], .string ⟨y.toArray⟩] W fun e w' => ∃ v, e = .returned v ∧ SesL (seOf T.opn y) v w' ∧ Below W.heap.size W w') := fun W hb => hOX.out W (HB8.out.trans (hb.mono HB8.out.size))
        have hOY : Hid (∀ W, Below w8.heap.size w8 W → Calls Tryd.prog 19 #[.agg #[.slice bA bn bc, .slice bB bm bd], .string ⟨y.toArray⟩] W fun e w' => ∃ v, e = .returned v ∧ SesL (seOf T.opn y) v w' ∧ Below W.heap.size W w') := fun W hb => hOY.out W (HB8.out.trans (hb.mono HB8.out.size))
        clear hb8
        go_wp2_with fail
        refine wp_region_good2 (by kernel_rfl) (by kernel_rfl) [(fun v _ => v = .agg #[.slice tA tn tc, .slice tB tm td]),
          (fun v _ => v = .string ⟨y.toArray⟩),
          (SesL (seOf T.opn y)),
          (fun v _ => v = .agg #[.slice bA bn bc, .slice bB bm bd]),
          (fun v _ => v = .string ⟨y.toArray⟩),
          (SesL (seOf T.opn y)),
          (SesL (seOf T.opn y)),
          (SesL (seOf T.opn y))] ?_ ?_ ?_
        · repeat' (first | exact stays_nil | refine stays_cons ?_ ?_ | exact Stays.pure | exact SesL.stays _)
        · intro i oo ho m2 W hb0 hmi hcl hdeps AA KK hA hK
          rcases i with _ | _ | _ | _ | _ | _ | _ | _ | i
          · injection ho with ho
            subst ho
            have ef11 : AA.tmps[11]?.getD undef = .pointer (some ⟨gx, 0, none⟩) := by rw [hA]; exact tmps_free (by kernel_rfl)
            clear hA hdeps hcl hmi
            obtain ⟨⟨b0, b1⟩, -⟩ := blk2T (KX8.out.below hb0 KX8.out.lt)
            have hK0 : KK (AA.put (some 63) _) _ := hK (.agg #[.slice tA tn tc, .slice tB tm td]) _ (Below.refl _ _) (Eq.refl _)
            clear hK
            go_simp
            exact hK0
          · injection ho with ho
            subst ho
            have ef2 : AA.tmps[2]?.getD undef = .string ⟨y.toArray⟩ := by rw [hA]; exact tmps_free (by kernel_rfl)
            clear hA hdeps hcl hmi
            have hK0 : KK (AA.put (some 64) _) _ := hK (.string ⟨y.toArray⟩) _ (Below.refl _ _) (Eq.refl _)
            clear hK
            go_simp
            exact hK0
          · injection ho with ho
            subst ho
            obtain ⟨x0, hx0, hg0⟩ := hdeps ⟨0, .data⟩ (by simp) rfl
            have hg0 : x0 = .agg #[.slice tA tn tc, .slice tB tm td] := hg0
            subst hg0
            have e0 : AA.tmps[63]?.getD undef = .agg #[.slice tA tn tc, .slice tB tm td] := by rw [hA]; exact tmps_own (by kernel_rfl) hx0 (of_decide_eq_true (by kernel_rfl))
            obtain ⟨x1, hx1, hg1⟩ := hdeps ⟨1, .data⟩ (by simp) rfl
            have hg1 : x1 = .string ⟨y.toArray⟩ := hg1
            subst hg1
            have e1 : AA.tmps[64]?.getD undef = .string ⟨y.toArray⟩ := by rw [hA]; exact tmps_own (by kernel_rfl) hx1 (of_decide_eq_true (by kernel_rfl))
            clear hA hdeps hcl hmi hx0 hx1
            have hKK := Lib.hid hK
            clear hK
            go_simp
            refine (hOX.out _ (hb0)).mono ?_
            rintro e w5 ⟨v, rfl, hsl, hbn⟩
            exact hKK.out _ _ hbn hsl
          · injection ho with ho
            subst ho
            have ef14 : AA.tmps[14]?.getD undef = .pointer (some ⟨gy, 0, none⟩) := by rw [hA]; exact tmps_free (by kernel_rfl)
            clear hA hdeps hcl hmi
            obtain ⟨⟨b0, b1⟩, -⟩ := blk2T (KY8.out.below hb0 KY8.out.lt)
            have hK0 : KK (AA.put (some 66) _) _ := hK (.agg #[.slice bA bn bc, .slice bB bm bd]) _ (Below.refl _ _) (Eq.refl _)
            clear hK
            go_simp
            exact hK0
          · injection ho with ho
            subst ho
            have ef2 : AA.tmps[2]?.getD undef = .string ⟨y.toArray⟩ := by rw [hA]; exact tmps_free (by kernel_rfl)
            clear hA hdeps hcl hmi
            have hK0 : KK (AA.put (some 67) _) _ := hK (.string ⟨y.toArray⟩) _ (Below.refl _ _) (Eq.refl _)
            clear hK
            go_simp
            exact hK0
          · injection ho with ho
            subst ho
            obtain ⟨x3, hx3, hg3⟩ := hdeps ⟨3, .data⟩ (by simp) rfl
            have hg3 : x3 = .agg #[.slice bA bn bc, .slice bB bm bd] := hg3
            subst hg3
            have e3 : AA.tmps[66]?.getD undef = .agg #[.slice bA bn bc, .slice bB bm bd] := by rw [hA]; exact tmps_own (by kernel_rfl) hx3 (of_decide_eq_true (by kernel_rfl))
            obtain ⟨x4, hx4, hg4⟩ := hdeps ⟨4, .data⟩ (by simp) rfl
            have hg4 : x4 = .string ⟨y.toArray⟩ := hg4
            subst hg4
            have e4 : AA.tmps[67]?.getD undef = .string ⟨y.toArray⟩ := by rw [hA]; exact tmps_own (by kernel_rfl) hx4 (of_decide_eq_true (by kernel_rfl))
            clear hA hdeps hcl hmi hx3 hx4
            have hKK := Lib.hid hK
            clear hK
            go_simp
            refine (hOY.out _ (hb0)).mono ?_
            rintro e w5 ⟨v, rfl, hsl, hbn⟩
            exact hKK.out _ _ hbn hsl
          · injection ho with ho
            subst ho
            obtain ⟨x2, hx2, hg2⟩ := hdeps ⟨2, .data⟩ (by simp) rfl
            have hg2 : SesL (seOf T.opn y) x2 W := hg2
            have e2 : AA.tmps[65]?.getD undef = x2 := by rw [hA]; exact tmps_own (by kernel_rfl) hx2 (of_decide_eq_true (by kernel_rfl))
            clear hA hdeps hcl hmi hx2
            have hK0 : KK (AA.put (some 17) _) _ := hK x2 _ (Below.refl _ _) hg2
            clear hK
            go_simp
            exact hK0
          · injection ho with ho
            subst ho
            obtain ⟨x5, hx5, hg5⟩ := hdeps ⟨5, .data⟩ (by simp) rfl
            have hg5 : SesL (seOf T.opn y) x5 W := hg5
            have e5 : AA.tmps[68]?.getD undef = x5 := by rw [hA]; exact tmps_own (by kernel_rfl) hx5 (of_decide_eq_true (by kernel_rfl))
            clear hA hdeps hcl hmi hx5
            have hK0 : KK (AA.put (some 18) _) _ := hK x5 _ (Below.refl _ _) hg5
            clear hK
            go_simp
            exact hK0
          · simp at ho
        · intro m W hbx hall
          obtain ⟨x0, m0, g0⟩ := hall 0 (by simp)
          replace g0 : x0 = .agg #[.slice tA tn tc, .slice tB tm td] := g0
          subst g0
          obtain ⟨x1, m1, g1⟩ := hall 1 (by simp)
          replace g1 : x1 = .string ⟨y.toArray⟩ := g1
          subst g1
          obtain ⟨x2, m2, g2⟩ := hall 2 (by simp)
          replace g2 : SesL (seOf T.opn y) x2 W := g2
          obtain ⟨x3, m3, g3⟩ := hall 3 (by simp)
          replace g3 : x3 = .agg #[.slice bA bn bc, .slice bB bm bd] := g3
          subst g3
          obtain ⟨x4, m4, g4⟩ := hall 4 (by simp)
          replace g4 : x4 = .string ⟨y.toArray⟩ := g4
          subst g4
          obtain ⟨x5, m5, g5⟩ := hall 5 (by simp)
          replace g5 : SesL (seOf T.opn y) x5 W := g5
          obtain ⟨x6, m6, g6⟩ := hall 6 (by simp)
          replace g6 : SesL (seOf T.opn y) x6 W := g6
          obtain ⟨x7, m7, g7⟩ := hall 7 (by simp)
          replace g7 : SesL (seOf T.opn y) x7 W := g7
          rw [frameM_all (by kernel_rfl) [.agg #[.slice tA tn tc, .slice tB tm td], .string ⟨y.toArray⟩, x2, .agg #[.slice bA bn bc, .slice bB bm bd], .string ⟨y.toArray⟩, x5, x6, x7] rfl (fun i hi => by
              rcases i with _ | _ | _ | _ | _ | _ | _ | _ | i
              · exact m0
              · exact m1
              · exact m2
              · exact m3
              · exact m4
              · exact m5
              · exact m6
              · exact m7
              · simp at hi; omega)]
          clear hall m0 m1 m2 m3 m4 m5 m6 m7
          simp only [putAll, Act.put, List.setIfInBounds_toArray, List.set_cons_succ, List.set_cons_zero]
          have HS9 := Lib.hid (SesL.stays _ _ _ _ HS0.out hbx)
          have HB9 := Lib.hid (HB8.out.trans (hbx.mono HB8.out.size))
          have KT9 := Lib.hid (KT8.out.below hbx KT8.out.lt)
          have KX9 := Lib.hid (KX8.out.below hbx KX8.out.lt)
          have KY9 := Lib.hid (KY8.out.below hbx KY8.out.lt)
          obtain ⟨⟨pA, pn, pc, pl⟩, rfl, hp1, hp2, hp3⟩ := g6
          obtain ⟨⟨qA, qn, qc, ql⟩, rfl, hq1, hq2, hq3⟩ := g7
          obtain ⟨⟨sA', sn', sc', sl'⟩, hv0, hr1, hr2, hr3⟩ := HS9.out
          injection hv0 with hv1 hv2 hv3
          simp only at hv1 hv2 hv3
          subst hv1 hv2 hv3
          clear g2 g5 hOX hOY hOT hbx HS0 HS9 HB8 KT8 KX8 KY8 KT7 KX7 KY7
          have hnp : pn = sn := by
            have h1 : pn = pl.length := hp1.1
            have h2 : sn = sl'.length := hr1.1
            have h3 : pl.length = sl'.length := by simpa using congrArg List.length (hp3.trans hr3.symm)
            omega
          have hnq : qn = sn := by
            have h1 : qn = ql.length := hq1.1
            have h2 : sn = sl'.length := hr1.1
            have h3 : ql.length = sl'.length := by simpa using congrArg List.length (hq3.trans hr3.symm)
            omega
          have hq16 : qn ≤ 16 := by
            have h1 : qn = ql.length := hq1.1
            have h3 : ql.length = (seOf T.opn y).length := by simpa using congrArg List.length hq3
            have := count_le T HTK.out y
            omega
          subst hnp
          subst hnq
          have HP1 := Lib.hid hp1
          have HP2 := Lib.hid hp2
          have HQ1 := Lib.hid hq1
          have HQ2 := Lib.hid hq2
          have HR1 := Lib.hid hr1
          have HR2 := Lib.hid hr2
          have HPE := Lib.hid (hp3.trans hr3.symm)
          have HQE := Lib.hid (hq3.trans hr3.symm)
          clear hp1 hp2 hp3 hq1 hq2 hq3 hr1 hr2 hr3
          obtain ⟨W9, hW9⟩ : ∃ X, X = W := ⟨_, rfl⟩
          rw [← hW9] at HB9 KT9 KX9 KY9 HP1 HP2 HQ1 HQ2 HR1 HR2
          go_wp2_with fail
          rw [← hW9]
          clear hW9 W
          go_loopw [19] (fun j wr => ∃ i : Nat, i ≤ qn ∧ j = .int .i64 (i : Int) ∧ Below W9.heap.size W9 wr) (fun j _ => qn - (intOf j).toNat)
          case atStart => exact ⟨0, Nat.zero_le _, rfl, Below.refl _ _⟩
          case round =>
            obtain ⟨i, hi, rfl, hbr⟩ := hrel
            by_cases hlt : i < qn
            · have hii : (i : Int) < (qn : Int) := by omega
              have hi0 : (0 : Int) ≤ (i : Int) := by omega
              have hsz9 := hbr.size
              obtain ⟨ad, rfl, hadB, a0, a1, a2, a3, a4⟩ := ses_at ((HP1.out.below hbr).2.2) (show qn = pl.length from HP1.out.1) hlt
              obtain ⟨ae, rfl, haeB, b0, b1, b2, b3, b4⟩ := ses_at ((HR1.out.below hbr).2.2) (show qn = sl'.length from HR1.out.1) hlt
              obtain ⟨af, rfl, hafB, c0, c1, c2, c3, c4⟩ := ses_at ((HQ1.out.below hbr).2.2) (show qn = ql.length from HQ1.out.1) hlt
              have hpl : i < pl.length := by have : qn = pl.length := HP1.out.1; omega
              have hsl : i < sl'.length := by have : qn = sl'.length := HR1.out.1; omega
              have hql : i < ql.length := by have : qn = ql.length := HQ1.out.1; omega
              have hcp : (pl[i]'hpl).con = (sl'[i]'hsl).con := by
                have := congrArg (fun l : List SesC => l[i]?) HPE.out
                simpa [List.getElem?_map, List.getElem?_eq_getElem hpl, List.getElem?_eq_getElem hsl] using this
              have hcq : (ql[i]'hql).con = (sl'[i]'hsl).con := by
                have := congrArg (fun l : List SesC => l[i]?) HQE.out
                simpa [List.getElem?_map, List.getElem?_eq_getElem hql, List.getElem?_eq_getElem hsl] using this
              have hxp := HP2.out _ (List.getElem_mem hpl)
              have hxr := HR2.out _ (List.getElem_mem hsl)
              have hxq := HQ2.out _ (List.getElem_mem hql)
              obtain ⟨yp, hyp⟩ : ∃ y, y = pl[i]'hpl := ⟨_, rfl⟩
              obtain ⟨yr, hyr⟩ : ∃ y, y = sl'[i]'hsl := ⟨_, rfl⟩
              obtain ⟨yq, hyq⟩ : ∃ y, y = ql[i]'hql := ⟨_, rfl⟩
              rw [← hyp] at a0 a1 a2 a3 a4 hcp hxp
              rw [← hyr] at b0 b1 b2 b3 b4 hcp hcq hxr
              rw [← hyq] at c0 c1 c2 c3 c4 hcq hxq
              have hSX : Hid (∀ W, Below wr.heap.size wr W → Calls Tryd.prog 16 #[.agg (encSes yp).toArray, .agg (encSes yr).toArray] W fun e w' => e = .returned (.bool true) ∧ Below W.heap.size W w') := fun W hb => sameS_any yp yr hcp W W9.heap.size (by have := hb.size; omega) (hxp.below (hbr.trans (hb.mono hsz9))) (hxr.below (hbr.trans (hb.mono hsz9)))
              have hSY : Hid (∀ W, Below wr.heap.size wr W → Calls Tryd.prog 16 #[.agg (encSes yq).toArray, .agg (encSes yr).toArray] W fun e w' => e = .returned (.bool true) ∧ Below W.heap.size W w') := fun W hb => sameS_any yq yr hcq W W9.heap.size (by have := hb.size; omega) (hxq.below (hbr.trans (hb.mono hsz9))) (hxr.below (hbr.trans (hb.mono hsz9)))
              obtain ⟨ft, fh, fi, ⟨fA, fn, fc, fl⟩, fb⟩ := yp
              obtain ⟨ut, uh, ui, ⟨uA, un, uc, ul⟩, ub⟩ := yr
              obtain ⟨vt, vh, vi, ⟨vA, vn, vc, vl⟩, vb⟩ := yq
              simp only at a0 a1 a2 a3 a4 b0 b1 b2 b3 b4 c0 c1 c2 c3 c4
              simp only [encSes] at hSX hSY
              have lp : (ad.add (i * 5)).block < wr.heap.size := by rw [block_of_add]; omega
              have lr : (ae.add (i * 5)).block < wr.heap.size := by rw [block_of_add]; omega
              have lq : (af.add (i * 5)).block < wr.heap.size := by rw [block_of_add]; omega
              have hS := Lib.hid (fun (W' : World) (hB' : Below wr.heap.size wr W') => (⟨(hB'.cell (p := (ad.add (i * 5))) lp).trans a0, (hB'.cell (p := ⟨(ad.add (i * 5)).block, (ad.add (i * 5)).off + 1, none⟩) lp).trans a1, (hB'.cell (p := ⟨(ad.add (i * 5)).block, (ad.add (i * 5)).off + 2, none⟩) lp).trans a2, (hB'.cell (p := ⟨(ad.add (i * 5)).block, (ad.add (i * 5)).off + 3, none⟩) lp).trans a3, (hB'.cell (p := ⟨(ad.add (i * 5)).block, (ad.add (i * 5)).off + 4, none⟩) lp).trans a4, (hB'.cell (p := (ae.add (i * 5))) lr).trans b0, (hB'.cell (p := ⟨(ae.add (i * 5)).block, (ae.add (i * 5)).off + 1, none⟩) lr).trans b1, (hB'.cell (p := ⟨(ae.add (i * 5)).block, (ae.add (i * 5)).off + 2, none⟩) lr).trans b2, (hB'.cell (p := ⟨(ae.add (i * 5)).block, (ae.add (i * 5)).off + 3, none⟩) lr).trans b3, (hB'.cell (p := ⟨(ae.add (i * 5)).block, (ae.add (i * 5)).off + 4, none⟩) lr).trans b4, (hB'.cell (p := (af.add (i * 5))) lq).trans c0, (hB'.cell (p := ⟨(af.add (i * 5)).block, (af.add (i * 5)).off + 1, none⟩) lq).trans c1, (hB'.cell (p := ⟨(af.add (i * 5)).block, (af.add (i * 5)).off + 2, none⟩) lq).trans c2, (hB'.cell (p := ⟨(af.add (i * 5)).block, (af.add (i * 5)).off + 3, none⟩) lq).trans c3, (hB'.cell (p := ⟨(af.add (i * 5)).block, (af.add (i * 5)).off + 4, none⟩) lq).trans c4⟩ : W'.cell? (ad.add (i * 5)) = some (.string ⟨ft.toArray⟩) ∧ W'.cell? ⟨(ad.add (i * 5)).block, (ad.add (i * 5)).off + 1, none⟩ = some (.int .i64 fh) ∧ W'.cell? ⟨(ad.add (i * 5)).block, (ad.add (i * 5)).off + 2, none⟩ = some (.string ⟨fi.toArray⟩) ∧ W'.cell? ⟨(ad.add (i * 5)).block, (ad.add (i * 5)).off + 3, none⟩ = some (.slice fA fn fc) ∧ W'.cell? ⟨(ad.add (i * 5)).block, (ad.add (i * 5)).off + 4, none⟩ = some (.bool fb) ∧ W'.cell? (ae.add (i * 5)) = some (.string ⟨ut.toArray⟩) ∧ W'.cell? ⟨(ae.add (i * 5)).block, (ae.add (i * 5)).off + 1, none⟩ = some (.int .i64 uh) ∧ W'.cell? ⟨(ae.add (i * 5)).block, (ae.add (i * 5)).off + 2, none⟩ = some (.string ⟨ui.toArray⟩) ∧ W'.cell? ⟨(ae.add (i * 5)).block, (ae.add (i * 5)).off + 3, none⟩ = some (.slice uA un uc) ∧ W'.cell? ⟨(ae.add (i * 5)).block, (ae.add (i * 5)).off + 4, none⟩ = some (.bool ub) ∧ W'.cell? (af.add (i * 5)) = some (.string ⟨vt.toArray⟩) ∧ W'.cell? ⟨(af.add (i * 5)).block, (af.add (i * 5)).off + 1, none⟩ = some (.int .i64 vh) ∧ W'.cell? ⟨(af.add (i * 5)).block, (af.add (i * 5)).off + 2, none⟩ = some (.string ⟨vi.toArray⟩) ∧ W'.cell? ⟨(af.add (i * 5)).block, (af.add (i * 5)).off + 3, none⟩ = some (.slice vA vn vc) ∧ W'.cell? ⟨(af.add (i * 5)).block, (af.add (i * 5)).off + 4, none⟩ = some (.bool vb)))
              have HBR := Lib.hid hbr
              have hb4 := Below.refl wr.heap.size wr
              clear a0 a1 a2 a3 a4 b0 b1 b2 b3 b4 c0 c1 c2 c3 c4 lp lr lq hyp hyr hyq hcp hcq hxp hxr hxq hbr
              go_wp2_with fail
              refine wpC_region (fun W' => Below wr.heap.size wr W') (by kernel_rfl) (by kernel_rfl) (hb4.drew) (fun OPS D QQ HO hD hD2 hQQ => ?_)
              have hgo10 : Hid ((OPS[10]?).bind (·.dst) = some 97) := by show _ = _; rw [HO.out]; rfl
              clear HO
              have HD := Lib.hid hD
              have HD2 := Lib.hid hD2
              have HQQ := Lib.hid hQQ
              clear hD hD2 hQQ
              refine wpC_read (v := ?_) rfl (fun W hW => ?_) ?_
              rotate_left
              · clear hW; go_simp; try (with_reducible rfl)
              try simp only [Act.put, List.setIfInBounds_toArray, List.set_cons_zero, List.set_cons_succ]
              refine wpC_read (v := ?_) rfl (fun W hW => ?_) ?_
              rotate_left
              · clear hW; go_simp; try (with_reducible rfl)
              try simp only [Act.put, List.setIfInBounds_toArray, List.set_cons_zero, List.set_cons_succ]
              refine wpC_read (v := ?_) rfl (fun W hW => ?_) ?_
              rotate_left
              · clear hW; go_simp; try (with_reducible rfl)
              try simp only [Act.put, List.setIfInBounds_toArray, List.set_cons_zero, List.set_cons_succ]
              refine wpC_read (v := ?_) rfl (fun W hW => ?_) ?_
              rotate_left
              · replace hW := HD.out W hW
                obtain ⟨a0, a1, a2, a3, a4, b0, b1, b2, b3, b4, c0, c1, c2, c3, c4⟩ := hS.out W hW
                go_simp; try (with_reducible rfl)
              try simp only [Act.put, List.setIfInBounds_toArray, List.set_cons_zero, List.set_cons_succ]
              refine wpC_read (v := ?_) rfl (fun W hW => ?_) ?_
              rotate_left
              · clear hW; go_simp; try (with_reducible rfl)
              try simp only [Act.put, List.setIfInBounds_toArray, List.set_cons_zero, List.set_cons_succ]
              refine wpC_read (v := ?_) rfl (fun W hW => ?_) ?_
              rotate_left
              · clear hW; go_simp; try (with_reducible rfl)
              try simp only [Act.put, List.setIfInBounds_toArray, List.set_cons_zero, List.set_cons_succ]
              refine wpC_read (v := ?_) rfl (fun W hW => ?_) ?_
              rotate_left
              · clear hW; go_simp; try (with_reducible rfl)
              try simp only [Act.put, List.setIfInBounds_toArray, List.set_cons_zero, List.set_cons_succ]
              refine wpC_read (v := ?_) rfl (fun W hW => ?_) ?_
              rotate_left
              · replace hW := HD.out W hW
                obtain ⟨a0, a1, a2, a3, a4, b0, b1, b2, b3, b4, c0, c1, c2, c3, c4⟩ := hS.out W hW
                go_simp; try (with_reducible rfl)
              try simp only [Act.put, List.setIfInBounds_toArray, List.set_cons_zero, List.set_cons_succ]
              refine wpC_read (v := .bool true) rfl (fun W hW => ?_) ?_
              · replace hW := HD.out W hW
                obtain ⟨a0, a1, a2, a3, a4, b0, b1, b2, b3, b4, c0, c1, c2, c3, c4⟩ := hS.out W hW
                go_simp
                refine (hSX.out _ hW).mono ?_
                rintro e w5 ⟨rfl, hbn⟩
                exact ⟨rfl, HD2.out _ (below_step hW hbn)⟩
              try simp only [Act.put, List.setIfInBounds_toArray, List.set_cons_zero, List.set_cons_succ]
              refine wpC_read (v := ?_) rfl (fun W hW => ?_) ?_
              rotate_left
              · clear hW; go_simp; try (with_reducible rfl)
              try simp only [Act.put, List.setIfInBounds_toArray, List.set_cons_zero, List.set_cons_succ]
              refine wpC_read (v := ?_) rfl (fun W hW => ?_) ?_
              rotate_left
              · clear hW; go_simp; try (with_reducible rfl)
              try simp only [Act.put, List.setIfInBounds_toArray, List.set_cons_zero, List.set_cons_succ]
              refine wpC_gread (v := ?_) rfl hgo10.out rfl (fun W hW => ?_) ?_
              rotate_left
              · clear hW; go_simp; try (with_reducible rfl)
              try simp only [Act.put, List.setIfInBounds_toArray, List.set_cons_zero, List.set_cons_succ]
              refine wpC_gread (v := ?_) rfl hgo10.out rfl (fun W hW => ?_) ?_
              rotate_left
              · clear hW; go_simp; try (with_reducible rfl)
              try simp only [Act.put, List.setIfInBounds_toArray, List.set_cons_zero, List.set_cons_succ]
              refine wpC_gread (v := ?_) rfl hgo10.out rfl (fun W hW => ?_) ?_
              rotate_left
              · clear hW; go_simp; try (with_reducible rfl)
              try simp only [Act.put, List.setIfInBounds_toArray, List.set_cons_zero, List.set_cons_succ]
              refine wpC_gread (v := ?_) rfl hgo10.out rfl (fun W hW => ?_) ?_
              rotate_left
              · replace hW := HD.out W hW
                obtain ⟨a0, a1, a2, a3, a4, b0, b1, b2, b3, b4, c0, c1, c2, c3, c4⟩ := hS.out W hW
                go_simp; try (with_reducible rfl)
              try simp only [Act.put, List.setIfInBounds_toArray, List.set_cons_zero, List.set_cons_succ]
              refine wpC_gread (v := ?_) rfl hgo10.out rfl (fun W hW => ?_) ?_
              rotate_left
              · clear hW; go_simp; try (with_reducible rfl)
              try simp only [Act.put, List.setIfInBounds_toArray, List.set_cons_zero, List.set_cons_succ]
              refine wpC_gread (v := ?_) rfl hgo10.out rfl (fun W hW => ?_) ?_
              rotate_left
              · clear hW; go_simp; try (with_reducible rfl)
              try simp only [Act.put, List.setIfInBounds_toArray, List.set_cons_zero, List.set_cons_succ]
              refine wpC_gread (v := ?_) rfl hgo10.out rfl (fun W hW => ?_) ?_
              rotate_left
              · clear hW; go_simp; try (with_reducible rfl)
              try simp only [Act.put, List.setIfInBounds_toArray, List.set_cons_zero, List.set_cons_succ]
              refine wpC_gread (v := ?_) rfl hgo10.out rfl (fun W hW => ?_) ?_
              rotate_left
              · replace hW := HD.out W hW
                obtain ⟨a0, a1, a2, a3, a4, b0, b1, b2, b3, b4, c0, c1, c2, c3, c4⟩ := hS.out W hW
                go_simp; try (with_reducible rfl)
              try simp only [Act.put, List.setIfInBounds_toArray, List.set_cons_zero, List.set_cons_succ]
              refine wpC_gread (v := .bool true) rfl hgo10.out rfl (fun W hW => ?_) ?_
              · replace hW := HD.out W hW
                obtain ⟨a0, a1, a2, a3, a4, b0, b1, b2, b3, b4, c0, c1, c2, c3, c4⟩ := hS.out W hW
                go_simp
                refine (hSY.out _ hW).mono ?_
                rintro e w5 ⟨rfl, hbn⟩
                exact ⟨rfl, HD2.out _ (below_step hW hbn)⟩
              try simp only [Act.put, List.setIfInBounds_toArray, List.set_cons_zero, List.set_cons_succ]
              refine wpC_gread (v := ?_) rfl hgo10.out rfl (fun W hW => ?_) ?_
              rotate_left
              · clear hW; go_simp; try (with_reducible rfl)
              try simp only [Act.put, List.setIfInBounds_toArray, List.set_cons_zero, List.set_cons_succ]
              refine wpC_read (v := ?_) rfl (fun W hW => ?_) ?_
              rotate_left
              · clear hW; go_simp; try (with_reducible rfl)
              try simp only [Act.put, List.setIfInBounds_toArray, List.set_cons_zero, List.set_cons_succ]
              refine wpQuiet_nil (HQQ.out _ (fun W hW => ?_))
              obtain ⟨a0, a1, a2, a3, a4, b0, b1, b2, b3, b4, c0, c1, c2, c3, c4⟩ := hS.out W hW
              go_wp2_with fail
              go_roundw
              case rel => exact ⟨i + 1, by omega, by go_num, HBR.out.trans (hW.mono HBR.out.size)⟩
              case measure => simp [intOf]; omega
            · have hie : i = qn := by omega
              have hni : ¬ (i : Int) < (qn : Int) := by omega
              have HBA := Lib.hid hbr
              have HB10 := Lib.hid (HB9.out.trans (hbr.mono HB9.out.size))
              obtain ⟨⟨c0, c1⟩, -⟩ := blk2T (KT9.out.below hbr KT9.out.lt)
              have hc := hNT.out wr HB10.out
              clear hbr
              go_wp2_with fail
              refine hc.mono ?_
              clear hc c0 c1
              rintro e w11 ⟨⟨⟨k1, k2, k3, k4⟩, ⟨k5, k6, k7, k8⟩⟩, he, hb11⟩
              replace he : e = .returned (.tuple #[.agg #[.slice k1 k2 k3, .slice k5 k6 k7], .int .i64 N, .int .i64 G]) := he
              subst he
              have hba := (hb11.alloc hb11.size (.cells #[.slice k1 k2 k3, .slice k5 k6 k7] 25))
              have hsl2 : gx < w11.heap.size := by have := (KX9.out.below HBA.out KX9.out.lt).lt; have := hb11.size; omega
              obtain ⟨⟨c0, c1⟩, -⟩ := blk2T ((KX9.out.below HBA.out KX9.out.lt).below hb11 (KX9.out.below HBA.out KX9.out.lt).lt)
              obtain ⟨W12, hW12⟩ : ∃ W, W = w11.alloc (.cells #[.slice k1 k2 k3, .slice k5 k6 k7] 25) := ⟨_, rfl⟩
              rw [← hW12] at hba
              have HBB := Lib.hid (HBA.out.trans (hba.mono HBA.out.size))
              have HB12 := Lib.hid (HB10.out.trans (hba.mono HB10.out.size))
              have hc := hNX.out W12 HB12.out
              clear hb11 hba
              go_wp2_with fail
              rw [← hW12]
              clear hW12
              refine hc.mono ?_
              clear hc c0 c1 hsl2
              rintro e w13 ⟨⟨⟨k1', k2', k3', k4'⟩, ⟨k5', k6', k7', k8'⟩⟩, he, hb13⟩
              replace he : e = .returned (.tuple #[.agg #[.slice k1' k2' k3', .slice k5' k6' k7'], .int .i64 N, .int .i64 G]) := he
              subst he
              have hba := (hb13.alloc hb13.size (.cells #[.slice k1' k2' k3', .slice k5' k6' k7'] 25))
              have hsl2 : gy < w13.heap.size := by have := (KY9.out.below HBB.out KY9.out.lt).lt; have := hb13.size; omega
              obtain ⟨⟨c0, c1⟩, -⟩ := blk2T ((KY9.out.below HBB.out KY9.out.lt).below hb13 (KY9.out.below HBB.out KY9.out.lt).lt)
              obtain ⟨W14, hW14⟩ : ∃ W, W = w13.alloc (.cells #[.slice k1' k2' k3', .slice k5' k6' k7'] 25) := ⟨_, rfl⟩
              rw [← hW14] at hba
              have HB14 := Lib.hid (HB12.out.trans (hba.mono HB12.out.size))
              have hc := hNY.out W14 HB14.out
              clear hb13 hba
              go_wp2_with fail
              rw [← hW14]
              clear hW14
              refine hc.mono ?_
              clear hc c0 c1 hsl2
              rintro e w15 ⟨⟨⟨k1'', k2'', k3'', k4''⟩, ⟨k5'', k6'', k7'', k8''⟩⟩, he, hb15⟩
              replace he : e = .returned (.tuple #[.agg #[.slice k1'' k2'' k3'', .slice k5'' k6'' k7''], .int .i64 N, .int .i64 G]) := he
              subst he
              have HBF := Lib.hid (WB7.out.trans (((HB14.out.trans (hb15.mono HB14.out.size)).alloc (by have := HB14.out.size; have := hb15.size; omega) (.cells #[.slice k1'' k2'' k3'', .slice k5'' k6'' k7''] 25)).mono WB7.out.size))
              have dN : (N == N) = true := by simp
              have dG : (G == G) = true := by simp
              clear hb15
              go_wp2_with fail
              go_ret
              exact ⟨rfl, HBF.out⟩
      · have df1 : (Fe == 0) = false := by simpa using hF0
        have df2 : (Fe != 0) = true := by simp [hF0]
        go_upto_region 7 with (fail)
        rw [← hW6]
        clear hW6
        rw [← hggy]
        clear hggy
        have kY0 : Blk ((W6.setCell ⟨gx, 0, none⟩ (.slice tA tn tc)).setCell ⟨gx, 1, none⟩ (.slice tB tm td)) gy 25 #[.slice bA bn bc, .slice bB bm bd] := ((KY6.out.far (p := ⟨gx, 0, none⟩) (Ne.symm hnxy) (.slice tA tn tc)).far (p := ⟨gx, 1, none⟩) (Ne.symm hnxy) (.slice tB tm td))
        have hKP : KeepsT 25 W6 ((((W6.setCell ⟨gx, 0, none⟩ (.slice tA tn tc)).setCell ⟨gx, 1, none⟩ (.slice tB tm td)).setCell ⟨gy, 0, none⟩ (.slice tA tn tc)).setCell ⟨gy, 1, none⟩ (.slice tB tm td)) := ((KeepsT.of_box KX6.out).trans (KeepsT.of_box (KX6.out.set_ 0 (.slice tA tn tc)))).trans ((KeepsT.of_box kY0).trans (KeepsT.of_box (kY0.set_ 0 (.slice tA tn tc))))
        have hKT7 : Blk ((((W6.setCell ⟨gx, 0, none⟩ (.slice tA tn tc)).setCell ⟨gx, 1, none⟩ (.slice tB tm td)).setCell ⟨gy, 0, none⟩ (.slice tA tn tc)).setCell ⟨gy, 1, none⟩ (.slice tB tm td)) w.heap.size 25 #[.slice tA tn tc, .slice tB tm td] := ((((KT6.out.far (p := ⟨gx, 0, none⟩) hntx (.slice tA tn tc)).far (p := ⟨gx, 1, none⟩) hntx (.slice tB tm td)).far (p := ⟨gy, 0, none⟩) hnty (.slice tA tn tc)).far (p := ⟨gy, 1, none⟩) hnty (.slice tB tm td))
        have hKX7 : Blk ((((W6.setCell ⟨gx, 0, none⟩ (.slice tA tn tc)).setCell ⟨gx, 1, none⟩ (.slice tB tm td)).setCell ⟨gy, 0, none⟩ (.slice tA tn tc)).setCell ⟨gy, 1, none⟩ (.slice tB tm td)) gx 25 #[.slice tA tn tc, .slice tB tm td] := ((((KX6.out.set_ 0 (.slice tA tn tc)).set_ 1 (.slice tB tm td)).far (p := ⟨gy, 0, none⟩) hnxy (.slice tA tn tc)).far (p := ⟨gy, 1, none⟩) hnxy (.slice tB tm td))
        have hKY7 : Blk ((((W6.setCell ⟨gx, 0, none⟩ (.slice tA tn tc)).setCell ⟨gx, 1, none⟩ (.slice tB tm td)).setCell ⟨gy, 0, none⟩ (.slice tA tn tc)).setCell ⟨gy, 1, none⟩ (.slice tB tm td)) gy 25 #[.slice tA tn tc, .slice tB tm td] := ((kY0.set_ 0 (.slice tA tn tc)).set_ 1 (.slice tB tm td))
        have hWB7 : Below w.heap.size w ((((W6.setCell ⟨gx, 0, none⟩ (.slice tA tn tc)).setCell ⟨gx, 1, none⟩ (.slice tB tm td)).setCell ⟨gy, 0, none⟩ (.slice tA tn tc)).setCell ⟨gy, 1, none⟩ (.slice tB tm td)) := ((((HB6w.out.setCell (by simp only; omega) _).setCell (by simp only; omega) _).setCell (by simp only; omega) _).setCell (by simp only; omega) _)
        obtain ⟨⟨g0, g1⟩, fg0, fg1⟩ := blk2T KX6.out
        obtain ⟨⟨y0, y1⟩, fy0, fy1⟩ := blk2T kY0
        obtain ⟨⟨y2, y3⟩, fy2, fy3⟩ := blk2T KY6.out
        obtain ⟨⟨t0, t1⟩, -⟩ := blk2T KT6.out
        have hnxt : gx ≠ w.heap.size := fun e => hntx e.symm
        have hnyx : gy ≠ gx := fun e => hnxy e.symm
        go_upto_region 11 with (fail)
        obtain ⟨W7, hW7⟩ : ∃ W, W = ((((W6.setCell ⟨gx, 0, none⟩ (.slice tA tn tc)).setCell ⟨gx, 1, none⟩ (.slice tB tm td)).setCell ⟨gy, 0, none⟩ (.slice tA tn tc)).setCell ⟨gy, 1, none⟩ (.slice tB tm td)) := ⟨_, rfl⟩
        rw [← hW7] at hKP hKT7 hKX7 hKY7 hWB7 ⊢

        have KT7 := Lib.hid hKT7
        have KX7 := Lib.hid hKX7
        have KY7 := Lib.hid hKY7
        have WB7 := Lib.hid hWB7
        have RT0 : TabR.rd W7 w.heap.size ⟨⟨tA, tn, tc, tl⟩, ⟨tB, tm, td, tk⟩⟩ := TabR.rd.below HR.out hWB7
        have RT : Hid (TabR.rd W7 W7.heap.size ⟨⟨tA, tn, tc, tl⟩, ⟨tB, tm, td, tk⟩⟩) := RT0.more hWB7.size
        have MX : Hid (HasMax W7) := HMX.out.below hWB7
        have LT : Hid (Like 1048577 T (TabR.con ⟨⟨tA, tn, tc, tl⟩, ⟨tB, tm, td, tk⟩⟩) y) := by
          show Like _ _ _ _
          rw [HTC.out]
          exact like_self HZC.out HTK.out y
        have RX := RT
        have LX := LT
        have RY := RT
        have LY := LT
        clear hKP hKT7 hKX7 hKY7 hWB7 g0 g1 fg0 fg1 y0 y1 fy0 fy1 y2 y3 fy2 fy3 t0 t1 hnxt hnyx hW7 kY0 RT0
        have hOT : Hid (∀ W, Below W7.heap.size W7 W → Calls Tryd.prog 19 #[.agg #[.slice tA tn tc, .slice tB tm td], .string ⟨y.toArray⟩] W fun e w' => ∃ v, e = .returned v ∧ SesL (seOf T.opn y) v w' ∧ Below W.heap.size W w') := fun W hb => others_of T ⟨⟨tA, tn, tc, tl⟩, ⟨tB, tm, td, tk⟩⟩ y W ((RT.out.below hb).more hb.size) LT.out
        have hOX : Hid (∀ W, Below W7.heap.size W7 W → Calls Tryd.prog 19 #[.agg #[.slice tA tn tc, .slice tB tm td], .string ⟨y.toArray⟩] W fun e w' => ∃ v, e = .returned v ∧ SesL (seOf T.opn y) v w' ∧ Below W.heap.size W w') := fun W hb => others_of T ⟨⟨tA, tn, tc, tl⟩, ⟨tB, tm, td, tk⟩⟩ y W ((RX.out.below hb).more hb.size) LX.out
        have hOY : Hid (∀ W, Below W7.heap.size W7 W → Calls Tryd.prog 19 #[.agg #[.slice tA tn tc, .slice tB tm td], .string ⟨y.toArray⟩] W fun e w' => ∃ v, e = .returned v ∧ SesL (seOf T.opn y) v w' ∧ Below W.heap.size W w') := fun W hb => others_of T ⟨⟨tA, tn, tc, tl⟩, ⟨tB, tm, td, tk⟩⟩ y W ((RY.out.below hb).more hb.size) LY.out
        have hNT : Hid (∀ W, Below W7.heap.size W7 W → Calls Tryd.prog 10 #[.agg #[.slice tA tn tc, .slice tB tm td], .string ⟨y.toArray⟩, .string ⟨z.toArray⟩] W fun e w' => ∃ s : TabR, e = .returned (.tuple #[s.val, .int .i64 N, .int .i64 G]) ∧ Below W.heap.size W w') := fun W hb => by rw [HNN.out, HGG.out]; exact others_open T ⟨⟨tA, tn, tc, tl⟩, ⟨tB, tm, td, tk⟩⟩ y z hyl hzl W ((RT.out.below hb).more hb.size) LT.out HTK.out (MX.out.below hb)
        have hNX : Hid (∀ W, Below W7.heap.size W7 W → Calls Tryd.prog 10 #[.agg #[.slice tA tn tc, .slice tB tm td], .string ⟨y.toArray⟩, .string ⟨z.toArray⟩] W fun e w' => ∃ s : TabR, e = .returned (.tuple #[s.val, .int .i64 N, .int .i64 G]) ∧ Below W.heap.size W w') := fun W hb => by rw [HNN.out, HGG.out]; exact others_open T ⟨⟨tA, tn, tc, tl⟩, ⟨tB, tm, td, tk⟩⟩ y z hyl hzl W ((RX.out.below hb).more hb.size) LX.out HTK.out (MX.out.below hb)
        have hNY : Hid (∀ W, Below W7.heap.size W7 W → Calls Tryd.prog 10 #[.agg #[.slice tA tn tc, .slice tB tm td], .string ⟨y.toArray⟩, .string ⟨z.toArray⟩] W fun e w' => ∃ s : TabR, e = .returned (.tuple #[s.val, .int .i64 N, .int .i64 G]) ∧ Below W.heap.size W w') := fun W hb => by rw [HNN.out, HGG.out]; exact others_open T ⟨⟨tA, tn, tc, tl⟩, ⟨tB, tm, td, tk⟩⟩ y z hyl hzl W ((RY.out.below hb).more hb.size) LY.out HTK.out (MX.out.below hb)
        have hc := hOT.out W7 (Below.refl _ _)
        obtain ⟨⟨c0, c1⟩, -⟩ := blk2T KT7.out
        go_wp2_with fail
        refine hc.mono ?_
        clear hc c0 c1
        rintro e w8 ⟨v0, rfl, hs0, hb8⟩
        have HS0 := Lib.hid hs0
        obtain ⟨⟨sA, sn, sc, sl⟩, rfl, -, -, -⟩ := hs0
        have HB8 := Lib.hid hb8
        have KT8 := Lib.hid (KT7.out.below hb8 KT7.out.lt)
        have KX8 := Lib.hid (KX7.out.below hb8 KX7.out.lt)
        have KY8 := Lib.hid (KY7.out.below hb8 KY7.out.lt)
        have hOX : Hid (∀ W, Below w8.heap.size w8 W → Calls Tryd.prog 19 #[.agg #[.slice tA tn tc, .slice tB tm td], .string ⟨y.toArray⟩] W fun e w' => ∃ v, e = .returned v ∧ SesL (seOf T.opn y) v w' ∧ Below W.heap.size W w') := fun W hb => hOX.out W (HB8.out.trans (hb.mono HB8.out.size))
        have hOY : Hid (∀ W, Below w8.heap.size w8 W → Calls Tryd.prog 19 #[.agg #[.slice tA tn tc, .slice tB tm td], .string ⟨y.toArray⟩] W fun e w' => ∃ v, e = .returned v ∧ SesL (seOf T.opn y) v w' ∧ Below W.heap.size W w') := fun W hb => hOY.out W (HB8.out.trans (hb.mono HB8.out.size))
        clear hb8
        go_wp2_with fail
        refine wp_region_good2 (by kernel_rfl) (by kernel_rfl) [(fun v _ => v = .agg #[.slice tA tn tc, .slice tB tm td]),
          (fun v _ => v = .string ⟨y.toArray⟩),
          (SesL (seOf T.opn y)),
          (fun v _ => v = .agg #[.slice tA tn tc, .slice tB tm td]),
          (fun v _ => v = .string ⟨y.toArray⟩),
          (SesL (seOf T.opn y)),
          (SesL (seOf T.opn y)),
          (SesL (seOf T.opn y))] ?_ ?_ ?_
        · repeat' (first | exact stays_nil | refine stays_cons ?_ ?_ | exact Stays.pure | exact SesL.stays _)
        · intro i oo ho m2 W hb0 hmi hcl hdeps AA KK hA hK
          rcases i with _ | _ | _ | _ | _ | _ | _ | _ | i
          · injection ho with ho
            subst ho
            have ef11 : AA.tmps[11]?.getD undef = .pointer (some ⟨gx, 0, none⟩) := by rw [hA]; exact tmps_free (by kernel_rfl)
            clear hA hdeps hcl hmi
            obtain ⟨⟨b0, b1⟩, -⟩ := blk2T (KX8.out.below hb0 KX8.out.lt)
            have hK0 : KK (AA.put (some 63) _) _ := hK (.agg #[.slice tA tn tc, .slice tB tm td]) _ (Below.refl _ _) (Eq.refl _)
            clear hK
            go_simp
            exact hK0
          · injection ho with ho
            subst ho
            have ef2 : AA.tmps[2]?.getD undef = .string ⟨y.toArray⟩ := by rw [hA]; exact tmps_free (by kernel_rfl)
            clear hA hdeps hcl hmi
            have hK0 : KK (AA.put (some 64) _) _ := hK (.string ⟨y.toArray⟩) _ (Below.refl _ _) (Eq.refl _)
            clear hK
            go_simp
            exact hK0
          · injection ho with ho
            subst ho
            obtain ⟨x0, hx0, hg0⟩ := hdeps ⟨0, .data⟩ (by simp) rfl
            have hg0 : x0 = .agg #[.slice tA tn tc, .slice tB tm td] := hg0
            subst hg0
            have e0 : AA.tmps[63]?.getD undef = .agg #[.slice tA tn tc, .slice tB tm td] := by rw [hA]; exact tmps_own (by kernel_rfl) hx0 (of_decide_eq_true (by kernel_rfl))
            obtain ⟨x1, hx1, hg1⟩ := hdeps ⟨1, .data⟩ (by simp) rfl
            have hg1 : x1 = .string ⟨y.toArray⟩ := hg1
            subst hg1
            have e1 : AA.tmps[64]?.getD undef = .string ⟨y.toArray⟩ := by rw [hA]; exact tmps_own (by kernel_rfl) hx1 (of_decide_eq_true (by kernel_rfl))
            clear hA hdeps hcl hmi hx0 hx1
            have hKK := Lib.hid hK
            clear hK
            go_simp
            refine (hOX.out _ (hb0)).mono ?_
            rintro e w5 ⟨v, rfl, hsl, hbn⟩
            exact hKK.out _ _ hbn hsl
          · injection ho with ho
            subst ho
            have ef14 : AA.tmps[14]?.getD undef = .pointer (some ⟨gy, 0, none⟩) := by rw [hA]; exact tmps_free (by kernel_rfl)
            clear hA hdeps hcl hmi
            obtain ⟨⟨b0, b1⟩, -⟩ := blk2T (KY8.out.below hb0 KY8.out.lt)
            have hK0 : KK (AA.put (some 66) _) _ := hK (.agg #[.slice tA tn tc, .slice tB tm td]) _ (Below.refl _ _) (Eq.refl _)
            clear hK
            go_simp
            exact hK0
          · injection ho with ho
            subst ho
            have ef2 : AA.tmps[2]?.getD undef = .string ⟨y.toArray⟩ := by rw [hA]; exact tmps_free (by kernel_rfl)
            clear hA hdeps hcl hmi
            have hK0 : KK (AA.put (some 67) _) _ := hK (.string ⟨y.toArray⟩) _ (Below.refl _ _) (Eq.refl _)
            clear hK
            go_simp
            exact hK0
          · injection ho with ho
            subst ho
            obtain ⟨x3, hx3, hg3⟩ := hdeps ⟨3, .data⟩ (by simp) rfl
            have hg3 : x3 = .agg #[.slice tA tn tc, .slice tB tm td] := hg3
            subst hg3
            have e3 : AA.tmps[66]?.getD undef = .agg #[.slice tA tn tc, .slice tB tm td] := by rw [hA]; exact tmps_own (by kernel_rfl) hx3 (of_decide_eq_true (by kernel_rfl))
            obtain ⟨x4, hx4, hg4⟩ := hdeps ⟨4, .data⟩ (by simp) rfl
            have hg4 : x4 = .string ⟨y.toArray⟩ := hg4
            subst hg4
            have e4 : AA.tmps[67]?.getD undef = .string ⟨y.toArray⟩ := by rw [hA]; exact tmps_own (by kernel_rfl) hx4 (of_decide_eq_true (by kernel_rfl))
            clear hA hdeps hcl hmi hx3 hx4
            have hKK := Lib.hid hK
            clear hK
            go_simp
            refine (hOY.out _ (hb0)).mono ?_
            rintro e w5 ⟨v, rfl, hsl, hbn⟩
            exact hKK.out _ _ hbn hsl
          · injection ho with ho
            subst ho
            obtain ⟨x2, hx2, hg2⟩ := hdeps ⟨2, .data⟩ (by simp) rfl
            have hg2 : SesL (seOf T.opn y) x2 W := hg2
            have e2 : AA.tmps[65]?.getD undef = x2 := by rw [hA]; exact tmps_own (by kernel_rfl) hx2 (of_decide_eq_true (by kernel_rfl))
            clear hA hdeps hcl hmi hx2
            have hK0 : KK (AA.put (some 17) _) _ := hK x2 _ (Below.refl _ _) hg2
            clear hK
            go_simp
            exact hK0
          · injection ho with ho
            subst ho
            obtain ⟨x5, hx5, hg5⟩ := hdeps ⟨5, .data⟩ (by simp) rfl
            have hg5 : SesL (seOf T.opn y) x5 W := hg5
            have e5 : AA.tmps[68]?.getD undef = x5 := by rw [hA]; exact tmps_own (by kernel_rfl) hx5 (of_decide_eq_true (by kernel_rfl))
            clear hA hdeps hcl hmi hx5
            have hK0 : KK (AA.put (some 18) _) _ := hK x5 _ (Below.refl _ _) hg5
            clear hK
            go_simp
            exact hK0
          · simp at ho
        · intro m W hbx hall
          obtain ⟨x0, m0, g0⟩ := hall 0 (by simp)
          replace g0 : x0 = .agg #[.slice tA tn tc, .slice tB tm td] := g0
          subst g0
          obtain ⟨x1, m1, g1⟩ := hall 1 (by simp)
          replace g1 : x1 = .string ⟨y.toArray⟩ := g1
          subst g1
          obtain ⟨x2, m2, g2⟩ := hall 2 (by simp)
          replace g2 : SesL (seOf T.opn y) x2 W := g2
          obtain ⟨x3, m3, g3⟩ := hall 3 (by simp)
          replace g3 : x3 = .agg #[.slice tA tn tc, .slice tB tm td] := g3
          subst g3
          obtain ⟨x4, m4, g4⟩ := hall 4 (by simp)
          replace g4 : x4 = .string ⟨y.toArray⟩ := g4
          subst g4
          obtain ⟨x5, m5, g5⟩ := hall 5 (by simp)
          replace g5 : SesL (seOf T.opn y) x5 W := g5
          obtain ⟨x6, m6, g6⟩ := hall 6 (by simp)
          replace g6 : SesL (seOf T.opn y) x6 W := g6
          obtain ⟨x7, m7, g7⟩ := hall 7 (by simp)
          replace g7 : SesL (seOf T.opn y) x7 W := g7
          rw [frameM_all (by kernel_rfl) [.agg #[.slice tA tn tc, .slice tB tm td], .string ⟨y.toArray⟩, x2, .agg #[.slice tA tn tc, .slice tB tm td], .string ⟨y.toArray⟩, x5, x6, x7] rfl (fun i hi => by
              rcases i with _ | _ | _ | _ | _ | _ | _ | _ | i
              · exact m0
              · exact m1
              · exact m2
              · exact m3
              · exact m4
              · exact m5
              · exact m6
              · exact m7
              · simp at hi; omega)]
          clear hall m0 m1 m2 m3 m4 m5 m6 m7
          simp only [putAll, Act.put, List.setIfInBounds_toArray, List.set_cons_succ, List.set_cons_zero]
          have HS9 := Lib.hid (SesL.stays _ _ _ _ HS0.out hbx)
          have HB9 := Lib.hid (HB8.out.trans (hbx.mono HB8.out.size))
          have KT9 := Lib.hid (KT8.out.below hbx KT8.out.lt)
          have KX9 := Lib.hid (KX8.out.below hbx KX8.out.lt)
          have KY9 := Lib.hid (KY8.out.below hbx KY8.out.lt)
          obtain ⟨⟨pA, pn, pc, pl⟩, rfl, hp1, hp2, hp3⟩ := g6
          obtain ⟨⟨qA, qn, qc, ql⟩, rfl, hq1, hq2, hq3⟩ := g7
          obtain ⟨⟨sA', sn', sc', sl'⟩, hv0, hr1, hr2, hr3⟩ := HS9.out
          injection hv0 with hv1 hv2 hv3
          simp only at hv1 hv2 hv3
          subst hv1 hv2 hv3
          clear g2 g5 hOX hOY hOT hbx HS0 HS9 HB8 KT8 KX8 KY8 KT7 KX7 KY7
          have hnp : pn = sn := by
            have h1 : pn = pl.length := hp1.1
            have h2 : sn = sl'.length := hr1.1
            have h3 : pl.length = sl'.length := by simpa using congrArg List.length (hp3.trans hr3.symm)
            omega
          have hnq : qn = sn := by
            have h1 : qn = ql.length := hq1.1
            have h2 : sn = sl'.length := hr1.1
            have h3 : ql.length = sl'.length := by simpa using congrArg List.length (hq3.trans hr3.symm)
            omega
          have hq16 : qn ≤ 16 := by
            have h1 : qn = ql.length := hq1.1
            have h3 : ql.length = (seOf T.opn y).length := by simpa using congrArg List.length hq3
            have := count_le T HTK.out y
            omega
          subst hnp
          subst hnq
          have HP1 := Lib.hid hp1
          have HP2 := Lib.hid hp2
          have HQ1 := Lib.hid hq1
          have HQ2 := Lib.hid hq2
          have HR1 := Lib.hid hr1
          have HR2 := Lib.hid hr2
          have HPE := Lib.hid (hp3.trans hr3.symm)
          have HQE := Lib.hid (hq3.trans hr3.symm)
          clear hp1 hp2 hp3 hq1 hq2 hq3 hr1 hr2 hr3
          obtain ⟨W9, hW9⟩ : ∃ X, X = W := ⟨_, rfl⟩
          rw [← hW9] at HB9 KT9 KX9 KY9 HP1 HP2 HQ1 HQ2 HR1 HR2
          go_wp2_with fail
          rw [← hW9]
          clear hW9 W
          go_loopw [19] (fun j wr => ∃ i : Nat, i ≤ qn ∧ j = .int .i64 (i : Int) ∧ Below W9.heap.size W9 wr) (fun j _ => qn - (intOf j).toNat)
          case atStart => exact ⟨0, Nat.zero_le _, rfl, Below.refl _ _⟩
          case round =>
            obtain ⟨i, hi, rfl, hbr⟩ := hrel
            by_cases hlt : i < qn
            · have hii : (i : Int) < (qn : Int) := by omega
              have hi0 : (0 : Int) ≤ (i : Int) := by omega
              have hsz9 := hbr.size
              obtain ⟨ad, rfl, hadB, a0, a1, a2, a3, a4⟩ := ses_at ((HP1.out.below hbr).2.2) (show qn = pl.length from HP1.out.1) hlt
              obtain ⟨ae, rfl, haeB, b0, b1, b2, b3, b4⟩ := ses_at ((HR1.out.below hbr).2.2) (show qn = sl'.length from HR1.out.1) hlt
              obtain ⟨af, rfl, hafB, c0, c1, c2, c3, c4⟩ := ses_at ((HQ1.out.below hbr).2.2) (show qn = ql.length from HQ1.out.1) hlt
              have hpl : i < pl.length := by have : qn = pl.length := HP1.out.1; omega
              have hsl : i < sl'.length := by have : qn = sl'.length := HR1.out.1; omega
              have hql : i < ql.length := by have : qn = ql.length := HQ1.out.1; omega
              have hcp : (pl[i]'hpl).con = (sl'[i]'hsl).con := by
                have := congrArg (fun l : List SesC => l[i]?) HPE.out
                simpa [List.getElem?_map, List.getElem?_eq_getElem hpl, List.getElem?_eq_getElem hsl] using this
              have hcq : (ql[i]'hql).con = (sl'[i]'hsl).con := by
                have := congrArg (fun l : List SesC => l[i]?) HQE.out
                simpa [List.getElem?_map, List.getElem?_eq_getElem hql, List.getElem?_eq_getElem hsl] using this
              have hxp := HP2.out _ (List.getElem_mem hpl)
              have hxr := HR2.out _ (List.getElem_mem hsl)
              have hxq := HQ2.out _ (List.getElem_mem hql)
              obtain ⟨yp, hyp⟩ : ∃ y, y = pl[i]'hpl := ⟨_, rfl⟩
              obtain ⟨yr, hyr⟩ : ∃ y, y = sl'[i]'hsl := ⟨_, rfl⟩
              obtain ⟨yq, hyq⟩ : ∃ y, y = ql[i]'hql := ⟨_, rfl⟩
              rw [← hyp] at a0 a1 a2 a3 a4 hcp hxp
              rw [← hyr] at b0 b1 b2 b3 b4 hcp hcq hxr
              rw [← hyq] at c0 c1 c2 c3 c4 hcq hxq
              have hSX : Hid (∀ W, Below wr.heap.size wr W → Calls Tryd.prog 16 #[.agg (encSes yp).toArray, .agg (encSes yr).toArray] W fun e w' => e = .returned (.bool true) ∧ Below W.heap.size W w') := fun W hb => sameS_any yp yr hcp W W9.heap.size (by have := hb.size; omega) (hxp.below (hbr.trans (hb.mono hsz9))) (hxr.below (hbr.trans (hb.mono hsz9)))
              have hSY : Hid (∀ W, Below wr.heap.size wr W → Calls Tryd.prog 16 #[.agg (encSes yq).toArray, .agg (encSes yr).toArray] W fun e w' => e = .returned (.bool true) ∧ Below W.heap.size W w') := fun W hb => sameS_any yq yr hcq W W9.heap.size (by have := hb.size; omega) (hxq.below (hbr.trans (hb.mono hsz9))) (hxr.below (hbr.trans (hb.mono hsz9)))
              obtain ⟨ft, fh, fi, ⟨fA, fn, fc, fl⟩, fb⟩ := yp
              obtain ⟨ut, uh, ui, ⟨uA, un, uc, ul⟩, ub⟩ := yr
              obtain ⟨vt, vh, vi, ⟨vA, vn, vc, vl⟩, vb⟩ := yq
              simp only at a0 a1 a2 a3 a4 b0 b1 b2 b3 b4 c0 c1 c2 c3 c4
              simp only [encSes] at hSX hSY
              have lp : (ad.add (i * 5)).block < wr.heap.size := by rw [block_of_add]; omega
              have lr : (ae.add (i * 5)).block < wr.heap.size := by rw [block_of_add]; omega
              have lq : (af.add (i * 5)).block < wr.heap.size := by rw [block_of_add]; omega
              have hS := Lib.hid (fun (W' : World) (hB' : Below wr.heap.size wr W') => (⟨(hB'.cell (p := (ad.add (i * 5))) lp).trans a0, (hB'.cell (p := ⟨(ad.add (i * 5)).block, (ad.add (i * 5)).off + 1, none⟩) lp).trans a1, (hB'.cell (p := ⟨(ad.add (i * 5)).block, (ad.add (i * 5)).off + 2, none⟩) lp).trans a2, (hB'.cell (p := ⟨(ad.add (i * 5)).block, (ad.add (i * 5)).off + 3, none⟩) lp).trans a3, (hB'.cell (p := ⟨(ad.add (i * 5)).block, (ad.add (i * 5)).off + 4, none⟩) lp).trans a4, (hB'.cell (p := (ae.add (i * 5))) lr).trans b0, (hB'.cell (p := ⟨(ae.add (i * 5)).block, (ae.add (i * 5)).off + 1, none⟩) lr).trans b1, (hB'.cell (p := ⟨(ae.add (i * 5)).block, (ae.add (i * 5)).off + 2, none⟩) lr).trans b2, (hB'.cell (p := ⟨(ae.add (i * 5)).block, (ae.add (i * 5)).off + 3, none⟩) lr).trans b3, (hB'.cell (p := ⟨(ae.add (i * 5)).block, (ae.add (i * 5)).off + 4, none⟩) lr).trans b4, (hB'.cell (p := (af.add (i * 5))) lq).trans c0, (hB'.cell (p := ⟨(af.add (i * 5)).block, (af.add (i * 5)).off + 1, none⟩) lq).trans c1, (hB'.cell (p := ⟨(af.add (i * 5)).block, (af.add (i * 5)).off + 2, none⟩) lq).trans c2, (hB'.cell (p := ⟨(af.add (i * 5)).block, (af.add (i * 5)).off + 3, none⟩) lq).trans c3, (hB'.cell (p := ⟨(af.add (i * 5)).block, (af.add (i * 5)).off + 4, none⟩) lq).trans c4⟩ : W'.cell? (ad.add (i * 5)) = some (.string ⟨ft.toArray⟩) ∧ W'.cell? ⟨(ad.add (i * 5)).block, (ad.add (i * 5)).off + 1, none⟩ = some (.int .i64 fh) ∧ W'.cell? ⟨(ad.add (i * 5)).block, (ad.add (i * 5)).off + 2, none⟩ = some (.string ⟨fi.toArray⟩) ∧ W'.cell? ⟨(ad.add (i * 5)).block, (ad.add (i * 5)).off + 3, none⟩ = some (.slice fA fn fc) ∧ W'.cell? ⟨(ad.add (i * 5)).block, (ad.add (i * 5)).off + 4, none⟩ = some (.bool fb) ∧ W'.cell? (ae.add (i * 5)) = some (.string ⟨ut.toArray⟩) ∧ W'.cell? ⟨(ae.add (i * 5)).block, (ae.add (i * 5)).off + 1, none⟩ = some (.int .i64 uh) ∧ W'.cell? ⟨(ae.add (i * 5)).block, (ae.add (i * 5)).off + 2, none⟩ = some (.string ⟨ui.toArray⟩) ∧ W'.cell? ⟨(ae.add (i * 5)).block, (ae.add (i * 5)).off + 3, none⟩ = some (.slice uA un uc) ∧ W'.cell? ⟨(ae.add (i * 5)).block, (ae.add (i * 5)).off + 4, none⟩ = some (.bool ub) ∧ W'.cell? (af.add (i * 5)) = some (.string ⟨vt.toArray⟩) ∧ W'.cell? ⟨(af.add (i * 5)).block, (af.add (i * 5)).off + 1, none⟩ = some (.int .i64 vh) ∧ W'.cell? ⟨(af.add (i * 5)).block, (af.add (i * 5)).off + 2, none⟩ = some (.string ⟨vi.toArray⟩) ∧ W'.cell? ⟨(af.add (i * 5)).block, (af.add (i * 5)).off + 3, none⟩ = some (.slice vA vn vc) ∧ W'.cell? ⟨(af.add (i * 5)).block, (af.add (i * 5)).off + 4, none⟩ = some (.bool vb)))
              have HBR := Lib.hid hbr
              have hb4 := Below.refl wr.heap.size wr
              clear a0 a1 a2 a3 a4 b0 b1 b2 b3 b4 c0 c1 c2 c3 c4 lp lr lq hyp hyr hyq hcp hcq hxp hxr hxq hbr
              go_wp2_with fail
              refine wpC_region (fun W' => Below wr.heap.size wr W') (by kernel_rfl) (by kernel_rfl) (hb4.drew) (fun OPS D QQ HO hD hD2 hQQ => ?_)
              have hgo10 : Hid ((OPS[10]?).bind (·.dst) = some 97) := by show _ = _; rw [HO.out]; rfl
              clear HO
              have HD := Lib.hid hD
              have HD2 := Lib.hid hD2
              have HQQ := Lib.hid hQQ
              clear hD hD2 hQQ
              refine wpC_read (v := ?_) rfl (fun W hW => ?_) ?_
              rotate_left
              · clear hW; go_simp; try (with_reducible rfl)
              try simp only [Act.put, List.setIfInBounds_toArray, List.set_cons_zero, List.set_cons_succ]
              refine wpC_read (v := ?_) rfl (fun W hW => ?_) ?_
              rotate_left
              · clear hW; go_simp; try (with_reducible rfl)
              try simp only [Act.put, List.setIfInBounds_toArray, List.set_cons_zero, List.set_cons_succ]
              refine wpC_read (v := ?_) rfl (fun W hW => ?_) ?_
              rotate_left
              · clear hW; go_simp; try (with_reducible rfl)
              try simp only [Act.put, List.setIfInBounds_toArray, List.set_cons_zero, List.set_cons_succ]
              refine wpC_read (v := ?_) rfl (fun W hW => ?_) ?_
              rotate_left
              · replace hW := HD.out W hW
                obtain ⟨a0, a1, a2, a3, a4, b0, b1, b2, b3, b4, c0, c1, c2, c3, c4⟩ := hS.out W hW
                go_simp; try (with_reducible rfl)
              try simp only [Act.put, List.setIfInBounds_toArray, List.set_cons_zero, List.set_cons_succ]
              refine wpC_read (v := ?_) rfl (fun W hW => ?_) ?_
              rotate_left
              · clear hW; go_simp; try (with_reducible rfl)
              try simp only [Act.put, List.setIfInBounds_toArray, List.set_cons_zero, List.set_cons_succ]
              refine wpC_read (v := ?_) rfl (fun W hW => ?_) ?_
              rotate_left
              · clear hW; go_simp; try (with_reducible rfl)
              try simp only [Act.put, List.setIfInBounds_toArray, List.set_cons_zero, List.set_cons_succ]
              refine wpC_read (v := ?_) rfl (fun W hW => ?_) ?_
              rotate_left
              · clear hW; go_simp; try (with_reducible rfl)
              try simp only [Act.put, List.setIfInBounds_toArray, List.set_cons_zero, List.set_cons_succ]
              refine wpC_read (v := ?_) rfl (fun W hW => ?_) ?_
              rotate_left
              · replace hW := HD.out W hW
                obtain ⟨a0, a1, a2, a3, a4, b0, b1, b2, b3, b4, c0, c1, c2, c3, c4⟩ := hS.out W hW
                go_simp; try (with_reducible rfl)
              try simp only [Act.put, List.setIfInBounds_toArray, List.set_cons_zero, List.set_cons_succ]
              refine wpC_read (v := .bool true) rfl (fun W hW => ?_) ?_
              · replace hW := HD.out W hW
                obtain ⟨a0, a1, a2, a3, a4, b0, b1, b2, b3, b4, c0, c1, c2, c3, c4⟩ := hS.out W hW
                go_simp
                refine (hSX.out _ hW).mono ?_
                rintro e w5 ⟨rfl, hbn⟩
                exact ⟨rfl, HD2.out _ (below_step hW hbn)⟩
              try simp only [Act.put, List.setIfInBounds_toArray, List.set_cons_zero, List.set_cons_succ]
              refine wpC_read (v := ?_) rfl (fun W hW => ?_) ?_
              rotate_left
              · clear hW; go_simp; try (with_reducible rfl)
              try simp only [Act.put, List.setIfInBounds_toArray, List.set_cons_zero, List.set_cons_succ]
              refine wpC_read (v := ?_) rfl (fun W hW => ?_) ?_
              rotate_left
              · clear hW; go_simp; try (with_reducible rfl)
              try simp only [Act.put, List.setIfInBounds_toArray, List.set_cons_zero, List.set_cons_succ]
              refine wpC_gread (v := ?_) rfl hgo10.out rfl (fun W hW => ?_) ?_
              rotate_left
              · clear hW; go_simp; try (with_reducible rfl)
              try simp only [Act.put, List.setIfInBounds_toArray, List.set_cons_zero, List.set_cons_succ]
              refine wpC_gread (v := ?_) rfl hgo10.out rfl (fun W hW => ?_) ?_
              rotate_left
              · clear hW; go_simp; try (with_reducible rfl)
              try simp only [Act.put, List.setIfInBounds_toArray, List.set_cons_zero, List.set_cons_succ]
              refine wpC_gread (v := ?_) rfl hgo10.out rfl (fun W hW => ?_) ?_
              rotate_left
              · clear hW; go_simp; try (with_reducible rfl)
              try simp only [Act.put, List.setIfInBounds_toArray, List.set_cons_zero, List.set_cons_succ]
              refine wpC_gread (v := ?_) rfl hgo10.out rfl (fun W hW => ?_) ?_
              rotate_left
              · replace hW := HD.out W hW
                obtain ⟨a0, a1, a2, a3, a4, b0, b1, b2, b3, b4, c0, c1, c2, c3, c4⟩ := hS.out W hW
                go_simp; try (with_reducible rfl)
              try simp only [Act.put, List.setIfInBounds_toArray, List.set_cons_zero, List.set_cons_succ]
              refine wpC_gread (v := ?_) rfl hgo10.out rfl (fun W hW => ?_) ?_
              rotate_left
              · clear hW; go_simp; try (with_reducible rfl)
              try simp only [Act.put, List.setIfInBounds_toArray, List.set_cons_zero, List.set_cons_succ]
              refine wpC_gread (v := ?_) rfl hgo10.out rfl (fun W hW => ?_) ?_
              rotate_left
              · clear hW; go_simp; try (with_reducible rfl)
              try simp only [Act.put, List.setIfInBounds_toArray, List.set_cons_zero, List.set_cons_succ]
              refine wpC_gread (v := ?_) rfl hgo10.out rfl (fun W hW => ?_) ?_
              rotate_left
              · clear hW; go_simp; try (with_reducible rfl)
              try simp only [Act.put, List.setIfInBounds_toArray, List.set_cons_zero, List.set_cons_succ]
              refine wpC_gread (v := ?_) rfl hgo10.out rfl (fun W hW => ?_) ?_
              rotate_left
              · replace hW := HD.out W hW
                obtain ⟨a0, a1, a2, a3, a4, b0, b1, b2, b3, b4, c0, c1, c2, c3, c4⟩ := hS.out W hW
                go_simp; try (with_reducible rfl)
              try simp only [Act.put, List.setIfInBounds_toArray, List.set_cons_zero, List.set_cons_succ]
              refine wpC_gread (v := .bool true) rfl hgo10.out rfl (fun W hW => ?_) ?_
              · replace hW := HD.out W hW
                obtain ⟨a0, a1, a2, a3, a4, b0, b1, b2, b3, b4, c0, c1, c2, c3, c4⟩ := hS.out W hW
                go_simp
                refine (hSY.out _ hW).mono ?_
                rintro e w5 ⟨rfl, hbn⟩
                exact ⟨rfl, HD2.out _ (below_step hW hbn)⟩
              try simp only [Act.put, List.setIfInBounds_toArray, List.set_cons_zero, List.set_cons_succ]
              refine wpC_gread (v := ?_) rfl hgo10.out rfl (fun W hW => ?_) ?_
              rotate_left
              · clear hW; go_simp; try (with_reducible rfl)
              try simp only [Act.put, List.setIfInBounds_toArray, List.set_cons_zero, List.set_cons_succ]
              refine wpC_read (v := ?_) rfl (fun W hW => ?_) ?_
              rotate_left
              · clear hW; go_simp; try (with_reducible rfl)
              try simp only [Act.put, List.setIfInBounds_toArray, List.set_cons_zero, List.set_cons_succ]
              refine wpQuiet_nil (HQQ.out _ (fun W hW => ?_))
              obtain ⟨a0, a1, a2, a3, a4, b0, b1, b2, b3, b4, c0, c1, c2, c3, c4⟩ := hS.out W hW
              go_wp2_with fail
              go_roundw
              case rel => exact ⟨i + 1, by omega, by go_num, HBR.out.trans (hW.mono HBR.out.size)⟩
              case measure => simp [intOf]; omega
            · have hie : i = qn := by omega
              have hni : ¬ (i : Int) < (qn : Int) := by omega
              have HBA := Lib.hid hbr
              have HB10 := Lib.hid (HB9.out.trans (hbr.mono HB9.out.size))
              obtain ⟨⟨c0, c1⟩, -⟩ := blk2T (KT9.out.below hbr KT9.out.lt)
              have hc := hNT.out wr HB10.out
              clear hbr
              go_wp2_with fail
              refine hc.mono ?_
              clear hc c0 c1
              rintro e w11 ⟨⟨⟨k1, k2, k3, k4⟩, ⟨k5, k6, k7, k8⟩⟩, he, hb11⟩
              replace he : e = .returned (.tuple #[.agg #[.slice k1 k2 k3, .slice k5 k6 k7], .int .i64 N, .int .i64 G]) := he
              subst he
              have hba := (hb11.alloc hb11.size (.cells #[.slice k1 k2 k3, .slice k5 k6 k7] 25))
              have hsl2 : gx < w11.heap.size := by have := (KX9.out.below HBA.out KX9.out.lt).lt; have := hb11.size; omega
              obtain ⟨⟨c0, c1⟩, -⟩ := blk2T ((KX9.out.below HBA.out KX9.out.lt).below hb11 (KX9.out.below HBA.out KX9.out.lt).lt)
              obtain ⟨W12, hW12⟩ : ∃ W, W = w11.alloc (.cells #[.slice k1 k2 k3, .slice k5 k6 k7] 25) := ⟨_, rfl⟩
              rw [← hW12] at hba
              have HBB := Lib.hid (HBA.out.trans (hba.mono HBA.out.size))
              have HB12 := Lib.hid (HB10.out.trans (hba.mono HB10.out.size))
              have hc := hNX.out W12 HB12.out
              clear hb11 hba
              go_wp2_with fail
              rw [← hW12]
              clear hW12
              refine hc.mono ?_
              clear hc c0 c1 hsl2
              rintro e w13 ⟨⟨⟨k1', k2', k3', k4'⟩, ⟨k5', k6', k7', k8'⟩⟩, he, hb13⟩
              replace he : e = .returned (.tuple #[.agg #[.slice k1' k2' k3', .slice k5' k6' k7'], .int .i64 N, .int .i64 G]) := he
              subst he
              have hba := (hb13.alloc hb13.size (.cells #[.slice k1' k2' k3', .slice k5' k6' k7'] 25))
              have hsl2 : gy < w13.heap.size := by have := (KY9.out.below HBB.out KY9.out.lt).lt; have := hb13.size; omega
              obtain ⟨⟨c0, c1⟩, -⟩ := blk2T ((KY9.out.below HBB.out KY9.out.lt).below hb13 (KY9.out.below HBB.out KY9.out.lt).lt)
              obtain ⟨W14, hW14⟩ : ∃ W, W = w13.alloc (.cells #[.slice k1' k2' k3', .slice k5' k6' k7'] 25) := ⟨_, rfl⟩
              rw [← hW14] at hba
              have HB14 := Lib.hid (HB12.out.trans (hba.mono HB12.out.size))
              have hc := hNY.out W14 HB14.out
              clear hb13 hba
              go_wp2_with fail
              rw [← hW14]
              clear hW14
              refine hc.mono ?_
              clear hc c0 c1 hsl2
              rintro e w15 ⟨⟨⟨k1'', k2'', k3'', k4''⟩, ⟨k5'', k6'', k7'', k8''⟩⟩, he, hb15⟩
              replace he : e = .returned (.tuple #[.agg #[.slice k1'' k2'' k3'', .slice k5'' k6'' k7''], .int .i64 N, .int .i64 G]) := he
              subst he
              have HBF := Lib.hid (WB7.out.trans (((HB14.out.trans (hb15.mono HB14.out.size)).alloc (by have := HB14.out.size; have := hb15.size; omega) (.cells #[.slice k1'' k2'' k3'', .slice k5'' k6'' k7''] 25)).mono WB7.out.size))
              have dN : (N == N) = true := by simp
              have dG : (G == G) = true := by simp
              clear hb15
              go_wp2_with fail
              go_ret
              exact ⟨rfl, HBF.out⟩
end Go.Proofs.YtcoaaljgaooeoaaDoor
