/-
  Sessions: the plain law of what is opened and closed.
  The law's num and alive, by their contracts; how large tables are.
-/
import Derived.Test.YtjdebhemoeojiaaDoorYOpn
namespace Go.Proofs.YtjdebhemoeojiaaDoor
open Go.RowKit

theorem posF_parts {α : Type} (cf : α → Int) (l : List α) (h : SignAsc cf l) : (∀ y ∈ l.take (posF cf l), cf y < 0) ∧ (∀ y ∈ l.drop (posF cf l), 0 ≤ cf y) := by
  induction l with
  | nil => simp
  | cons x l ih =>
    have h' : SignAsc cf l := fun i j a b hij ha hb hlt => h (i + 1) (j + 1) a b (by omega) (by simpa using ha) (by simpa using hb) hlt
    rw [posF_cons]
    by_cases hn : cf x < 0
    · rw [if_pos hn]
      obtain ⟨a, b⟩ := ih h'
      refine ⟨fun y hy => ?_, b⟩
      rw [List.take_succ_cons] at hy
      rcases List.mem_cons.1 hy with rfl | hy
      · exact hn
      · exact a y hy
    · rw [if_neg hn]
      refine ⟨by simp, fun y hy => ?_⟩
      rw [List.drop_zero] at hy
      rcases List.mem_cons.1 hy with rfl | hy
      · omega
      · obtain ⟨j, hj, rfl⟩ := List.getElem_of_mem hy
        rcases Int.lt_or_le (cf (l[j]'hj)) 0 with hc | hc
        · exact absurd (h 0 (j + 1) x _ (by omega) rfl (by simp [hj]) hc) hn
        · exact hc
theorem cmpT_tri {a b : BS} {n m : Int} (h1 : ¬ cmpT a n b m < 0) (h2 : ¬ (a = b ∧ n = m)) : cmpT b m a n < 0 := by
  rw [cmpT_neg] at *
  by_cases hab : a = b
  · subst hab
    refine .inr ⟨rfl, ?_⟩
    have : ¬ n < m := fun e => h1 (.inr ⟨rfl, e⟩)
    have : n ≠ m := fun e => h2 ⟨rfl, e⟩
    omega
  · refine .inl (bl_tri a b ?_ hab)
    rw [← Bool.not_eq_true]
    exact fun e => h1 (.inl e)
/-! ### how many were had -/
theorem seHad_mem (l : List HadT) (x : BS) : (∃ y ∈ l, y.1 = x ∧ seHad l x = y.2) ∨ ((∀ y ∈ l, y.1 ≠ x) ∧ seHad l x = 0) := by
  unfold seHad
  cases h : l.find? (fun h => h.1 == x) with
  | none =>
    refine .inr ⟨fun y hy e => ?_, rfl⟩
    have := List.find?_eq_none.1 h y hy
    simp [e] at this
  | some y =>
    have h1 := List.mem_of_find?_eq_some h
    have h2 := List.find?_some h
    exact .inl ⟨y, h1, by simpa using h2, rfl⟩
theorem seHad_pos (l : List HadT) (x : BS) (h : ∀ y ∈ l, hadOk y) : 0 ≤ seHad l x ∧ seHad l x ≤ 1099511627776 := by
  rcases seHad_mem l x with ⟨y, hy, _, he⟩ | ⟨_, he⟩
  · have := h y hy
    rw [he]
    exact ⟨by have := this.2.1; omega, this.2.2⟩
  · rw [he]; omega
theorem seHad_append (a b : List HadT) (x : BS) : seHad (a ++ b) x = if (a.any fun h => h.1 == x) = true then seHad a x else seHad b x := by
  induction a with
  | nil => rfl
  | cons y a ih =>
    have hc : ∀ l, seHad (y :: l) x = if y.1 = x then y.2 else seHad l x := fun l => by
      have := seHad_drop (l := y :: l) (t := x) (k := 0) (by simp)
      simpa using this
    rw [List.cons_append, hc, hc, List.any_cons, ih]
    by_cases e : y.1 = x
    · simp [e]
    · rw [if_neg e, if_neg e, show (y.1 == x) = false by simpa using e, Bool.false_or]
theorem any_none {l : List HadT} {x : BS} (h : ∀ y ∈ l, y.1 ≠ x) : (l.any fun h => h.1 == x) = false := by
  rw [List.any_eq_false]
  intro y hy
  simpa using h y hy
/-- where one stands among those that were had -/
theorem had_parts (l : List HadT) (x : BS) (h : SortH l) : (∀ y ∈ l.take (posF (cfH x) l), Op.bytesLess y.1 x = true) ∧ (∀ y ∈ l.drop (posF (cfH x) l), Op.bytesLess y.1 x = false) := by
  obtain ⟨a, b⟩ := posF_parts (cfH x) l (cfH_asc l h x)
  refine ⟨fun y hy => (cmpS_neg _ _).1 (a y hy), fun y hy => ?_⟩
  have := b y hy
  rw [← Bool.not_eq_true]
  intro e
  have := (cmpS_neg _ _).2 e
  unfold cfH at *
  omega
theorem putH_cases (l : List HadT) (x : BS) (h : SortH l) :
    (∃ a c b, l = a ++ [(x, c)] ++ b ∧ putH l x = a ++ [(x, c + 1)] ++ b ∧ seHad l x = c ∧ (∀ y ∈ a, Op.bytesLess y.1 x = true) ∧ (∀ y ∈ b, Op.bytesLess x y.1 = true)) ∨
    (∃ a b, l = a ++ b ∧ putH l x = a ++ [(x, 1)] ++ b ∧ seHad l x = 0 ∧ (∀ y ∈ a, Op.bytesLess y.1 x = true) ∧ (∀ y ∈ b, Op.bytesLess x y.1 = true)) := by
  obtain ⟨h1, h2⟩ := had_parts l x h
  unfold putH
  cases ht : atF (cfH x) l with
  | true =>
    obtain ⟨hp, he⟩ := atF_had l x h ht
    have hs := split_atH l _ _ (show l[posF (cfH x) l]? = some (x, seHad l x) by rw [List.getElem?_eq_getElem hp, he])
    refine .inl ⟨_, seHad l x, _, hs, by rw [if_pos rfl], rfl, h1, fun y hy => ?_⟩
    have hpw := h
    rw [hs] at hpw
    exact (List.pairwise_append.1 hpw).2.2 (x, seHad l x) (by simp) y hy
  | false =>
    have hne : ∀ y ∈ l, y.1 ≠ x := by
      intro y hy e
      obtain ⟨j, hj, hjy⟩ := List.getElem_of_mem hy
      have hz : cfH x y = 0 := (cmpS_zero _ _).2 e
      have hpj : posF (cfH x) l = j := by
        refine posF_eq _ _ _ (by omega) (fun k z hk hz2 => ?_) (fun z hz2 => ?_)
        · obtain ⟨hkl, hkz⟩ := List.getElem?_eq_some_iff.1 hz2
          have := List.pairwise_iff_getElem.1 h k j hkl hj hk
          rw [hkz, hjy, e] at this
          exact (cmpS_neg _ _).2 this
        · rw [List.getElem?_eq_getElem hj, hjy] at hz2
          cases hz2
          omega
      have : atF (cfH x) l = true := by
        unfold atF
        rw [hpj, List.getElem?_eq_getElem hj, hjy]
        simp [hz]
      rw [ht] at this
      cases this
    refine .inr ⟨l.take (posF (cfH x) l), l.drop (posF (cfH x) l), (List.take_append_drop _ _).symm, by rw [if_neg (by decide)], ?_, h1, fun y hy => ?_⟩
    · rcases seHad_mem l x with ⟨y, hy, e, _⟩ | ⟨_, e⟩
      · exact absurd e (hne y hy)
      · exact e
    · exact bl_tri _ _ (h2 y hy) (hne y (List.mem_of_mem_drop hy))
theorem putH_sort (l : List HadT) (x : BS) (h : SortH l) : SortH (putH l x) := by
  rcases putH_cases l x h with ⟨a, c, b, hl, hp, _, h1, h2⟩ | ⟨a, b, hl, hp, _, h1, h2⟩
  · rw [hp]
    rw [hl] at h
    unfold SortH at h ⊢
    simp only [List.append_assoc, List.pairwise_append, List.cons_append, List.nil_append, List.pairwise_cons, List.mem_cons] at h ⊢
    refine ⟨h.1, ⟨h2, h.2.1.2⟩, fun y hy z hz => ?_⟩
    rcases hz with rfl | hz
    · exact h1 y hy
    · exact h.2.2 y hy z (.inr hz)
  · rw [hp]
    rw [hl] at h
    unfold SortH at h ⊢
    simp only [List.append_assoc, List.pairwise_append, List.cons_append, List.nil_append, List.pairwise_cons, List.mem_cons] at h ⊢
    refine ⟨h.1, ⟨h2, h.2.1⟩, fun y hy z hz => ?_⟩
    rcases hz with rfl | hz
    · exact h1 y hy
    · exact h.2.2 y hy z hz
theorem putH_same (l : List HadT) (x : BS) (h : SortH l) : seHad (putH l x) x = seHad l x + 1 := by
  rcases putH_cases l x h with ⟨a, c, b, hl, hp, he, h1, h2⟩ | ⟨a, b, hl, hp, he, h1, h2⟩
  · rw [hp, he, List.append_assoc, seHad_append, any_none (fun y hy => bl_ne (h1 y hy))]
    simp [seHad]
  · rw [hp, he, List.append_assoc, seHad_append, any_none (fun y hy => bl_ne (h1 y hy))]
    simp [seHad]
theorem putH_other (l : List HadT) (x y : BS) (hxy : x ≠ y) (h : SortH l) : seHad (putH l x) y = seHad l y := by
  have hone : ∀ (c : Int) (b : List HadT), seHad ([(x, c)] ++ b) y = seHad b y := fun c b => by
    rw [seHad_append]
    simp [hxy]
  have hmid : ∀ (c : Int) (a b : List HadT), seHad (a ++ ([(x, c)] ++ b)) y = if (a.any fun h => h.1 == y) = true then seHad a y else seHad b y := fun c a b => by rw [seHad_append, hone]
  rcases putH_cases l x h with ⟨a, c, b, hl, hp, _, _, _⟩ | ⟨a, b, hl, hp, _, _, _⟩
  · rw [hp, List.append_assoc, hmid, hl, List.append_assoc, hmid]
  · rw [hp, List.append_assoc, hmid, hl, seHad_append]
theorem putH_ok (l : List HadT) (x : BS) (h : SortH l) (hok : ∀ y ∈ l, hadOk y) (hx : nameB x = true) (hm : seHad l x ≠ 1099511627776) : ∀ y ∈ putH l x, hadOk y := by
  have hb := seHad_pos l x hok
  rcases putH_cases l x h with ⟨a, c, b, hl, hp, he, _, _⟩ | ⟨a, b, hl, hp, he, _, _⟩
  · rw [hp]
    intro y hy
    simp only [List.append_assoc, List.mem_append, List.mem_cons, List.not_mem_nil, or_false] at hy
    rcases hy with hy | rfl | hy
    · exact hok y (by rw [hl]; simp [hy])
    · exact ⟨hx, by simp only; omega, by simp only; omega⟩
    · exact hok y (by rw [hl]; simp [hy])
  · rw [hp]
    intro y hy
    simp only [List.append_assoc, List.mem_append, List.mem_cons, List.not_mem_nil, or_false] at hy
    rcases hy with hy | rfl | hy
    · exact hok y (by rw [hl]; simp [hy])
    · exact ⟨hx, by simp only; omega, by simp only; omega⟩
    · exact hok y (by rw [hl]; simp [hy])
/-! ### who goes where -/
theorem seAt_none (l : List SesC) (x z : BS) (h : ∀ s ∈ l, 1 ≤ s.hd) (h0 : ¬ 0 < seAt l x z) : ∀ s ∈ l, ¬ (s.ten = x ∧ s.into = z) := by
  intro s hs e
  unfold seAt at h0
  cases hf : l.find? (fun s => s.ten == x && s.into == z) with
  | none =>
    have := List.find?_eq_none.1 hf s hs
    simp [e.1, e.2] at this
  | some y =>
    rw [hf] at h0
    have := h y (List.mem_of_find?_eq_some hf)
    simp only at h0
    omega
theorem seAt_of (l : List SesC) (x z : BS) : seAt l x z = seAt (seOf l x) x z := by
  unfold seAt seOf
  rw [List.find?_filter]
  have : (fun s : SesC => s.ten == x && s.into == z) = (fun a => decide ((a.ten == x) = true ∧ (a.ten == x && a.into == z) = true)) := by
    funext s
    cases s.ten == x <;> cases s.into == z <;> rfl
  rw [← this]
theorem sesB_had (T T' : TabC) (s : SesC) (h : seHad T.had s.ten ≤ seHad T'.had s.ten) (hs : sesB T s = true) : sesB T' s = true := by
  unfold sesB at hs ⊢
  rw [Bool.and_eq_true, decide_eq_true_eq] at hs ⊢
  exact ⟨hs.1, by omega⟩
theorem sesB_hd {T : TabC} {s : SesC} (h : sesB T s = true) : 1 ≤ s.hd ∧ s.hd ≤ seHad T.had s.ten := by
  unfold sesB at h
  rw [Bool.and_eq_true, Bool.and_eq_true, decide_eq_true_eq, decide_eq_true_eq] at h
  exact ⟨h.1.2, h.2⟩
theorem openE_zero (T : TabC) (x z : BS) (h : openE T x z = 0) : TabOk T ∧ nameB x = true ∧ sePath z = true ∧ ¬ 0 < seAt T.opn x z ∧ (seOf T.opn x).length ≠ 16 ∧ seHad T.had x ≠ 1099511627776 := by
  unfold openE at h
  split at h
  · cases h
  rename_i h0
  split at h
  · cases h
  rename_i h1
  split at h
  · cases h
  rename_i h2
  split at h
  · cases h
  rename_i h3
  split at h
  · cases h
  rename_i h4
  have h5 : tabE T = 0 := (tabE_09 T).resolve_right h0
  refine ⟨(tabE_zero T).1 h5, ?_, ?_, h2, h3, h4⟩
  · cases hn : nameB x with
    | true => rfl
    | false => exact absurd (.inl hn) h1
  · cases hn : sePath z with
    | true => rfl
    | false => exact absurd (.inr hn) h1
theorem openE_of (T : TabC) (x z : BS) (h0 : TabOk T) : openE T x z = if nameB x = false ∨ sePath z = false then 31 else if 0 < seAt T.opn x z then 44 else if (seOf T.opn x).length = 16 then 3 else if seHad T.had x = 1099511627776 then 15 else 0 := by
  unfold openE
  rw [if_neg (by rw [(tabE_zero T).2 h0]; decide)]
theorem count_le (T : TabC) (h : TabOk T) (x : BS) : (seOf T.opn x).length ≤ 16 := by
  cases hf : seOf T.opn x with
  | nil => exact Nat.zero_le _
  | cons s r =>
    have hm : s ∈ seOf T.opn x := by rw [hf]; exact List.mem_cons_self ..
    unfold seOf at hm
    rw [List.mem_filter] at hm
    have h1 := (h.opn s hm.1).2.2
    have h2 : s.ten = x := by simpa using hm.2
    rw [h2, hf] at h1
    exact h1
/-- WHAT IS OPENED MAY BE -/
theorem open_ok (T : TabC) (x z : BS) (h : openE T x z = 0) : TabOk (openL T x z) := by
  obtain ⟨hT, hx, hz, hat, hc, hm⟩ := openE_zero T x z h
  have hN : openN T x = seHad T.had x + 1 := putH_same _ _ hT.sortH
  have hb := seHad_pos T.had x hT.had
  have hmon : ∀ y, seHad T.had y ≤ seHad (putH T.had x) y := by
    intro y
    by_cases e : x = y
    · subst e
      rw [putH_same _ _ hT.sortH]
      omega
    · rw [putH_other _ _ _ e hT.sortH]; exact Int.le_refl _
  obtain ⟨hp1, hp2⟩ := posF_parts (cfT x (openN T x)) T.opn (cfT_asc T.opn hT.sortT x (openN T x))
  have hlt : ∀ s ∈ T.opn, s.ten = x → s.hd < openN T x := by
    intro s hs e
    have := (sesB_hd (hT.opn s hs).1).2
    rw [e] at this
    omega
  have hmem : ∀ s, s ∈ (openL T x z).opn ↔ s ∈ T.opn ∨ s = ⟨x, openN T x, z, [], false⟩ := by
    intro s
    unfold openL
    simp only [List.append_assoc, List.mem_append, List.mem_cons, List.not_mem_nil, or_false]
    constructor
    · rintro (h | h | h)
      · exact .inl (List.mem_of_mem_take h)
      · exact .inr h
      · exact .inl (List.mem_of_mem_drop h)
    · rintro (h | h)
      · rw [← List.take_append_drop (posF (cfT x (openN T x)) T.opn) T.opn, List.mem_append] at h
        rcases h with h | h
        · exact .inl h
        · exact .inr (.inr h)
      · exact .inr (.inl h)
  have hst : SortT (openL T x z).opn := by
    have h0 := hT.sortT
    rw [← List.take_append_drop (posF (cfT x (openN T x)) T.opn) T.opn] at h0
    unfold SortT at h0 ⊢
    unfold openL
    simp only [List.append_assoc, List.pairwise_append, List.cons_append, List.nil_append, List.pairwise_cons, List.mem_cons] at h0 ⊢
    refine ⟨h0.1, ⟨fun y hy => ?_, h0.2.1⟩, fun y hy w hw => ?_⟩
    · have h1 := hp2 y hy
      have h3 := List.mem_of_mem_drop hy
      refine cmpT_tri (by unfold cfT at h1; omega) (fun e => ?_)
      have := hlt y h3 e.1
      omega
    · rcases hw with rfl | hw
      · exact hp1 y hy
      · exact h0.2.2 y hy w hw
  have hpw : (openL T x z).opn.Pairwise fun o s => o.ten = s.ten → o.into ≠ s.into := by
    have h0 := (seAt_own T.opn hT.sortT).1 (fun s hs => (hT.opn s hs).2.1)
    have hno := seAt_none T.opn x z (fun s hs => (sesB_hd (hT.opn s hs).1).1) hat
    rw [← List.take_append_drop (posF (cfT x (openN T x)) T.opn) T.opn] at h0
    unfold openL
    simp only [List.append_assoc, List.pairwise_append, List.cons_append, List.nil_append, List.pairwise_cons, List.mem_cons] at h0 ⊢
    refine ⟨h0.1, ⟨fun y hy e e2 => hno y (List.mem_of_mem_drop hy) ⟨e.symm, e2.symm⟩, h0.2.1⟩, fun y hy w hw => ?_⟩
    rcases hw with rfl | hw
    · exact fun e e2 => hno y (List.mem_of_mem_take hy) ⟨e, e2⟩
    · exact h0.2.2 y hy w hw
  have hof : ∀ y, seOf (openL T x z).opn y = seOf (T.opn.take (posF (cfT x (openN T x)) T.opn)) y ++ (if x = y then [⟨x, openN T x, z, [], false⟩] else []) ++ seOf (T.opn.drop (posF (cfT x (openN T x)) T.opn)) y := by
    intro y
    unfold openL seOf
    rw [List.filter_append, List.filter_append]
    congr 2
    by_cases e : x = y
    · rw [if_pos e]; simp [e]
    · rw [if_neg e]; simp [e]
  have hof2 : ∀ y, (seOf T.opn y).length = (seOf (T.opn.take (posF (cfT x (openN T x)) T.opn)) y).length + (seOf (T.opn.drop (posF (cfT x (openN T x)) T.opn)) y).length := by
    intro y
    conv => lhs; rw [← List.take_append_drop (posF (cfT x (openN T x)) T.opn) T.opn]
    unfold seOf
    rw [List.filter_append, List.length_append]
  refine ⟨putH_ok _ _ hT.sortH hT.had hx hm, putH_sort _ _ hT.sortH, fun s hs => ⟨?_, (seAt_own _ hst).2 hpw s hs, ?_⟩, hst⟩
  · rcases (hmem s).1 hs with h1 | rfl
    · exact sesB_had T _ s (hmon s.ten) (hT.opn s h1).1
    · unfold sesB
      have hz' : (!z.isEmpty && pathB z) = true := hz
      simp only [hx, hz', Bool.true_and, List.length_nil]
      have h1 : decide (1 ≤ openN T x) = true := by simp; omega
      have h2 : decide (openN T x ≤ seHad (openL T x z).had x) = true := by
        have : seHad (openL T x z).had x = openN T x := rfl
        rw [this]; simp
      rw [h1, h2]
      rfl
  · rw [hof, List.length_append, List.length_append]
    have h1 := hof2 s.ten
    have h2 := count_le T hT s.ten
    by_cases e : x = s.ten
    · rw [if_pos e]
      rw [← e] at h1 h2 ⊢
      simp only [List.length_cons, List.length_nil]
      omega
    · rw [if_neg e]
      simp only [List.length_nil]
      omega
theorem open_of (T : TabC) (x z y : BS) (h : x ≠ y) : seOf (openL T x z).opn y = seOf T.opn y := by
  conv => rhs; rw [← List.take_append_drop (posF (cfT x (openN T x)) T.opn) T.opn]
  unfold openL seOf
  rw [List.filter_append, List.filter_append, List.filter_append]
  simp [h]
/-! ### what is closed -/
def dropAt (T : TabC) (k : Nat) : TabC := ⟨T.opn.take k ++ T.opn.drop (k + 1), T.had⟩
theorem drop_sub (l : List SesC) (k : Nat) : List.Sublist (l.take k ++ l.drop (k + 1)) l := by
  conv => rhs; rw [← List.take_append_drop k l]
  exact (List.Sublist.refl _).append (List.drop_sublist_drop_left l (Nat.le_succ k))
theorem close_ok (T : TabC) (k : Nat) (h : TabOk T) : TabOk (dropAt T k) := by
  have hs := drop_sub T.opn k
  have hst : SortT (dropAt T k).opn := h.sortT.sublist hs
  have hpw := ((seAt_own T.opn h.sortT).1 (fun s hs => (h.opn s hs).2.1)).sublist hs
  refine ⟨h.had, h.sortH, fun s hm => ⟨(h.opn s (hs.subset hm)).1, (seAt_own _ hst).2 hpw s hm, ?_⟩, hst⟩
  have : ((seOf (dropAt T k).opn s.ten)).length ≤ (seOf T.opn s.ten).length := (hs.filter _).length_le
  have := count_le T h s.ten
  omega
theorem close_of (T : TabC) (k : Nat) (hk : k < T.opn.length) (y : BS) (h : (T.opn[k]'hk).ten ≠ y) : seOf (dropAt T k).opn y = seOf T.opn y := by
  conv => rhs; rw [← List.take_append_drop k T.opn, List.drop_eq_getElem_cons hk]
  unfold dropAt seOf
  rw [List.filter_append, List.filter_append, List.filter_cons]
  simp [h]
/-- what is asked of a table hangs on a tenant's own alone -/
theorem open_same (T X : TabC) (y z : BS) (hT : TabOk T) (hX : TabOk X) (ho : seOf X.opn y = seOf T.opn y) (hh : seHad X.had y = seHad T.had y) : (openC X y z).2 = (openC T y z).2 ∧ openE X y z = openE T y z := by
  have he : openE X y z = openE T y z := by
    rw [openE_of X y z hX, openE_of T y z hT, seAt_of X.opn, seAt_of T.opn, ho, hh]
  refine ⟨?_, he⟩
  unfold openC
  rw [he]
  split
  · show openN X y = openN T y
    unfold openN
    rw [putH_same _ _ hX.sortH, putH_same _ _ hT.sortH, hh]
  · rfl
theorem place_open (T : TabC) (x z : BS) (h : openE T x z = 0) : ∃ k, ∃ hk : k < (openL T x z).opn.length, placeI (openL T x z) x (openN T x) = ((k : Int), 0) ∧ ((openL T x z).opn[k]'hk).ten = x := by
  have hok := open_ok T x z h
  rcases placeI_cs (openL T x z) x (openN T x) with h1 | h1 | ⟨k, hk, h1, h2, h3, h4⟩
  · unfold placeI at h1
    rw [if_neg (by rw [(tabE_zero _).2 hok]; decide)] at h1
    split at h1
    · simp at h1
    · simp at h1
  · exfalso
    unfold placeI at h1
    rw [if_neg (by rw [(tabE_zero _).2 hok]; decide)] at h1
    split at h1
    · rename_i h2
      have hm : (⟨x, openN T x, z, [], false⟩ : SesC) ∈ (openL T x z).opn := by unfold openL; simp
      have := firstI_any (sesAt x (openN T x)) (openL T x z).opn
      rw [decide_eq_false (by omega)] at this
      have h5 := List.any_eq_false.1 this.symm _ hm
      simp [sesAt] at h5
    · simp at h1
  · refine ⟨k, hk, h1, ?_⟩
    unfold sesAt at h3
    rw [Bool.and_eq_true] at h3
    simpa using h3.1
end Go.Proofs.YtjdebhemoeojiaaDoor
namespace Go.Proofs.YtjdebhemoeojiaaDoor
open Go.RowKit

set_option maxRecDepth 100000 in
theorem num27_any (n : Int) (w : World) : Calls Tryd.prog 15 #[.int .i64 n] w fun e w' => e = .returned (.int .i64 n) ∧ w' = w := by
  go_enter Tryd.func15, Tryd.ntmps15
  go_wp2_with fail
  go_ret
  exact ⟨rfl, rfl⟩
structure TabC.szc (N : Nat) (T : TabC) : Prop where
  opn : T.opn.length ≤ N
  had : T.had.length ≤ N
  each : ∀ s ∈ T.opn, s.ten.length ≤ 4000000000 ∧ s.into.length ≤ 4000000000 ∧ s.rest.length ≤ 4000000000
  eachH : ∀ y ∈ T.had, y.1.length ≤ 4000000000
theorem TabR.szc {t : TabR} {w : World} {B N : Nat} (hr : t.rd w B) (hz : t.sz) (h1 : t.opn.n ≤ N) (h2 : t.had.n ≤ N) : t.con.szc N := by
  refine ⟨?_, by rw [show t.con.had = t.had.l from rfl, ← hr.had.1]; exact h2, fun s hs => ?_, hz.eachH⟩
  · show (t.opn.l.map SesR.con).length ≤ N
    rw [List.length_map, ← hr.opn.1]; exact h1
  · obtain ⟨y, hy, rfl⟩ := List.mem_map.1 (show s ∈ t.opn.l.map SesR.con from hs)
    have := hz.each y hy
    exact ⟨this.ten, this.into, by show y.rest.l.length ≤ _; rw [← (hr.each y hy).1]; exact this.rest⟩
theorem TabO.szd {s : TabR} {w : World} {b N : Nat} (ho : TabO w b s) (h : s.con.szc N) (hN : N ≤ 1000000000) : s.sz ∧ s.opn.n ≤ N ∧ s.had.n ≤ N := by
  have h1 : s.opn.n ≤ N := by
    have := h.opn
    rw [show s.con.opn = s.opn.l.map SesR.con from rfl, List.length_map, ← ho.opn.1] at this
    exact this
  have h2 : s.had.n ≤ N := by
    have := h.had
    rw [show s.con.had = s.had.l from rfl, ← ho.had.1] at this
    exact this
  refine ⟨⟨by omega, fun y hy => ?_, by omega, h.eachH⟩, h1, h2⟩
  have := h.each y.con (List.mem_map.2 ⟨y, hy, rfl⟩)
  exact ⟨this.1, this.2.1, by rw [(ho.each y hy).1]; exact this.2.2⟩
theorem openL_szc {T : TabC} {N : Nat} (h : T.szc N) (x z : BS) (hx : x.length ≤ 4000000000) (hz : z.length ≤ 4000000000) : (openL T x z).szc (N + 1) := by
  refine ⟨?_, ?_, fun s hs => ?_, putH_each _ _ _ hx h.eachH⟩
  · unfold openL
    simp only [List.length_append, List.length_take, List.length_drop, List.length_cons, List.length_nil]
    have := h.opn
    omega
  · have := putH_len T.had x
    have := h.had
    show (putH T.had x).length ≤ _
    omega
  · unfold openL at hs
    simp only [List.append_assoc, List.mem_append, List.mem_cons, List.not_mem_nil, or_false] at hs
    rcases hs with hs | rfl | hs
    · exact h.each s (List.mem_of_mem_take hs)
    · exact ⟨hx, hz, by simp⟩
    · exact h.each s (List.mem_of_mem_drop hs)
theorem dropAt_szc {T : TabC} {N : Nat} (h : T.szc N) (k : Nat) : (dropAt T k).szc N := by
  have hs := drop_sub T.opn k
  exact ⟨Nat.le_trans hs.length_le h.opn, h.had, fun s hm => h.each s (hs.subset hm), h.eachH⟩
theorem nil_szc (N : Nat) : (⟨[], []⟩ : TabC).szc N := ⟨Nat.zero_le _, Nat.zero_le _, by simp, by simp⟩
theorem openC_szc {T : TabC} {N : Nat} (h : T.szc N) (x z : BS) (hx : x.length ≤ 4000000000) (hz : z.length ≤ 4000000000) : (openC T x z).1.szc (N + 1) := by
  unfold openC
  split
  · exact openL_szc h x z hx hz
  · exact nil_szc _
theorem closeC_szc {T : TabC} {N : Nat} (h : T.szc N) (x : BS) (n : Int) : (closeC T x n).1.szc N := by
  unfold closeC
  split
  · exact dropAt_szc h _
  · exact nil_szc _
theorem alive27_open : openE ⟨[], []⟩ [97] [120] = 0 ∧ openC ⟨[], []⟩ [97] [120] = (⟨[⟨[97], 1, [120], [], false⟩], [([97], 1)]⟩, 1) := ⟨by kernel_rfl, by kernel_rfl⟩
set_option maxRecDepth 100000 in
set_option maxHeartbeats 1000000 in
theorem alive27_any (w : World) (hmx : HasMax w) : Calls Tryd.prog 8 #[] w fun e w' => e = .returned (.bool true) ∧ Below w.heap.size w w' := by
  have hop := open_any ⟨⟨none, 0, 0, []⟩, ⟨none, 0, 0, []⟩⟩ [97] [120] (by simp) (by simp) w w.heap.size ⟨⟨rfl, Nat.le_refl _, Reads.none_⟩, (fun y hy => by cases hy), ⟨rfl, Nat.le_refl _, Reads.none_⟩⟩ (Nat.le_refl _) ⟨Nat.zero_le _, (fun y hy => by cases hy), Nat.zero_le _, (fun y hy => by cases hy)⟩ ⟨Nat.zero_le _, Nat.zero_le _⟩ hmx
  replace hop : Calls Tryd.prog 10 #[.agg #[.slice none 0 0, .slice none 0 0], .string ⟨#[97]⟩, .string ⟨#[120]⟩] w fun e w' => ∃ s : TabR, e = .returned (.tuple #[s.val, .int .i64 1, .int .i64 0]) ∧ TabO w' w.heap.size s ∧ s.con = ⟨[⟨[97], 1, [120], [], false⟩], [([97], 1)]⟩ ∧ Below w.heap.size w w' := by
    refine hop.mono ?_
    rintro e w' ⟨s, h1, h2, h3, h4⟩
    rw [show (TabR.con ⟨⟨none, 0, 0, []⟩, ⟨none, 0, 0, []⟩⟩) = ⟨[], []⟩ from rfl, alive27_open.2] at h1 h3
    rw [alive27_open.1] at h1
    exact ⟨s, h1, h2, h3, h4⟩
  go_enter Tryd.func8, Tryd.ntmps8
  go_wp2_with fail
  refine hop.mono ?_
  clear hop
  rintro e w2 ⟨⟨⟨sA, sn, sc, sl⟩, ⟨eA, en, ec, el⟩⟩, he, hO2, hcon, hb2⟩
  replace he : e = .returned (.tuple #[.agg #[.slice sA sn sc, .slice eA en ec], .int .i64 1, .int .i64 0]) := he
  subst he
  have hba := (Below.refl w2.heap.size w2).alloc (Nat.le_refl _) (.cells #[.slice sA sn sc, .slice eA en ec] 25)
  have kG := Blk.new w2 25 #[.slice sA sn sc, .slice eA en ec]
  obtain ⟨W3, hW3⟩ : ∃ W, W = w2.alloc (.cells #[.slice sA sn sc, .slice eA en ec] 25) := ⟨_, rfl⟩
  rw [← hW3] at hba kG
  have hszc : (TabR.con ⟨⟨sA, sn, sc, sl⟩, ⟨eA, en, ec, el⟩⟩).szc 1000 := by rw [hcon]; exact ⟨by simp, by simp, by simp, by simp⟩
  have hz := (hO2.szd hszc (by omega)).1
  have hat := at_any ⟨⟨sA, sn, sc, sl⟩, ⟨eA, en, ec, el⟩⟩ [97] [120] W3 W3.heap.size (hO2.below hba).rd (Nat.le_refl _) hz
  rw [hcon] at hat
  replace hat : Calls Tryd.prog 28 #[.agg #[.slice sA sn sc, .slice eA en ec], .string ⟨#[97]⟩, .string ⟨#[120]⟩] W3 fun e w' => e = .returned (.int .i64 1) ∧ Below W3.heap.size W3 w' := hat
  obtain ⟨⟨c0, c1⟩, -⟩ := blk2T kG
  have HB3 := Lib.hid (hb2.trans (hba.mono hb2.size))
  rw [hW3] at c0 c1
  clear hO2 hcon hb2 hba kG hszc hz
  go_wp2_with fail
  refine (num27_any 0 _).mono ?_
  rintro e w4 ⟨rfl, hw4⟩
  rw [hw4, ← hW3]
  rw [← hW3] at c0 c1
  clear hw4 w4 hW3
  go_wp2_with fail
  refine hat.mono ?_
  rintro e w5 ⟨rfl, hb5⟩
  go_wp2_with fail
  go_ret
  exact ⟨rfl, HB3.out.trans (hb5.mono HB3.out.size)⟩
end Go.Proofs.YtjdebhemoeojiaaDoor
