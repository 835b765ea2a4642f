/-
  A stream of which one octet is another one is refused: the plain law.
-/
import Derived.Test.YtcbeadldieeceaaZ24
namespace Go.Proofs.Ytcbeadldieeceaa
open Go.RowKit

/-! ### sums -/
theorem feedA (s : Sm) (l : List Nat) (hs : 0 ≤ s.a ∧ s.a < 18446744073709551616) : (feedL s l).a = (s.a + (l.sum : Nat)) % 18446744073709551616 := by
  induction l generalizing s with
  | nil => simp [feedL]; omega
  | cons x l ih =>
    have h1 : (Sm.step s x).a = (s.a + (x : Int)) % 18446744073709551616 := by
      show wu (s.a + x) = _
      unfold wu
      rw [IntKind.wrap_u64]
    have h2 := ih (Sm.step s x) (by rw [h1]; omega)
    show (feedL (Sm.step s x) l).a = _
    rw [h2, h1, List.sum_cons]
    omega
theorem sum_set_nat (l : List Nat) (i v : Nat) (h : i < l.length) : (l.set i v).sum + l[i] = l.sum + v := by
  induction l generalizing i with
  | nil => simp at h
  | cons x l ih =>
    cases i with
    | zero => simp; omega
    | succ i =>
      have := ih i (by simpa using h)
      simp only [List.set_cons_succ, List.sum_cons, List.getElem_cons_succ]
      omega
theorem wordAt_lt (b : BS) (k : Nat) : wordAt b k < 4294967296 := by
  have h0 := (b.getD (4 * k) 0).toNat_lt
  have h1 := (b.getD (4 * k + 1) 0).toNat_lt
  have h2 := (b.getD (4 * k + 2) 0).toNat_lt
  have h3 := (b.getD (4 * k + 3) 0).toNat_lt
  unfold wordAt w4
  omega
theorem getD_set (b : BS) (p i : Nat) (x : UInt8) (hp : p < b.length) : (b.set p x).getD i 0 = if i = p then x else b.getD i 0 := by
  simp only [List.getD_eq_getElem?_getD, List.getElem?_set]
  by_cases h : p = i
  · subst h; simp [hp]
  · simp [h, Ne.symm h]
theorem words_set (b : BS) (p : Nat) (x : UInt8) (hp : p < b.length) (hx : x ≠ b.getD p 0) : ∃ u v : Nat, u ≠ v ∧ u < 4294967296 ∧ v < 4294967296 ∧ (words (b.set p x)).sum + u = (words b).sum + v := by
  have hq : p / 4 < (words b).length := by unfold words; rw [wordsN_length]; omega
  have he : words (b.set p x) = (words b).set (p / 4) (wordAt (b.set p x) (p / 4)) := by
    apply List.ext_getElem?
    intro i
    rw [List.getElem?_set]
    unfold words wordsN
    rw [List.length_set]
    by_cases hi : i < (b.length + 3) / 4
    · rw [List.getElem?_map, List.getElem?_map, List.getElem?_range hi]
      by_cases hpi : p / 4 = i
      · subst hpi
        rw [if_pos rfl, if_pos (by simpa using hi)]
        rfl
      · rw [if_neg hpi]
        simp only [Option.map_some, Option.some.injEq]
        unfold wordAt
        rw [getD_set b p _ x hp, getD_set b p _ x hp, getD_set b p _ x hp, getD_set b p _ x hp, if_neg (by omega), if_neg (by omega), if_neg (by omega), if_neg (by omega)]
    · rw [List.getElem?_eq_none (by simp; omega)]
      by_cases hpi : p / 4 = i
      · omega
      · rw [if_neg hpi, List.getElem?_eq_none (by simp; omega)]
  have hg : (words b)[p / 4] = wordAt b (p / 4) := by simp [words, wordsN]
  have hs := sum_set_nat (words b) (p / 4) (wordAt (b.set p x) (p / 4)) hq
  rw [← he, hg] at hs
  refine ⟨_, _, ?_, wordAt_lt _ _, wordAt_lt _ _, hs⟩
  have hxn : x.toNat ≠ (b.getD p 0).toNat := fun e => hx (UInt8.toNat_inj.1 e)
  unfold wordAt w4
  rw [getD_set b p _ x hp, getD_set b p _ x hp, getD_set b p _ x hp, getD_set b p _ x hp]
  have h4 : p % 4 = 0 ∨ p % 4 = 1 ∨ p % 4 = 2 ∨ p % 4 = 3 := by omega
  rcases h4 with h | h | h | h
  · have e : 4 * (p / 4) = p := by omega
    rw [if_pos e, if_neg (by omega), if_neg (by omega), if_neg (by omega), e]
    omega
  · have e : 4 * (p / 4) + 1 = p := by omega
    rw [if_neg (by omega), if_pos e, if_neg (by omega), if_neg (by omega), e]
    omega
  · have e : 4 * (p / 4) + 2 = p := by omega
    rw [if_neg (by omega), if_neg (by omega), if_pos e, if_neg (by omega), e]
    omega
  · have e : 4 * (p / 4) + 3 = p := by omega
    rw [if_neg (by omega), if_neg (by omega), if_neg (by omega), if_pos e, e]
    omega
theorem sumS_flat (s : Sm) (l : List Rc) : sumS s l = feedL s (l.flatMap fun r => words (encL r)) := by
  induction l generalizing s with
  | nil => rfl
  | cons r l ih =>
    show sumS (feedL s (words (encL r))) l = _
    rw [ih, List.flatMap_cons]
    unfold feedL
    rw [List.foldl_append]
theorem sums_differ (s : Sm) (hs : s.ok) (x0 : BS) (p : Nat) (x : UInt8) (hp : p < x0.length) (hx : x ≠ x0.getD p 0) (R : List Rc) : sumS (feedL s (words (x0.set p x))) R ≠ sumS (feedL s (words x0)) R := by
  obtain ⟨u, v, huv, hu, hv, hsum⟩ := words_set x0 p x hp hx
  intro e
  have ea := congrArg Sm.a e
  rw [sumS_flat, sumS_flat] at ea
  have h1 := feedA s (words (x0.set p x)) hs.a
  have h2 := feedA s (words x0) hs.a
  have h3 := feedA (feedL s (words (x0.set p x))) (R.flatMap fun r => words (encL r)) (by rw [h1]; omega)
  have h4 := feedA (feedL s (words x0)) (R.flatMap fun r => words (encL r)) (by rw [h2]; omega)
  rw [h3, h4, h1, h2] at ea
  have := hs.a
  omega

/-! ### fields -/
theorem flat_prefix (l : List BS) : ∀ (l' : List BS) (u v : BS), l.length = l'.length → (∀ s ∈ l, s.length ≤ 65536) → (∀ s ∈ l', s.length ≤ 65536) → l.flatMap fone ++ u = l'.flatMap fone ++ v → l = l' := by
  induction l with
  | nil => intro l' u v hl _ _ _; exact (List.eq_nil_of_length_eq_zero hl.symm).symm
  | cons s l ih =>
    intro l' u v hl h h' he
    cases l' with
    | nil => simp at hl
    | cons s' l' =>
      have h3 : (putL (s.length : Int) 3).length = 3 := putL_length _ _
      have h3' : (putL (s'.length : Int) 3).length = 3 := putL_length _ _
      simp only [List.flatMap_cons, fone, List.append_assoc] at he
      obtain ⟨e1, e2⟩ := List.append_inj he (by rw [h3, h3'])
      have hs := h s (by simp)
      have hs' := h' s' (by simp)
      have hlen : s.length = s'.length := by
        have := congrArg numN e1
        rw [numN3r' _ (by omega), numN3r' _ (by omega)] at this
        exact this
      obtain ⟨e3, e4⟩ := List.append_inj e2 hlen
      rw [e3, ih l' u v (by simpa using hl) (fun y hy => h y (by simp [hy])) (fun y hy => h' y (by simp [hy])) e4]
theorem fw_prefix (l l' : List BS) (u v : BS) (hl : l.length ≤ 1024) (hl' : l'.length ≤ 1024) (h : ∀ s ∈ l, s.length ≤ 65536) (h' : ∀ s ∈ l', s.length ≤ 65536) (he : fwrite l ++ u = fwrite l' ++ v) : l = l' := by
  have h2 : (putL (l.length : Int) 2).length = 2 := putL_length _ _
  have h2' : (putL (l'.length : Int) 2).length = 2 := putL_length _ _
  unfold fwrite at he
  rw [List.append_assoc, List.append_assoc] at he
  obtain ⟨e1, e2⟩ := List.append_inj he (by rw [h2, h2'])
  have hlen : l.length = l'.length := by
    have := congrArg numN e1
    rw [numN2r' _ (by omega), numN2r' _ (by omega)] at this
    exact this
  exact flat_prefix l l' u v hlen h h' e2
theorem encL_three (r : Rc) (hE : recE r = 0) : (encL r).drop 3 = fwrite (rtexts r) ∧ (encL r).length = 3 + (fwrite (rtexts r)).length ∧ ∀ more, sizeAt (encL r ++ more) = (fwrite (rtexts r)).length := by
  have h2 : (putL ((fwrite (rtexts r)).length : Int) 2).length = 2 := putL_length _ _
  have hl := fwrite_len r hE
  refine ⟨?_, ?_, fun more => ?_⟩
  · unfold encL
    rw [List.drop_succ_cons, List.drop_left' h2]
  · unfold encL
    rw [List.length_cons, List.length_append, h2]
    omega
  · unfold sizeAt encL
    rw [List.cons_append, List.drop_succ_cons, List.drop_zero, List.append_assoc, List.take_left' h2]
    exact numN2r' _ (by omega)
/-- a record of which one octet is another one, whatever record stands there: as long -/
theorem same_len (r h : Rc) (hr : recE r = 0) (hh : recE h = 0) (p : Nat) (x : UInt8) (rest0 rest : BS) (he : encL h ++ rest = (encL r).set p x ++ rest0) : (encL h).length = (encL r).length := by
  obtain ⟨d0, l0, s0⟩ := encL_three r hr
  obtain ⟨d1, l1, s1⟩ := encL_three h hh
  by_cases hp3 : p < 3
  · have e3 : (encL h).drop 3 ++ rest = (encL r).drop 3 ++ rest0 := by
      have := congrArg (List.drop 3) he
      rw [List.drop_append_of_le_length (by omega), List.drop_append_of_le_length (by rw [List.length_set]; omega), List.drop_set_of_lt (by omega)] at this
      exact this
    rw [d0, d1] at e3
    obtain ⟨a1, a2⟩ := rtexts_small h hh
    obtain ⟨b1, b2⟩ := rtexts_small r hr
    have := fw_prefix _ _ _ _ (by omega) (by omega) (fun s hs => by have := a2 s hs; omega) (fun s hs => by have := b2 s hs; omega) e3
    rw [l0, l1, this]
  · have hsz := s1 rest
    have hsz0 := s0 rest0
    rw [he] at hsz
    have : sizeAt ((encL r).set p x ++ rest0) = sizeAt (encL r ++ rest0) := by
      unfold sizeAt
      congr 1
      rw [List.drop_append_of_le_length (by rw [List.length_set]; omega), List.drop_append_of_le_length (by omega), List.take_append_of_le_length (by rw [List.length_drop, List.length_set]; omega), List.take_append_of_le_length (by rw [List.length_drop]; omega), List.drop_set]
      rw [if_neg (by omega), List.take_set_of_le (by omega)]
    rw [this, hsz0] at hsz
    omega

/-! ### streams -/
structure StrF (s : Sm) (R : List Rc) (e : Rc) : Prop where
  all : ∀ r ∈ R, recE r = 0 ∧ r.sm.ok ∧ r.kind ≠ 4
  eE : recE e = 0
  eok : e.sm.ok
  ek : e.kind = 4
  sum : e.sm = sumS s R
def strO (R : List Rc) (e : Rc) : BS := encAll R ++ encL e
theorem strO_cons (r : Rc) (R : List Rc) (e : Rc) : strO (r :: R) e = encL r ++ strO R e := by simp [strO, encAll]
theorem StrF.tail {s : Sm} {r : Rc} {R : List Rc} {e : Rc} (h : StrF s (r :: R) e) : StrF (feedL s (words (encL r))) R e := ⟨fun x hx => h.all x (by simp [hx]), h.eE, h.eok, h.ek, h.sum⟩
/-- what a stream begins with -/
theorem strO_head (R : List Rc) (e : Rc) {s : Sm} (h : StrF s R e) : ∃ y rest, strO R e = encL y ++ rest ∧ recE y = 0 ∧ y.sm.ok ∧ ((R = [] ∧ y = e ∧ rest = []) ∨ (∃ R', R = y :: R' ∧ rest = strO R' e ∧ y.kind ≠ 4)) := by
  cases R with
  | nil => exact ⟨e, [], by simp [strO, encAll], h.eE, h.eok, .inl ⟨rfl, rfl, rfl⟩⟩
  | cons r R =>
    obtain ⟨h1, h2, h3⟩ := h.all r (by simp)
    exact ⟨r, strO R e, strO_cons r R e, h1, h2, .inr ⟨R, rfl, rfl, h3⟩⟩
theorem strO_ne (R : List Rc) (e : Rc) {s : Sm} (h : StrF s R e) : strO R e ≠ [] := by
  have := (encL_len e h.eE).2
  intro h0
  have := congrArg List.length h0
  simp only [strO, List.length_append, List.length_nil] at this
  omega
theorem enc_det (y y' : Rc) (rest rest' : BS) (h : recE y = 0) (hs : y.sm.ok) (h' : recE y' = 0) (hs' : y'.sm.ok) (he : encL y ++ rest = encL y' ++ rest') : y = y' ∧ rest = rest' := by
  have p1 := parse_enc y h hs rest
  have p2 := parse_enc y' h' hs' rest'
  rw [he, p2] at p1
  injection p1 with e1 _
  subst e1
  exact ⟨rfl, List.append_cancel_left he⟩
theorem str_uniq (R : List Rc) : ∀ (R' : List Rc) (e e' : Rc) (s s' : Sm), StrF s R e → StrF s' R' e' → strO R e = strO R' e' → R = R' ∧ e = e' := by
  induction R with
  | nil =>
    intro R' e e' s s' h h' he
    obtain ⟨y, rest, e1, e2, e3, e4⟩ := strO_head R' e' h'
    have e5 : strO [] e = encL e ++ [] := by simp [strO, encAll]
    rw [e5, e1] at he
    obtain ⟨a1, a2⟩ := enc_det _ _ _ _ h.eE h.eok e2 e3 he
    rcases e4 with ⟨b1, b2, _⟩ | ⟨R'', _, _, b3⟩
    · exact ⟨b1.symm, a1.trans b2⟩
    · rw [← a1] at b3; exact absurd h.ek b3
  | cons r R ih =>
    intro R' e e' s s' h h' he
    obtain ⟨h1, h2, h3⟩ := h.all r (by simp)
    obtain ⟨y, rest, e1, e2, e3, e4⟩ := strO_head R' e' h'
    rw [strO_cons, e1] at he
    obtain ⟨a1, a2⟩ := enc_det _ _ _ _ h1 h2 e2 e3 he
    rcases e4 with ⟨_, b2, _⟩ | ⟨R'', b1, b2, _⟩
    · rw [a1, b2] at h3; exact absurd h'.ek h3
    · subst b1
      rw [b2] at a2
      obtain ⟨c1, c2⟩ := ih R'' e e' _ _ h.tail h'.tail a2
      exact ⟨by rw [a1, c1], c2⟩
theorem str_spoilt (R0 : List Rc) : ∀ (R : List Rc) (e0 e : Rc) (s : Sm) (p : Nat) (x : UInt8), s.ok → StrF s R0 e0 → StrF s R e → p < (strO R0 e0).length → x ≠ (strO R0 e0).getD p 0 → strO R e = (strO R0 e0).set p x → False := by
  induction R0 with
  | nil =>
    intro R e0 e s p x hs h0 h hp hx he
    have e5 : strO [] e0 = encL e0 ++ [] := by simp [strO, encAll]
    have e6 : strO [] e0 = encL e0 := by simp [strO, encAll]
    obtain ⟨y, rest, e1, e2, e3, e4⟩ := strO_head R e h
    rw [e6] at hp hx he
    rw [e1] at he
    have hl := same_len e0 y h0.eE e2 p x [] rest (by rw [he, List.append_nil])
    have hr0 : rest = [] := by
      have := congrArg List.length he
      rw [List.length_append, List.length_set] at this
      exact List.eq_nil_of_length_eq_zero (by omega)
    rcases e4 with ⟨b1, b2, _⟩ | ⟨R'', _, b2, _⟩
    · subst b1
      rw [b2] at he e2 e3 hl
      have hsum : e.sm = e0.sm := h.sum.trans h0.sum.symm
      obtain ⟨m1, m2, m3, m4, m5, m6, m7⟩ := mayB_4 _ h.ek (recE_kind _ h.eE).2
      obtain ⟨k1, k2, k3, k4, k5, k6, k7⟩ := mayB_4 _ h0.ek (recE_kind _ h0.eE).2
      have hee : e = e0 := by
        obtain ⟨q1, q2, q3, q4, q5, q6, q7, q8, q9⟩ := e
        obtain ⟨z1, z2, z3, z4, z5, z6, z7, z8, z9⟩ := e0
        have := h.ek
        have := h0.ek
        simp only at *
        subst_vars
        rfl
      rw [hee, hr0, List.append_nil] at he
      have : (encL e0).getD p 0 = ((encL e0).set p x).getD p 0 := congrArg (fun l : BS => l.getD p 0) he
      rw [getD_set _ _ _ _ hp, if_pos rfl] at this
      exact hx this.symm
    · rw [hr0] at b2
      have hne : strO R'' e ≠ [] := by
        intro hc
        have h9 := (encL_len e h.eE).2
        have := congrArg List.length hc
        simp only [strO, List.length_append, List.length_nil] at this
        omega
      exact hne b2.symm
  | cons r0 R0 ih =>
    intro R e0 e s p x hs h0 h hp hx he
    obtain ⟨g1, g2, g3⟩ := h0.all r0 (by simp)
    obtain ⟨y, rest, e1, e2, e3, e4⟩ := strO_head R e h
    rw [strO_cons] at hp hx he
    rw [e1] at he
    by_cases hpl : p < (encL r0).length
    · rw [List.set_append_left _ _ hpl] at he
      have hl := same_len r0 y g1 e2 p x (strO R0 e0) rest he
      obtain ⟨a1, a2⟩ := List.append_inj he (by rw [hl, List.length_set])
      have hxx : x ≠ (encL r0).getD p 0 := by
        intro hc
        apply hx
        rw [hc]
        simp [List.getD_eq_getElem?_getD, List.getElem?_append_left hpl]
      rcases e4 with ⟨_, _, b3⟩ | ⟨R'', b1, b2, _⟩
      · exact strO_ne R0 e0 h0.tail (by rw [← a2, b3])
      · subst b1
        rw [b2] at a2
        obtain ⟨c1, c2⟩ := str_uniq R'' R0 e e0 _ _ h.tail h0.tail a2
        have s1 := h.tail.sum
        have s2 := h0.tail.sum
        rw [a1, c1, c2] at s1
        exact sums_differ s hs (encL r0) p x hpl hxx R0 (s1.symm.trans s2)
    · rw [List.set_append_right _ _ (by omega)] at he
      obtain ⟨a1, a2⟩ := enc_det _ _ _ _ e2 e3 g1 g2 he
      rcases e4 with ⟨_, b2, _⟩ | ⟨R'', b1, b2, _⟩
      · rw [← a1, b2] at g3; exact g3 h.ek
      · subst b1
        rw [b2] at a2
        have hT := h.tail
        rw [a1] at hT
        rw [List.length_append] at hp
        refine ih R'' e0 e _ (p - (encL r0).length) x (feedL_okS _ _ hs) h0.tail hT (by omega) ?_ a2
        intro hc
        apply hx
        rw [hc]
        simp [List.getD_eq_getElem?_getD, List.getElem?_append_right (show (encL r0).length ≤ p by omega)]
/-! ### what Records takes for a stream -/
theorem stepR_err (b : BS) (st : RSt) (a : Nat) (e : Int) (h : stepR b st = .error (a, e)) : e ≠ 0 := by
  unfold stepR at h
  split at h
  · injection h with h; injection h with _ h; subst h; decide
  split at h
  · rename_i hp; injection h with h; injection h with _ h; rw [← h]; exact hp
  split at h
  · injection h with h; injection h with _ h; subst h; decide
  split at h
  · injection h with h; injection h with _ h; subst h; decide
  · cases h
theorem recsGo_nil (b : BS) (f : Nat) : ∀ st : RSt, (recsGo b f st).2.2 ≠ 0 → (recsGo b f st).1 = [] := by
  induction f with
  | zero => intro st _; rfl
  | succ f ih =>
    intro st h
    unfold recsGo at h ⊢
    split
    · rename_i h2
      rw [if_pos h2] at h
      split
      · rename_i h3; rw [if_pos h3] at h; exact absurd rfl h
      · rfl
    · rename_i h2
      rw [if_neg h2] at h
      split
      · rfl
      · rename_i st' hst
        rw [hst] at h
        exact ih st' h
theorem recsGo_form (b : BS) (f : Nat) : ∀ st : RSt, st.at_ ≤ b.length → b.length + 1 ≤ f + st.at_ → st.seen < 2 → (recsGo b f st).2.2 = 0 → ∃ R e, StrF st.sm R e ∧ b.drop st.at_ = strO R e := by
  induction f with
  | zero => intro st h1 h2; omega
  | succ f ih =>
    intro st h1 h2 hs h
    cases hst : stepR b st with
    | error x =>
      obtain ⟨a, e⟩ := x
      rw [recsGo_bad b f st hs a e hst] at h
      exact absurd h (stepR_err b st a e hst)
    | ok st' =>
      rw [recsGo_ok b f st st' hs hst] at h
      unfold stepR at hst
      split at hst
      · cases hst
      rename_i hlt
      split at hst
      · cases hst
      rename_i hpe
      split at hst
      · cases hst
      rename_i haf
      split at hst
      · cases hst
      rename_i hsm
      injection hst with hst
      obtain ⟨⟨r, m, E⟩, hP⟩ : ∃ x, x = parseL (b.drop st.at_) := ⟨_, rfl⟩
      replace hP := hP.symm
      rw [hP] at hpe haf hsm hst
      simp only at hpe haf hsm hst
      obtain rfl : E = 0 := Classical.not_not.1 hpe
      obtain ⟨p1, p2, p3, p4⟩ := parse_back _ _ _ hP
      have hm3 := (parse_len _ _ _ hP).2.1
      rw [List.length_drop] at p3
      have hdr : b.drop st.at_ = encL r ++ b.drop (st.at_ + m) := by
        rw [p4, ← List.drop_drop, List.take_append_drop]
      by_cases h4 : r.kind = 4
      · have ha : afterL st.seen st.next r = (2, st.next, st.seen == 1) := by
          unfold afterL
          rw [if_neg (by omega), if_neg (by omega), if_neg (by omega)]
        have hse : st'.seen = 2 := by rw [← hst, ha]
        have hat' : st'.at_ = st.at_ + m := by rw [← hst]
        have hsmm : r.sm = st.sm := by
          rw [h4] at hsm
          simp only [beq_self_eq_true, Bool.true_and, Bool.not_eq_true', Bool.not_eq_false] at hsm
          exact (smB_iff _ _).1 hsm
        obtain ⟨f', rfl⟩ : ∃ g, f = g + 1 := ⟨f - 1, by omega⟩
        rw [recsGo_end b f' st' (by omega)] at h
        split at h
        · rename_i hend
          refine ⟨[], r, ⟨by simp, p1, p2, h4, hsmm⟩, ?_⟩
          rw [hdr, List.drop_eq_nil_of_le (by omega)]
          simp [strO, encAll]
        · simp at h
      · obtain ⟨hk, _⟩ := recE_kind r p1
        have hse : st'.seen = 1 := by
          rw [← hst]
          unfold afterL
          rcases hk with k1 | k1 | k1 | k1
          · rw [if_pos k1]
          · rw [if_neg (by omega), if_pos k1]
          · rw [if_neg (by omega), if_neg (by omega), if_pos k1]
          · exact absurd k1 h4
        have hat' : st'.at_ = st.at_ + m := by rw [← hst]
        obtain ⟨R, e, hR, hRe⟩ := ih st' (by omega) (by omega) (by omega) h
        have hsm' : st'.sm = feedL st.sm (words (encL r)) := by rw [← hst, p4]
        rw [hsm'] at hR
        refine ⟨r :: R, e, ⟨?_, hR.eE, hR.eok, hR.ek, hR.sum⟩, ?_⟩
        · intro y hy
          rcases List.mem_cons.1 hy with rfl | hy
          · exact ⟨p1, p2, h4⟩
          · exact hR.all y hy
        · rw [strO_cons, ← hRe, hat']
          exact hdr
/-- A SPOILT STREAM IS REFUSED -/
theorem spoilt_law (a b : BL) (r0 : Rc) (ok : Bool) (hk : r0.kind = 1) (hm : makeE a b r0 ok = 0) (p : Nat) (x : UInt8) (hp : p < (makeS a b r0).length) (hx : x ≠ (makeS a b r0).getD p 0) :
    (recsL' ((makeS a b r0).set p x)).2.2 ≠ 0 ∧ (recsL' ((makeS a b r0).set p x)).1 = [] := by
  have ok0 : Sm0.ok := ⟨by decide, by decide, by decide, by decide⟩
  unfold makeE at hm
  split at hm
  · rename_i h; exact absurd hm h
  rename_i hd
  split at hm
  · rename_i h; exact absurd hm h
  rename_i hr
  split at hm
  · cases hm
  split at hm
  · cases hm
  rename_i hlen
  have hr0 : recE r0 = 0 := Classical.not_not.1 hr
  have hs0 : r0.sm = Sm0 := (mayB_1 r0 hk (recE_kind r0 hr0).2).2.2.2.2.2.2.2
  have hF : StrF Sm0 (recsL a b r0) (rcEnd (sumS Sm0 (recsL a b r0))) := by
    refine ⟨?_, recE_end _, sumS_ok _ _ ok0, rfl, rfl⟩
    intro y hy
    rcases List.mem_cons.1 hy with rfl | hy
    · exact ⟨hr0, by rw [hs0]; exact ok0, by omega⟩
    · obtain ⟨z, hz, rfl⟩ := List.mem_map.1 hy
      have h1 := diffO_ok a b z hz
      refine ⟨h1, ok0, ?_⟩
      have hv : ValidR z := by
        have hd0 : diffE a b = 0 := Classical.not_not.1 hd
        obtain ⟨ha, hb⟩ := (diffE_ok a b).1 hd0
        have ho : diffO a b = (diffGo a b ([], -2)).1 := by unfold diffO; rw [if_pos hd0]
        rw [ho] at hz
        exact (apply_law a b ha hb).1 z hz
      show z.1 ≠ 4
      rcases hv with h | h <;> omega
  have key : (recsL' ((makeS a b r0).set p x)).2.2 ≠ 0 := by
    intro h
    unfold recsL' at h
    rw [if_neg (by rw [List.length_set]; exact hlen)] at h
    obtain ⟨R, e, hR, hRe⟩ := recsGo_form _ _ RSt0 (Nat.zero_le _) (by simp [RSt0]) (by decide) h
    rw [show RSt0.at_ = 0 from rfl, List.drop_zero] at hRe
    exact str_spoilt _ R _ e Sm0 p x ok0 hF hR hp hx hRe.symm
  refine ⟨key, ?_⟩
  unfold recsL' at key ⊢
  split
  · rfl
  · rename_i h
    rw [if_neg h] at key
    exact recsGo_nil _ _ _ key
end Go.Proofs.Ytcbeadldieeceaa
