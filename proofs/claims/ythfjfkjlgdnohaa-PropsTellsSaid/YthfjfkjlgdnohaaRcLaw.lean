/-
  Records and their octets: the plain law.
-/
import Derived.Test.YthfjfkjlgdnohaaPut
import Derived.Test.YthfjfkjlgdnohaaNumber
import Derived.Test.YthfjfkjlgdnohaaOctets
import Derived.Test.YthfjfkjlgdnohaaRead
import Derived.Test.YthfjfkjlgdnohaaNmLaw
namespace Go.Proofs.Ythfjfkjlgdnohaa
open Go.RowKit

/-! ### Numbers and octets -/
theorem numN_inj (n : Nat) : ∀ a b : List UInt8, a.length = n → b.length = n → numN a = numN b → a = b := by
  induction n with
  | zero => intro a b ha hb _; rw [List.eq_nil_of_length_eq_zero ha, List.eq_nil_of_length_eq_zero hb]
  | succ n ih =>
    intro a b ha hb h
    rcases List.eq_nil_or_concat a with rfl | ⟨a', x, rfl⟩
    · simp at ha
    rcases List.eq_nil_or_concat b with rfl | ⟨b', y, rfl⟩
    · simp at hb
    rw [List.concat_eq_append] at ha hb h ⊢
    rw [List.concat_eq_append] at h ⊢
    rw [numN_snoc, numN_snoc] at h
    have hx := x.toNat_lt
    have hy := y.toNat_lt
    have e1 : numN a' = numN b' := by omega
    have e2 : x = y := UInt8.toNat_inj.1 (by omega)
    rw [ih a' b' (by simpa using ha) (by simpa using hb) e1, e2]
theorem putL2r (n : Int) : putL n 2 = [toByte (n / 256), toByte n] := by
  simp [putL, putF, bkDown, putStep, List.range, List.range.loop, List.replicate]
theorem putL3r (n : Int) : putL n 3 = [toByte (n / 256 / 256), toByte (n / 256), toByte n] := by
  simp [putL, putF, bkDown, putStep, List.range, List.range.loop, List.replicate]
theorem putL8r (n : Int) : putL n 8 = [toByte (n / 256 / 256 / 256 / 256 / 256 / 256 / 256), toByte (n / 256 / 256 / 256 / 256 / 256 / 256), toByte (n / 256 / 256 / 256 / 256 / 256), toByte (n / 256 / 256 / 256 / 256), toByte (n / 256 / 256 / 256), toByte (n / 256 / 256), toByte (n / 256), toByte n] := by
  simp [putL, putF, bkDown, putStep, List.range, List.range.loop, List.replicate]
theorem numN2r (n : Int) : (numN (putL n 2) : Int) = n % 65536 := by
  rw [putL2r]
  simp only [numN, List.foldl_cons, List.foldl_nil, Int.natCast_add, Int.natCast_mul, toByte_int]
  omega
theorem numN3r (n : Int) : (numN (putL n 3) : Int) = n % 16777216 := by
  rw [putL3r]
  simp only [numN, List.foldl_cons, List.foldl_nil, Int.natCast_add, Int.natCast_mul, toByte_int]
  omega
theorem numN8r (n : Int) : (numN (putL n 8) : Int) = n % 18446744073709551616 := by
  rw [putL8r]
  simp only [numN, List.foldl_cons, List.foldl_nil, Int.natCast_add, Int.natCast_mul, toByte_int]
  omega
theorem put2_num (b : List UInt8) (h : b.length = 2) : putL (numN b : Int) 2 = b := by
  have := numN2r (numN b)
  have hl := numN_lt b
  rw [h] at hl
  exact numN_inj 2 _ _ (putL_length _ _) h (by omega)
theorem put3_num (b : List UInt8) (h : b.length = 3) : putL (numN b : Int) 3 = b := by
  have := numN3r (numN b)
  have hl := numN_lt b
  rw [h] at hl
  exact numN_inj 3 _ _ (putL_length _ _) h (by omega)
theorem put8_num (b : List UInt8) (h : b.length = 8) : putL (numN b : Int) 8 = b := by
  have := numN8r (numN b)
  have hl := numN_lt b
  rw [h] at hl
  exact numN_inj 8 _ _ (putL_length _ _) h (by omega)
theorem numN2r' (n : Nat) (h : n < 65536) : numN (putL (n : Int) 2) = n := by have := numN2r n; omega
theorem numN3r' (n : Nat) (h : n < 16777216) : numN (putL (n : Int) 3) = n := by have := numN3r n; omega

/-! ### Sums -/
theorem octAt_r (sa sb sc sd : Int) : octAt (octL sa sb sc sd) 0 = numN (putL (IntKind.i64.wrap sa) 8) ∧ octAt (octL sa sb sc sd) 1 = numN (putL (IntKind.i64.wrap sb) 8) ∧ octAt (octL sa sb sc sd) 2 = numN (putL (IntKind.i64.wrap sc) 8) ∧ octAt (octL sa sb sc sd) 3 = numN (putL (IntKind.i64.wrap sd) 8) := by
  unfold octAt octL
  have h : ∀ n, (putL n 8).length = 8 := fun n => putL_length n 8
  refine ⟨?_, ?_, ?_, ?_⟩ <;> simp [List.drop_append, h, List.drop_eq_nil_of_le, List.take_of_length_le]
theorem wrap_r (x : Int) (h : 0 ≤ x ∧ x < 18446744073709551616) : IntKind.i64.wrap x % 18446744073709551616 = x := by
  rw [IntKind.wrap_i64]; omega
theorem readS_r (s : Sm) (hs : s.ok) : readS (octL s.a s.b s.c s.d) = s := by
  obtain ⟨sa, sb, sc, sd⟩ := s
  obtain ⟨e0, e1, e2, e3⟩ := octAt_r sa sb sc sd
  unfold readS
  rw [if_pos (octL_length _ _ _ _), e0, e1, e2, e3, numN8r, numN8r, numN8r, numN8r, wrap_r _ hs.a, wrap_r _ hs.b, wrap_r _ hs.c, wrap_r _ hs.d]
theorem put_wrap_r (b : List UInt8) (h : b.length = 8) : putL (IntKind.i64.wrap (numN b : Int)) 8 = b := by
  have h1 := numN8r (IntKind.i64.wrap (numN b : Int))
  have hl := numN_lt b
  rw [h] at hl
  rw [wrap_r _ (by omega)] at h1
  exact numN_inj 8 _ _ (putL_length _ _) h (by omega)
theorem octL_readS (b : List UInt8) (h : b.length = 32) : octL (readS b).a (readS b).b (readS b).c (readS b).d = b := by
  unfold readS
  rw [if_pos h]
  unfold octL octAt
  rw [put_wrap_r _ (by simp; omega), put_wrap_r _ (by simp; omega), put_wrap_r _ (by simp; omega), put_wrap_r _ (by simp; omega)]
  have e3 : (b.drop (8 * 3)).take 8 = b.drop 24 := List.take_of_length_le (by simp; omega)
  rw [e3]
  have j : ∀ k, (b.drop (8 * k)).take 8 ++ b.drop (8 * k + 8) = b.drop (8 * k) := by
    intro k
    conv => rhs; rw [← List.take_append_drop 8 (b.drop (8 * k)), List.drop_drop]
  have j2 := j 2
  have j1 := j 1
  have j0 := j 0
  simp only [Nat.mul_zero, Nat.mul_one, Nat.zero_add, List.drop_zero] at j0 j1 j2 ⊢
  rw [j2, j1, j0]
theorem readS_ok (b : List UInt8) : (readS b).ok := by
  unfold readS
  split
  · have h : ∀ k, octAt b k < 18446744073709551616 := by
      intro k
      have := numN_lt ((b.drop (8 * k)).take 8)
      have hl : ((b.drop (8 * k)).take 8).length ≤ 8 := by simp; omega
      have h2 : 256 ^ ((b.drop (8 * k)).take 8).length ≤ 256 ^ 8 := Nat.pow_le_pow_right (by decide) hl
      have e : (256 : Nat) ^ 8 = 18446744073709551616 := by decide
      unfold octAt
      omega
    have h0 := h 0
    have h1 := h 1
    have h2 := h 2
    have h3 := h 3
    exact ⟨by simp only; omega, by simp only; omega, by simp only; omega, by simp only; omega⟩
  · exact ⟨by decide, by decide, by decide, by decide⟩

/-! ### Fields -/
abbrev BS := List UInt8
def fone (s : BS) : BS := putL (s.length : Int) 3 ++ s
def fwrite (l : List BS) : BS := putL (l.length : Int) 2 ++ l.flatMap fone
def fbody : Nat → BS → Except Int (List BS)
  | 0, b => if b.length = 0 then .ok [] else .error 9
  | k + 1, b =>
    if b.length < 3 then .error 8 else if 65536 < numN (b.take 3) then .error 5 else if b.length < 3 + numN (b.take 3) then .error 8 else
      match fbody k (b.drop (3 + numN (b.take 3))) with
      | .ok l => .ok ((b.drop 3).take (numN (b.take 3)) :: l)
      | .error e => .error e
def fread (b : BS) : Except Int (List BS) := if b.length < 2 then .error 8 else if 1024 < numN (b.take 2) then .error 3 else fbody (numN (b.take 2)) (b.drop 2)
theorem fbody_write (l : List BS) (h : ∀ s ∈ l, s.length ≤ 65536) : fbody l.length (l.flatMap fone) = .ok l := by
  induction l with
  | nil => rfl
  | cons s l ih =>
    have hs := h s (List.mem_cons_self ..)
    have e : (s :: l).flatMap fone = putL (s.length : Int) 3 ++ (s ++ l.flatMap fone) := by simp [fone]
    have h3 : (putL (s.length : Int) 3).length = 3 := putL_length _ _
    have ht : (putL (s.length : Int) 3 ++ (s ++ l.flatMap fone)).take 3 = putL (s.length : Int) 3 := List.take_left' h3
    have hn : numN (putL (s.length : Int) 3) = s.length := numN3r' _ (by omega)
    have hd : (putL (s.length : Int) 3 ++ (s ++ l.flatMap fone)).drop 3 = s ++ l.flatMap fone := List.drop_left' h3
    rw [e, List.length_cons, fbody, ht, hn, if_neg (by simp [h3]), if_neg (by omega), if_neg (by simp [h3]), ← List.drop_drop, hd, List.drop_left' rfl, ih (fun x hx => h x (List.mem_cons_of_mem _ hx)), List.take_left' rfl]
theorem fread_write (l : List BS) (hl : l.length ≤ 1024) (h : ∀ s ∈ l, s.length ≤ 65536) : fread (fwrite l) = .ok l := by
  have h2 : (putL (l.length : Int) 2).length = 2 := putL_length _ _
  have ht : (fwrite l).take 2 = putL (l.length : Int) 2 := List.take_left' h2
  have hd : (fwrite l).drop 2 = l.flatMap fone := List.drop_left' h2
  unfold fread
  rw [ht, hd, numN2r' _ (by omega), if_neg (by unfold fwrite; simp [h2]), if_neg (by omega), fbody_write l h]
theorem fbody_back (k : Nat) : ∀ (b : BS) (l : List BS), fbody k b = .ok l → l.length = k ∧ l.flatMap fone = b ∧ ∀ s ∈ l, s.length ≤ 65536 := by
  induction k with
  | zero =>
    intro b l h
    unfold fbody at h
    split at h
    · rename_i hb
      cases h
      exact ⟨rfl, (List.eq_nil_of_length_eq_zero hb).symm, by simp⟩
    · cases h
  | succ k ih =>
    intro b l h
    unfold fbody at h
    split at h
    · cases h
    rename_i h3
    split at h
    · cases h
    rename_i hm
    split at h
    · cases h
    rename_i hb
    split at h
    · rename_i l' e
      cases h
      obtain ⟨h1, h2, h4⟩ := ih _ _ e
      have hl : ((b.drop 3).take (numN (b.take 3))).length = numN (b.take 3) := by simp; omega
      refine ⟨by simp [h1], ?_, ?_⟩
      · rw [List.flatMap_cons, h2, fone, hl, put3_num _ (by simp; omega), List.append_assoc, ← List.drop_drop, List.take_append_drop, List.take_append_drop]
      · intro s hs
        rcases List.mem_cons.1 hs with rfl | hs
        · omega
        · exact h4 s hs
    · cases h
theorem fread_back (b : BS) (l : List BS) (h : fread b = .ok l) : fwrite l = b ∧ l.length ≤ 1024 ∧ ∀ s ∈ l, s.length ≤ 65536 := by
  unfold fread at h
  split at h
  · cases h
  rename_i h2
  split at h
  · cases h
  rename_i hm
  obtain ⟨h3, h4, h5⟩ := fbody_back _ _ _ h
  refine ⟨?_, by omega, h5⟩
  unfold fwrite
  rw [h3, h4, put2_num _ (by simp; omega), List.take_append_drop]

/-! ### Records -/
abbrev PL := List (BS × BS)
structure Rc where
  kind : Int
  nm : BS
  frm : Int
  gd : Int
  own : PL
  ix : Int
  ct : Int
  dt : BS
  sm : Sm
def Sm0 : Sm := ⟨0, 0, 0, 0⟩
def Rc0 : Rc := ⟨0, [], 0, 0, [], 0, 0, [], Sm0⟩
def valB (s : BS) : Bool := decide (s.length ≤ 32) && s.all fun c => decide (32 ≤ c) && decide (c ≤ 126)
def propsFrom : Option BS → PL → Bool
  | _, [] => true
  | p, x :: l => nameB x.1 && valB x.2 && (match p with | none => true | some q => Op.bytesLess q x.1) && propsFrom (some x.1) l
def propsB (l : PL) : Bool := decide (l.length ≤ 8) && propsFrom none l
def smZ (s : Sm) : Bool := decide (s.a = 0 ∧ s.b = 0 ∧ s.c = 0 ∧ s.d = 0)
theorem smZ_eq (s : Sm) (h : smZ s = true) : s = Sm0 := by
  obtain ⟨a, b, c, d⟩ := s
  obtain ⟨h1, h2, h3, h4⟩ := of_decide_eq_true h
  simp only at h1 h2 h3 h4
  subst h1 h2 h3 h4
  rfl
def amt (n : Int) (least : Int) : Bool := decide (least ≤ n) && decide (n ≤ 1099511627776)
def mayB (r : Rc) : Bool :=
  if r.kind = 1 then nameB r.nm && amt r.frm 0 && amt r.gd 1 && propsB r.own && decide (r.ix = 0) && decide (r.ct = 0) && decide (r.dt = []) && smZ r.sm
  else if r.kind = 2 then decide (0 ≤ r.ix ∧ r.ix < 1024) && decide (r.dt.length = 16) && decide (r.nm = []) && decide (r.frm = 0) && decide (r.gd = 0) && decide (r.own = []) && decide (r.ct = 0) && smZ r.sm
  else if r.kind = 3 then decide (0 ≤ r.ix ∧ r.ix < 1024) && decide (1 ≤ r.ct ∧ r.ct ≤ 1024 - r.ix) && decide (r.nm = []) && decide (r.frm = 0) && decide (r.gd = 0) && decide (r.own = []) && decide (r.dt = []) && smZ r.sm
  else decide (r.nm = []) && decide (r.frm = 0) && decide (r.gd = 0) && decide (r.own = []) && decide (r.ix = 0) && decide (r.ct = 0) && decide (r.dt = [])
def recE (r : Rc) : Int := if r.kind < 1 ∨ 4 < r.kind then 23 else if mayB r = true then 0 else 9
def n8 (n : Int) : BS := putL n 8
def ptexts (l : PL) : List BS := l.flatMap fun x => [x.1, x.2]
def rtexts (r : Rc) : List BS :=
  if r.kind = 1 then [r.nm, n8 r.frm, n8 r.gd] ++ ptexts r.own
  else if r.kind = 2 then [n8 r.ix, r.dt]
  else if r.kind = 3 then [n8 r.ix, n8 r.ct]
  else [octL r.sm.a r.sm.b r.sm.c r.sm.d]
def encL (r : Rc) : BS := toByte r.kind :: (putL ((fwrite (rtexts r)).length : Int) 2 ++ fwrite (rtexts r))
def num8 (s : BS) : Option Int := if s.length = 8 ∧ numN s ≤ 4611686018427387903 then some (numN s : Int) else none
def pairsL : List BS → Option PL
  | [] => some []
  | [_] => none
  | a :: b :: l => (pairsL l).map ((a, b) :: ·)
def madeL (kind : Int) (l : List BS) : Option Rc :=
  if kind = 1 then match l with
    | nm :: a :: b :: rest => match num8 a, num8 b, pairsL rest with
      | some x, some y, some p => some { Rc0 with kind := kind, nm := nm, frm := x, gd := y, own := p }
      | _, _, _ => none
    | _ => none
  else if kind = 2 then match l with
    | [a, d] => match num8 a with
      | some x => some { Rc0 with kind := kind, ix := x, dt := d }
      | none => none
    | _ => none
  else if kind = 3 then match l with
    | [a, b] => match num8 a, num8 b with
      | some x, some y => some { Rc0 with kind := kind, ix := x, ct := y }
      | _, _ => none
    | _ => none
  else match l with
    | [s] => if s.length = 32 then some { Rc0 with kind := kind, sm := readS s } else none
    | _ => none
def sizeAt (b : BS) : Nat := numN ((b.drop 1).take 2)
def parseL (b : BS) : Rc × Nat × Int :=
  match b with
  | [] => (Rc0, 0, 8)
  | k :: _ =>
    if k.toNat < 1 ∨ 4 < k.toNat then (Rc0, 0, 23) else if b.length < 3 then (Rc0, 0, 8) else if b.length < 3 + sizeAt b then (Rc0, 0, 8) else
      match fread ((b.drop 3).take (sizeAt b)) with
      | .error _ => (Rc0, 0, 33)
      | .ok l => match madeL (k.toNat : Int) l with
        | none => (Rc0, 0, 33)
        | some r => if recE r = 0 then (r, 3 + sizeAt b, 0) else (Rc0, 0, 9)
theorem num8_put (n : Int) (h : 0 ≤ n ∧ n ≤ 4611686018427387903) : num8 (n8 n) = some n := by
  have := numN8r n
  unfold num8 n8
  rw [if_pos ⟨putL_length _ _, by omega⟩]
  congr 1
  omega
theorem num8_back (s : BS) (n : Int) (h : num8 s = some n) : n8 n = s := by
  unfold num8 at h
  split at h
  · rename_i hs
    cases h
    exact put8_num s hs.1
  · cases h
theorem pairs_texts (l : PL) : pairsL (ptexts l) = some l := by
  induction l with
  | nil => rfl
  | cons x l ih =>
    show ((pairsL (ptexts l)).map ((x.1, x.2) :: ·)) = _
    rw [ih]
    rfl
theorem texts_pairs (l : List BS) (p : PL) (h : pairsL l = some p) : ptexts p = l := by
  induction l using pairsL.induct generalizing p with
  | case1 => cases h; rfl
  | case2 => cases h
  | case3 a b l ih =>
    simp only [pairsL, Option.map_eq_some_iff] at h
    obtain ⟨q, hq, rfl⟩ := h
    show a :: b :: ptexts q = _
    rw [ih q hq]

/-! ### A record that may be -/
theorem propsFrom_small (o : Option BS) (l : PL) (h : propsFrom o l = true) : ∀ x ∈ l, nameB x.1 = true ∧ valB x.2 = true := by
  induction l generalizing o with
  | nil => intro x hx; cases hx
  | cons y l ih =>
    unfold propsFrom at h
    simp only [Bool.and_eq_true] at h
    intro x hx
    rcases List.mem_cons.1 hx with rfl | hx
    · exact ⟨h.1.1.1, h.1.1.2⟩
    · exact ih _ h.2 x hx
theorem nameB_len (s : BS) (h : nameB s = true) : s.length ≤ 16 := by
  unfold nameB at h
  simp only [Bool.and_eq_true, decide_eq_true_eq] at h
  exact h.1.2
theorem valB_len (s : BS) (h : valB s = true) : s.length ≤ 32 := by
  unfold valB at h
  simp only [Bool.and_eq_true, decide_eq_true_eq] at h
  exact h.1
theorem ptexts_len (l : PL) : (ptexts l).length = 2 * l.length := by
  induction l with
  | nil => rfl
  | cons x l ih => show (ptexts l).length + 2 = _; rw [ih, List.length_cons]; omega
theorem recE_kind (r : Rc) (h : recE r = 0) : (r.kind = 1 ∨ r.kind = 2 ∨ r.kind = 3 ∨ r.kind = 4) ∧ mayB r = true := by
  unfold recE at h
  split at h
  · cases h
  · rename_i hk
    split at h
    · rename_i hm
      exact ⟨by omega, hm⟩
    · cases h
theorem mayB_1 (r : Rc) (hk : r.kind = 1) (h : mayB r = true) : nameB r.nm = true ∧ (0 ≤ r.frm ∧ r.frm ≤ 1099511627776) ∧ (1 ≤ r.gd ∧ r.gd ≤ 1099511627776) ∧ propsB r.own = true ∧ r.ix = 0 ∧ r.ct = 0 ∧ r.dt = [] ∧ r.sm = Sm0 := by
  unfold mayB amt at h
  rw [if_pos hk] at h
  simp only [Bool.and_eq_true, decide_eq_true_eq] at h
  obtain ⟨⟨⟨⟨⟨⟨⟨h1, h2⟩, h3⟩, h4⟩, h5⟩, h6⟩, h7⟩, h8⟩ := h
  exact ⟨h1, h2, h3, h4, h5, h6, h7, smZ_eq _ h8⟩
theorem mayB_2 (r : Rc) (hk : r.kind = 2) (h : mayB r = true) : (0 ≤ r.ix ∧ r.ix < 1024) ∧ r.dt.length = 16 ∧ r.nm = [] ∧ r.frm = 0 ∧ r.gd = 0 ∧ r.own = [] ∧ r.ct = 0 ∧ r.sm = Sm0 := by
  unfold mayB at h
  rw [if_neg (by omega), if_pos hk] at h
  simp only [Bool.and_eq_true, decide_eq_true_eq] at h
  obtain ⟨⟨⟨⟨⟨⟨⟨h1, h2⟩, h3⟩, h4⟩, h5⟩, h6⟩, h7⟩, h8⟩ := h
  exact ⟨h1, h2, h3, h4, h5, h6, h7, smZ_eq _ h8⟩
theorem mayB_3 (r : Rc) (hk : r.kind = 3) (h : mayB r = true) : (0 ≤ r.ix ∧ r.ix < 1024) ∧ (1 ≤ r.ct ∧ r.ct ≤ 1024 - r.ix) ∧ r.nm = [] ∧ r.frm = 0 ∧ r.gd = 0 ∧ r.own = [] ∧ r.dt = [] ∧ r.sm = Sm0 := by
  unfold mayB at h
  rw [if_neg (by omega), if_neg (by omega), if_pos hk] at h
  simp only [Bool.and_eq_true, decide_eq_true_eq] at h
  obtain ⟨⟨⟨⟨⟨⟨⟨h1, h2⟩, h3⟩, h4⟩, h5⟩, h6⟩, h7⟩, h8⟩ := h
  exact ⟨h1, h2, h3, h4, h5, h6, h7, smZ_eq _ h8⟩
theorem mayB_4 (r : Rc) (hk : r.kind = 4) (h : mayB r = true) : r.nm = [] ∧ r.frm = 0 ∧ r.gd = 0 ∧ r.own = [] ∧ r.ix = 0 ∧ r.ct = 0 ∧ r.dt = [] := by
  unfold mayB at h
  rw [if_neg (by omega), if_neg (by omega), if_neg (by omega)] at h
  simp only [Bool.and_eq_true, decide_eq_true_eq] at h
  obtain ⟨⟨⟨⟨⟨⟨h1, h2⟩, h3⟩, h4⟩, h5⟩, h6⟩, h7⟩ := h
  exact ⟨h1, h2, h3, h4, h5, h6, h7⟩
/-- its texts: how many, how long -/
theorem rtexts_small (r : Rc) (h : recE r = 0) : (rtexts r).length ≤ 19 ∧ ∀ s ∈ rtexts r, s.length ≤ 32 := by
  obtain ⟨hk, hm⟩ := recE_kind r h
  have l8 : ∀ n, (n8 n).length = 8 := fun n => putL_length n 8
  unfold rtexts
  rcases hk with hk | hk | hk | hk
  · obtain ⟨h1, _, _, h4, _⟩ := mayB_1 r hk hm
    rw [if_pos hk]
    unfold propsB at h4
    simp only [Bool.and_eq_true, decide_eq_true_eq] at h4
    refine ⟨by simp [ptexts_len]; omega, ?_⟩
    intro s hs
    have hn := nameB_len _ h1
    rcases List.mem_append.1 hs with hs | hs
    · simp only [List.mem_cons, List.mem_nil_iff, or_false] at hs
      rcases hs with rfl | rfl | rfl
      · omega
      · rw [l8]; omega
      · rw [l8]; omega
    · unfold ptexts at hs
      obtain ⟨x, hx, hs⟩ := List.mem_flatMap.1 hs
      obtain ⟨h5, h6⟩ := propsFrom_small _ _ h4.2 x hx
      have := nameB_len _ h5
      have := valB_len _ h6
      simp only [List.mem_cons, List.mem_nil_iff, or_false] at hs
      rcases hs with rfl | rfl <;> omega
  · obtain ⟨_, h2, _⟩ := mayB_2 r hk hm
    rw [if_neg (by omega), if_pos hk]
    refine ⟨by simp, ?_⟩
    intro s hs
    simp only [List.mem_cons, List.mem_nil_iff, or_false] at hs
    rcases hs with rfl | rfl
    · rw [l8]; omega
    · omega
  · rw [if_neg (by omega), if_neg (by omega), if_pos hk]
    refine ⟨by simp, ?_⟩
    intro s hs
    simp only [List.mem_cons, List.mem_nil_iff, or_false] at hs
    rcases hs with rfl | rfl <;> rw [l8] <;> omega
  · rw [if_neg (by omega), if_neg (by omega), if_neg (by omega)]
    refine ⟨by simp, ?_⟩
    intro s hs
    simp only [List.mem_cons, List.mem_nil_iff, or_false] at hs
    subst hs
    rw [octL_length]; omega
theorem flat_len (l : List BS) (h : ∀ s ∈ l, s.length ≤ 32) : (l.flatMap fone).length ≤ 35 * l.length := by
  induction l with
  | nil => simp
  | cons s l ih =>
    have hs := h s (List.mem_cons_self ..)
    have := ih (fun x hx => h x (List.mem_cons_of_mem _ hx))
    have h3 : (putL (s.length : Int) 3).length = 3 := putL_length _ _
    rw [List.flatMap_cons, List.length_append, fone, List.length_append, h3, List.length_cons]
    omega
theorem fwrite_len (r : Rc) (h : recE r = 0) : (fwrite (rtexts r)).length ≤ 700 := by
  obtain ⟨h1, h2⟩ := rtexts_small r h
  have := flat_len _ h2
  have h3 : (putL ((rtexts r).length : Int) 2).length = 2 := putL_length _ _
  unfold fwrite
  rw [List.length_append]
  omega
theorem made_texts (r : Rc) (h : recE r = 0) (hs : r.sm.ok) : madeL r.kind (rtexts r) = some r := by
  obtain ⟨hk, hm⟩ := recE_kind r h
  obtain ⟨kind, nm, frm, gd, own, ix, ct, dt, sm⟩ := r
  simp only at hk
  rcases hk with hk | hk | hk | hk
  · obtain ⟨h1, h2, h3, h4, h5, h6, h7, h8⟩ := mayB_1 _ hk hm
    simp only at h1 h2 h3 h4 h5 h6 h7 h8
    subst hk h5 h6 h7 h8
    unfold rtexts madeL
    simp only [if_true, List.cons_append, List.nil_append]
    rw [num8_put _ (by omega), num8_put _ (by omega), pairs_texts]
    rfl
  · obtain ⟨h1, h2, h3, h4, h5, h6, h7, h8⟩ := mayB_2 _ hk hm
    simp only at h1 h2 h3 h4 h5 h6 h7 h8
    subst hk h3 h4 h5 h6 h7 h8
    unfold rtexts madeL
    simp only [if_true]
    rw [if_neg (by decide), if_neg (by decide)]
    simp only
    rw [num8_put _ (by omega)]
    rfl
  · obtain ⟨h1, h2, h3, h4, h5, h6, h7, h8⟩ := mayB_3 _ hk hm
    simp only at h1 h2 h3 h4 h5 h6 h7 h8
    subst hk h3 h4 h5 h6 h7 h8
    unfold rtexts madeL
    simp only [if_true]
    rw [if_neg (by decide), if_neg (by decide), if_neg (by decide), if_neg (by decide)]
    simp only
    rw [num8_put _ (by omega), num8_put _ (by omega)]
    rfl
  · obtain ⟨h1, h2, h3, h4, h5, h6, h7⟩ := mayB_4 _ hk hm
    simp only at h1 h2 h3 h4 h5 h6 h7 hs
    subst hk h1 h2 h3 h4 h5 h6 h7
    have e : rtexts ⟨4, [], 0, 0, [], 0, 0, [], sm⟩ = [octL sm.a sm.b sm.c sm.d] := rfl
    rw [e]
    show (if (octL sm.a sm.b sm.c sm.d).length = 32 then some { Rc0 with kind := 4, sm := readS (octL sm.a sm.b sm.c sm.d) } else none) = _
    rw [if_pos (octL_length _ _ _ _), readS_r sm hs]
    rfl
theorem toByte_kind (k : Int) (h : 0 ≤ k ∧ k < 256) : ((toByte k).toNat : Int) = k := by
  rw [toByte_int]; omega
/-- A RECORD COMES BACK -/
theorem parse_enc (r : Rc) (h : recE r = 0) (hs : r.sm.ok) (more : BS) : parseL (encL r ++ more) = (r, (encL r).length, 0) := by
  obtain ⟨hk, hm⟩ := recE_kind r h
  obtain ⟨h1, h2⟩ := rtexts_small r h
  have hl := fwrite_len r h
  have hkb := toByte_kind r.kind (by omega)
  obtain ⟨f, hf⟩ : ∃ f, f = fwrite (rtexts r) := ⟨_, rfl⟩
  have h22 : (putL (f.length : Int) 2).length = 2 := putL_length _ _
  have hrd : fread f = .ok (rtexts r) := by rw [hf]; exact fread_write _ (by omega) (fun s hs => by have := h2 s hs; omega)
  have hsz : sizeAt (encL r ++ more) = f.length := by
    unfold sizeAt encL
    rw [← hf, List.cons_append, List.drop_succ_cons, List.drop_zero, List.append_assoc, List.take_left' h22]
    exact numN2r' _ (by rw [hf]; omega)
  have hdr : (encL r ++ more).drop 3 = f ++ more := by
    unfold encL
    rw [← hf, List.cons_append, List.drop_succ_cons, List.append_assoc, List.drop_left' h22]
  have hlen : (encL r ++ more).length = 3 + f.length + more.length := by
    unfold encL
    rw [← hf]
    simp [h22]
    omega
  have hle : (encL r).length = 3 + f.length := by
    unfold encL
    rw [← hf]
    simp [h22]
    omega
  have hform : encL r ++ more = toByte r.kind :: (putL (f.length : Int) 2 ++ f ++ more) := by unfold encL; rw [← hf]; rfl
  unfold parseL
  rw [hform]
  simp only
  rw [← hform, if_neg (by omega), if_neg (by omega), if_neg (by omega), hsz, hdr, List.take_left' rfl, hrd]
  simp only
  rw [hkb, made_texts r h hs]
  simp only
  rw [if_pos h, hle]
/-- a beginning is too short -/
theorem parse_cut (r : Rc) (h : recE r = 0) (at_ : Nat) (ha : at_ < (encL r).length) : parseL ((encL r).take at_) = (Rc0, 0, 8) := by
  obtain ⟨hk, hm⟩ := recE_kind r h
  have hl := fwrite_len r h
  have hkb := toByte_kind r.kind (by omega)
  obtain ⟨f, hf⟩ : ∃ f, f = fwrite (rtexts r) := ⟨_, rfl⟩
  have h22 : (putL (f.length : Int) 2).length = 2 := putL_length _ _
  have hle : (encL r).length = 3 + f.length := by
    unfold encL
    rw [← hf]
    simp [h22]
    omega
  cases at_ with
  | zero => rfl
  | succ k =>
    have hform : (encL r).take (k + 1) = toByte r.kind :: (putL (f.length : Int) 2 ++ f).take k := by unfold encL; rw [← hf]; rfl
    unfold parseL
    rw [hform]
    simp only
    rw [← hform, if_neg (by omega)]
    by_cases h3 : k + 1 < 3
    · rw [if_pos (by rw [List.length_take]; omega)]
    · rw [if_neg (by rw [List.length_take]; omega), if_pos]
      have hsz : sizeAt ((encL r).take (k + 1)) = f.length := by
        rw [hform]
        unfold sizeAt
        rw [List.drop_succ_cons, List.drop_zero, List.take_take, show min 2 k = 2 by omega, List.take_left' h22]
        exact numN2r' _ (by rw [hf]; omega)
      rw [hsz, List.length_take]
      omega
/-- OCTETS THAT ARE A RECORD's -/
theorem made_back (k : Int) (hk : k = 1 ∨ k = 2 ∨ k = 3 ∨ k = 4) (l : List BS) (r : Rc) (h : madeL k l = some r) : r.kind = k ∧ rtexts r = l ∧ r.sm.ok := by
  unfold madeL at h
  have ok0 : Sm0.ok := ⟨by decide, by decide, by decide, by decide⟩
  rcases hk with rfl | rfl | rfl | rfl
  · rw [if_pos rfl] at h
    split at h
    · split at h
      · rename_i x y p h1 h2 h3
        cases h
        refine ⟨rfl, ?_, ok0⟩
        unfold rtexts
        simp only [if_true, List.cons_append, List.nil_append]
        rw [num8_back _ _ h1, num8_back _ _ h2, texts_pairs _ _ h3]
      · cases h
    · cases h
  · rw [if_neg (by decide), if_pos rfl] at h
    split at h
    · split at h
      · rename_i x h1
        cases h
        refine ⟨rfl, ?_, ok0⟩
        unfold rtexts
        simp only [if_true]
        rw [if_neg (by decide), num8_back _ _ h1]
      · cases h
    · cases h
  · rw [if_neg (by decide), if_neg (by decide), if_pos rfl] at h
    split at h
    · split at h
      · rename_i x y h1 h2
        cases h
        refine ⟨rfl, ?_, ok0⟩
        unfold rtexts
        simp only [if_true]
        rw [if_neg (by decide), if_neg (by decide), num8_back _ _ h1, num8_back _ _ h2]
      · cases h
    · cases h
  · rw [if_neg (by decide), if_neg (by decide), if_neg (by decide)] at h
    split at h
    · split at h
      · rename_i hs
        cases h
        refine ⟨rfl, ?_, readS_ok _⟩
        unfold rtexts
        simp only
        rw [if_neg (by decide), if_neg (by decide), if_neg (by decide), octL_readS _ hs]
      · cases h
    · cases h
theorem parse_back (b : BS) (r : Rc) (n : Nat) (h : parseL b = (r, n, 0)) : recE r = 0 ∧ r.sm.ok ∧ n ≤ b.length ∧ encL r = b.take n := by
  unfold parseL at h
  split at h
  · simp at h
  rename_i k rest
  split at h
  · simp at h
  rename_i hk
  split at h
  · simp at h
  rename_i h3
  split at h
  · simp at h
  rename_i hsz
  split at h
  · simp at h
  rename_i l hl
  split at h
  · simp at h
  rename_i r' hm
  split at h
  · rename_i hr
    simp only [Prod.mk.injEq, and_true] at h
    obtain ⟨rfl, rfl⟩ := h
    obtain ⟨h4, h5, h6⟩ := made_back _ (by omega) _ _ hm
    obtain ⟨h7, _, _⟩ := fread_back _ _ hl
    refine ⟨hr, h6, by omega, ?_⟩
    have hlen : (((k :: rest).drop 3).take (sizeAt (k :: rest))).length = sizeAt (k :: rest) := by
      rw [List.length_take, List.length_drop]
      omega
    have hkb : toByte (k.toNat : Int) = k := UInt8.toNat_inj.1 (by have := toByte_int (k.toNat : Int); have := k.toNat_lt; omega)
    unfold encL
    rw [h4, h5, h7, hlen, hkb]
    have hp : putL ((sizeAt (k :: rest) : Nat) : Int) 2 = ((k :: rest).drop 1).take 2 := put2_num _ (by rw [List.length_take, List.length_drop]; simp at h3 ⊢; omega)
    rw [hp]
    rw [List.take_add]
    have e : (k :: rest).take 3 = k :: ((k :: rest).drop 1).take 2 := by simp
    rw [e]
    rfl
  · simp at h
theorem parse_err (b : BS) (r : Rc) (n : Nat) (e : Int) (h : parseL b = (r, n, e)) (he : e ≠ 0) : r = Rc0 ∧ n = 0 := by
  unfold parseL at h
  repeat (first | (split at h) | (simp only [Prod.mk.injEq] at h; obtain ⟨rfl, rfl, rfl⟩ := h; first | exact ⟨rfl, rfl⟩ | exact absurd rfl he))
end Go.Proofs.Ythfjfkjlgdnohaa
