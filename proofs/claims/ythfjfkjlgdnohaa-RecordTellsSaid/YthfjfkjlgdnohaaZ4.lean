/-
  Properties, one list over the other: the plain law.
-/
import Derived.Sort.Walk0
import Derived.Sort.KeysCollected
import Derived.WalkKit
import Derived.Handy
import Derived.Laws.BytesString
import Derived.Laws.IdiomStrings
import Derived.Lib.ConvBytes
import Derived.Lib.Strings
import Derived.Test.YthfjfkjlgdnohaaRows
import Derived.Deep.Quiet
import Derived.Deep.QuietTactic
import Derived.Test.YthfjfkjlgdnohaaZ1
import Derived.Test.YthfjfkjlgdnohaaZ3
namespace Go.Proofs.Ythfjfkjlgdnohaa
open Go.RowKit

theorem bl_irrefl (x : BS) : Op.bytesLess x x = false := by rw [bytesLess_eq]; exact decide_eq_false (List.lt_irrefl x)
theorem bl_trans {x y z : BS} (h1 : Op.bytesLess x y = true) (h2 : Op.bytesLess y z = true) : Op.bytesLess x z = true := by
  rw [bytesLess_eq, decide_eq_true_eq] at *
  exact List.lt_trans h1 h2
theorem bl_tri : ∀ (x y : BS), Op.bytesLess x y = false → x ≠ y → Op.bytesLess y x = true
  | [], [], _, h2 => absurd rfl h2
  | [], _ :: _, h1, _ => by cases h1
  | _ :: _, [], _, _ => rfl
  | a :: x, b :: y, h1, h2 => by
    simp only [Op.bytesLess, Bool.or_eq_false_iff, Bool.and_eq_false_iff, decide_eq_false_iff_not] at h1
    simp only [Op.bytesLess, Bool.or_eq_true, Bool.and_eq_true, decide_eq_true_eq]
    obtain ⟨h3, h4⟩ := h1
    rw [UInt8.lt_iff_toNat_lt] at h3 ⊢
    by_cases hab : a = b
    · subst hab
      right
      refine ⟨by simp, bl_tri x y ?_ (fun e => h2 (by rw [e]))⟩
      rcases h4 with h4 | h4
      · simp at h4
      · exact h4
    · left
      have : a.toNat ≠ b.toNat := fun e => hab (UInt8.toNat_inj.1 e)
      omega
theorem snoc_ind {α : Type} {p : List α → Prop} (h0 : p []) (h1 : ∀ l a, p l → p (l ++ [a])) (l : List α) : p l := by
  have h : ∀ m : List α, p m.reverse := by
    intro m
    induction m with
    | nil => exact h0
    | cons a m ih => rw [List.reverse_cons]; exact h1 _ _ ih
  have := h l.reverse
  rwa [List.reverse_reverse] at this
theorem bl_ne {x y : BS} (h : Op.bytesLess x y = true) : x ≠ y := by
  intro e
  subst e
  rw [bl_irrefl] at h
  cases h
def SortP (l : PL) : Prop := l.Pairwise fun x y => Op.bytesLess x.1 y.1 = true
def putP (p : BS × BS) : PL → PL
  | [] => [p]
  | x :: l => if Op.bytesLess p.1 x.1 = true then p :: x :: l else if p.1 = x.1 then p :: l else x :: putP p l
def getP (l : PL) (n : BS) : Option BS := (l.find? fun x => x.1 == n).map (·.2)
theorem getP_nil (n : BS) : getP [] n = none := rfl
theorem getP_cons (x : BS × BS) (l : PL) (n : BS) : getP (x :: l) n = if x.1 = n then some x.2 else getP l n := by
  unfold getP
  rw [List.find?_cons]
  by_cases h : x.1 = n
  · rw [if_pos h, show (x.1 == n) = true by simp [h]]; rfl
  · rw [if_neg h, show (x.1 == n) = false by simp [h]]
theorem mem_putP (p : BS × BS) (l : PL) : ∀ x ∈ putP p l, x = p ∨ x ∈ l := by
  induction l with
  | nil => intro x hx; exact .inl (List.mem_singleton.1 hx)
  | cons y l ih =>
    intro x hx
    unfold putP at hx
    split at hx
    · rcases List.mem_cons.1 hx with h | h
      · exact .inl h
      · exact .inr h
    split at hx
    · rcases List.mem_cons.1 hx with h | h
      · exact .inl h
      · exact .inr (List.mem_cons_of_mem _ h)
    · rcases List.mem_cons.1 hx with h | h
      · exact .inr (h ▸ List.mem_cons_self ..)
      · rcases ih x h with h | h
        · exact .inl h
        · exact .inr (List.mem_cons_of_mem _ h)
theorem sort_putP (p : BS × BS) (l : PL) (h : SortP l) : SortP (putP p l) := by
  induction l with
  | nil => simp [putP, SortP]
  | cons y l ih =>
    obtain ⟨h1, h2⟩ := List.pairwise_cons.1 h
    unfold putP
    split
    · rename_i hp
      refine List.pairwise_cons.2 ⟨fun z hz => ?_, h⟩
      rcases List.mem_cons.1 hz with rfl | hz
      · exact hp
      · exact bl_trans hp (h1 z hz)
    split
    · rename_i hp
      exact List.pairwise_cons.2 ⟨fun z hz => by rw [hp]; exact h1 z hz, h2⟩
    · rename_i hp hq
      refine List.pairwise_cons.2 ⟨fun z hz => ?_, ih h2⟩
      rcases mem_putP p l z hz with rfl | hz
      · exact bl_tri _ _ (by simpa using hp) hq
      · exact h1 z hz
theorem getP_small {l : PL} {n : BS} (h : ∀ x ∈ l, Op.bytesLess n x.1 = true) : getP l n = none := by
  unfold getP
  rw [List.find?_eq_none.2]
  · rfl
  · intro x hx e
    have := bl_ne (h x hx)
    exact this (by simpa using (beq_iff_eq.1 e).symm)
theorem getP_putP (p : BS × BS) (l : PL) (h : SortP l) (n : BS) : getP (putP p l) n = if p.1 = n then some p.2 else getP l n := by
  induction l with
  | nil => unfold putP; rw [getP_cons]
  | cons y l ih =>
    obtain ⟨h1, h2⟩ := List.pairwise_cons.1 h
    unfold putP
    split
    · rw [getP_cons]
    split
    · rename_i hp
      rw [getP_cons, getP_cons]
      by_cases hn : p.1 = n
      · rw [if_pos hn, if_pos hn]
      · rw [if_neg hn, if_neg hn, if_neg (by rw [← hp]; exact hn)]
    · rename_i hp hq
      rw [getP_cons, ih h2, getP_cons]
      by_cases hn : y.1 = n
      · rw [if_pos hn, if_pos hn, if_neg (fun e => hq (e.trans hn.symm))]
      · rw [if_neg hn, if_neg hn]
theorem sortP_ext : ∀ (a b : PL), SortP a → SortP b → (∀ n, getP a n = getP b n) → a = b := by
  intro a
  induction a with
  | nil =>
    intro b _ _ h
    cases b with
    | nil => rfl
    | cons y b =>
      have := h y.1
      rw [getP_nil, getP_cons, if_pos rfl] at this
      cases this
  | cons x a ih =>
    intro b ha hb h
    cases b with
    | nil =>
      have := h x.1
      rw [getP_nil, getP_cons, if_pos rfl] at this
      cases this
    | cons y b =>
      obtain ⟨ha1, ha2⟩ := List.pairwise_cons.1 ha
      obtain ⟨hb1, hb2⟩ := List.pairwise_cons.1 hb
      have hxy : x.1 = y.1 := by
        by_cases e : x.1 = y.1
        · exact e
        · exfalso
          cases hl : Op.bytesLess x.1 y.1 with
          | true =>
            have := h x.1
            rw [getP_cons, if_pos rfl, getP_cons, if_neg (Ne.symm e), getP_small (fun z hz => bl_trans hl (hb1 z hz))] at this
            cases this
          | false =>
            have hl2 := bl_tri _ _ hl e
            have := h y.1
            rw [getP_cons, if_neg e, getP_cons, if_pos rfl, getP_small (fun z hz => bl_trans hl2 (ha1 z hz))] at this
            cases this
      have hv : x.2 = y.2 := by
        have := h x.1
        rw [getP_cons, if_pos rfl, getP_cons, if_pos hxy.symm] at this
        exact Option.some.inj this
      have hx : x = y := Prod.ext hxy hv
      subst hx
      rw [ih b ha2 hb2 (fun n => ?_)]
      have := h n
      rw [getP_cons, getP_cons] at this
      by_cases hn : x.1 = n
      · subst hn
        rw [getP_small ha1, getP_small hb1]
      · rwa [if_neg hn, if_neg hn] at this
/-- all, one behind the other -/
def allP (l : PL) : PL := l.foldl (fun acc p => putP p acc) []
theorem allP_snoc (l : PL) (p : BS × BS) : allP (l ++ [p]) = putP p (allP l) := by simp [allP]
theorem sort_allP (l : PL) : SortP (allP l) := by
  induction l using snoc_ind with
  | h0 => exact List.Pairwise.nil
  | h1 l p ih => rw [allP_snoc]; exact sort_putP p _ ih
theorem allP_get_snoc (l : PL) (p : BS × BS) (n : BS) : getP (allP (l ++ [p])) n = if p.1 = n then some p.2 else getP (allP l) n := by
  rw [allP_snoc]; exact getP_putP p _ (sort_allP l) n
theorem getP_last (a b : PL) (hb : SortP b) (n : BS) : getP (allP (a ++ b)) n = match getP b n with | some v => some v | none => getP (allP a) n := by
  induction b using snoc_ind with
  | h0 => simp [getP_nil]
  | h1 l p ih =>
    have hl : SortP l := hb.sublist (List.sublist_append_left _ _)
    rw [← List.append_assoc, allP_get_snoc]
    have hap : ∀ (m : BS), (∀ x ∈ l, Op.bytesLess x.1 p.1 = true) → getP (l ++ [p]) m = if p.1 = m then some p.2 else getP l m := by
      intro m hs
      clear ih hb hl
      induction l with
      | nil => rw [List.nil_append, getP_cons]
      | cons x l ih =>
        rw [List.cons_append, getP_cons, ih (fun y hy => hs y (List.mem_cons_of_mem _ hy)), getP_cons]
        by_cases hx : x.1 = m
        · have h1 := bl_ne (hs x (List.mem_cons_self ..))
          rw [if_pos hx, if_pos hx, if_neg (fun e => h1 (hx.trans e.symm))]
        · rw [if_neg hx, if_neg hx]
    rw [hap n (fun x hx => (List.pairwise_append.1 hb).2.2 x hx p (by simp)), ih hl]
    by_cases hn : p.1 = n
    · rw [if_pos hn, if_pos hn]
    · rw [if_neg hn, if_neg hn]
theorem allP_self (l : PL) (h : SortP l) : allP l = l := by
  refine sortP_ext _ _ (sort_allP l) h (fun n => ?_)
  have := getP_last [] l h n
  rw [List.nil_append] at this
  rw [this]
  cases getP l n <;> rfl
theorem allP_over (a b : PL) (hb : SortP b) (n : BS) : getP (allP (a ++ b)) n = (getP b n).or (getP (allP a) n) := by
  rw [getP_last a b hb n]
  cases getP b n <;> rfl
theorem propsFrom_sort (o : Option BS) (l : PL) (h : propsFrom o l = true) : SortP l ∧ ∀ q, o = some q → ∀ x ∈ l, Op.bytesLess q x.1 = true := by
  induction l generalizing o with
  | nil => exact ⟨List.Pairwise.nil, fun _ _ x hx => by cases hx⟩
  | cons y l ih =>
    unfold propsFrom at h
    simp only [Bool.and_eq_true] at h
    obtain ⟨h1, h2⟩ := ih _ h.2
    have h3 := h2 y.1 rfl
    refine ⟨List.pairwise_cons.2 ⟨h3, h1⟩, fun q hq x hx => ?_⟩
    subst hq
    have h4 : Op.bytesLess q y.1 = true := h.1.2
    rcases List.mem_cons.1 hx with rfl | hx
    · exact h4
    · exact bl_trans h4 (h3 x hx)
theorem propsB_sort (l : PL) (h : propsB l = true) : SortP l := by
  unfold propsB at h
  rw [Bool.and_eq_true] at h
  exact (propsFrom_sort none l h.2).1
end Go.Proofs.Ythfjfkjlgdnohaa

/-
  The first place of a list at which a predicate holds.
-/
namespace Go.Proofs.Ythfjfkjlgdnohaa

/-- the first place at which p holds (or the length) -/
def firstP {α : Type} (p : α → Bool) (l : List α) : Nat := (l.takeWhile fun x => !p x).length
def firstI {α : Type} (p : α → Bool) (l : List α) : Int := if firstP p l < l.length then (firstP p l : Int) else -1
theorem firstP_eq {α : Type} (p : α → Bool) (l : List α) (k : Nat) (x : α) (h : ∀ y ∈ l.take k, p y = false) (hx : l[k]? = some x) (hp : p x = true) : firstP p l = k := by
  unfold firstP
  obtain ⟨hk, e⟩ := List.getElem?_eq_some_iff.1 hx
  have hl : l = l.take k ++ x :: l.drop (k + 1) := by
    conv => lhs; rw [← List.take_append_drop k l, List.drop_eq_getElem_cons hk, e]
  conv => lhs; rw [hl]
  rw [List.takeWhile_append_of_pos (by intro y hy; simp [h y hy]), List.takeWhile_cons_of_neg (by simp [hp])]
  simp
  omega
theorem firstP_none {α : Type} (p : α → Bool) (l : List α) (h : ∀ y ∈ l, p y = false) : firstP p l = l.length := by
  unfold firstP
  induction l with
  | nil => rfl
  | cons x r ih =>
    rw [List.takeWhile_cons_of_pos (by simp [h x (by simp)]), List.length_cons, List.length_cons, ih (fun y hy => h y (List.mem_cons_of_mem _ hy))]
theorem firstP_le {α : Type} (p : α → Bool) (l : List α) : firstP p l ≤ l.length := (List.takeWhile_sublist _).length_le
theorem firstP_before {α : Type} (p : α → Bool) (l : List α) : ∀ y ∈ l.take (firstP p l), p y = false := by
  unfold firstP
  induction l with
  | nil => intro y hy; simp at hy
  | cons x r ih =>
    intro y hy
    cases hx : p x with
    | true => rw [List.takeWhile_cons_of_neg (by simp [hx])] at hy; simp at hy
    | false =>
      rw [List.takeWhile_cons_of_pos (by simp [hx]), List.length_cons, List.take_succ_cons] at hy
      rcases List.mem_cons.1 hy with rfl | hy
      · exact hx
      · exact ih y hy

theorem firstI_any {α : Type} (p : α → Bool) (l : List α) : decide ((0 : Int) ≤ firstI p l) = l.any p := by
  unfold firstI
  by_cases h : firstP p l < l.length
  · rw [if_pos h]
    have h1 : l.any p = true := by
      rw [List.any_eq_true]
      by_cases he : ∀ y ∈ l, p y = false
      · rw [firstP_none p l he] at h; omega
      · obtain ⟨y, hy⟩ := Classical.not_forall.1 he
        obtain ⟨hy, hp⟩ := Classical.not_imp.1 hy
        exact ⟨y, hy, by simpa using hp⟩
    rw [h1]
    simp
  · rw [if_neg h]
    have h1 : l.any p = false := by
      rw [List.any_eq_false]
      intro y hy hp
      have hb := firstP_before p l
      rw [List.take_of_length_le (by omega)] at hb
      rw [hb y hy] at hp
      cases hp
    rw [h1]
    rfl
end Go.Proofs.Ythfjfkjlgdnohaa

/-
  'string(b)' of octets; a row with a mark behind its end (what '[]byte(s)' makes).
-/
namespace Go.Proofs.Ythfjfkjlgdnohaa
open Go.RowKit
theorem str_of {P : Program} {w : World} {B n c : Nat} {A : Option Addr} {b : List UInt8} (hr : Reads w B 1 A n (bts b)) (hnb : n = b.length) {src dst e : TypeId} (hs : P.underlying src = some (.slice e)) (he : P.underlying e = some (.int .u8)) (hd : P.underlying dst = some .string) :
    (convert src dst (.slice A n c)).run P w = .ok (.string ⟨b.toArray⟩) w := by
  subst hnb
  rcases Nat.eq_zero_or_pos b.length with h | h
  · obtain rfl := List.eq_nil_of_length_eq_zero h
    rw [run_convert_bytes_string w src dst e _ _ c hs he hd]
    cases A <;> simp [Conv.bytesToString, loadCells]
    all_goals rfl
  · obtain ⟨ad, rfl, _, hc⟩ := hr.2 h
    exact run_convert_bytes_back w src dst e ad c b hs he hd (fun j hj => hc j _ (by rw [bts_get, List.getElem?_eq_getElem hj]; rfl))


theorem toList_data (s : ByteArray) : s.toList = s.data.toList := by
  obtain ⟨⟨l⟩⟩ := s
  exact ByteArray.toList_mk l
theorem append_data (a b : ByteArray) : (a ++ b).data.toList = a.data.toList ++ b.data.toList := by simp
theorem mk_data (a : ByteArray) : (⟨a.data.toList.toArray⟩ : ByteArray) = a := by obtain ⟨⟨l⟩⟩ := a; rfl
theorem eq_mk (a : ByteArray) (l : List UInt8) (h : a.data.toList = l) : a = ⟨l.toArray⟩ := by rw [← h, mk_data]

/-- the row that '[]byte(s)' makes -/
theorem bytesWorld_below (w : World) (e : TypeId) (s : ByteArray) : Below w.heap.size w (Lib.bytesWorld w e s) :=
  ⟨rfl, rfl, rfl, by rw [Lib.bytesWorld_size]; omega, fun j hj => Lib.bytesWorld_at_old w e s j hj⟩
theorem bytesWorld_reads (w : World) (e : TypeId) (s : ByteArray) : Reads (Lib.bytesWorld w e s) (w.heap.size + 1) 1 (some ⟨w.heap.size, 0, none⟩) s.size (bts s.data.toList) := by
  refine ⟨by rw [bts_length, Lib.size_eq]; simp, fun hn => ⟨_, rfl, Nat.lt_succ_self _, ?_⟩⟩
  intro j u hu
  have hj : j < s.size := by
    have := (List.getElem?_eq_some_iff.1 hu).1
    rw [bts_length, ← Lib.size_eq] at this
    exact this
  rw [addr_add0, Lib.bytesWorld_cell w e s j hj]
  rw [bts_get, List.getElem?_eq_getElem (by rw [← Lib.size_eq]; exact hj)] at hu
  rw [← hu]
  simp [List.getD, List.getElem?_eq_getElem (show j < s.data.toList.length by rw [← Lib.size_eq]; exact hj)]

/-- a row of which the first n cells bear no mark -/
def RowM (w : World) (g : Nat) (t : TypeId) (n : Nat) (cs : Array Value) : Prop := n ≤ cs.size ∧ ∃ hi, w.heap[g]? = some (.cells cs t (cs.size, hi))
section
variable {w w' : World} {g n : Nat} {t : TypeId} {cs : Array Value}
theorem RowM.lt (h : RowM w g t n cs) : g < w.heap.size := by
  obtain ⟨_, hi, h⟩ := h
  rcases Nat.lt_or_ge g w.heap.size with hlt | hge
  · exact hlt
  · rw [Array.getElem?_eq_none hge] at h; cases h
theorem RowM.cell (h : RowM w g t n cs) (i : Nat) : w.cell? ⟨g, i, none⟩ = cs[i]? := by
  obtain ⟨_, hi, h⟩ := h
  exact cell_of_row w g i cs t (cs.size, hi) h
theorem RowM.frozen (h : RowM w g t n cs) {i : Nat} (hi : i < n) : w.frozen? ⟨g, i, none⟩ = false := by
  obtain ⟨hn, hh, h⟩ := h
  have : ¬ cs.size ≤ i := by omega
  simp [World.frozen?, h, this]
theorem RowM.set_ (h : RowM w g t n cs) (i : Nat) (u : Value) : RowM (w.setCell ⟨g, i, none⟩ u) g t n (cs.setIfInBounds i u) := by
  obtain ⟨hn, hh, h⟩ := h
  refine ⟨by simpa using hn, hh, ?_⟩
  simp [World.setCell, Array.getElem?_modify, h]
theorem RowM.below {B : Nat} (h : RowM w g t n cs) (hb : Below B w w') (hg : g < B) : RowM w' g t n cs := ⟨h.1, h.2.choose, (hb.block g hg).trans h.2.choose_spec⟩
theorem RowM.reads (h : RowM w g t n cs) (b z : List UInt8) (hc : cs = (bts (b ++ z)).toArray) (hn : b.length = n) : Reads w (g + 1) 1 (some ⟨g, 0, none⟩) n (bts b) := by
  refine ⟨by rw [bts_length]; omega, fun _ => ⟨_, rfl, Nat.lt_succ_self _, ?_⟩⟩
  intro j u hu
  rw [addr_add0, h.cell j, hc, List.getElem?_toArray, bts_append, List.getElem?_append_left (List.getElem?_eq_some_iff.1 hu).1]
  exact hu
end
theorem bytesWorld_row (w : World) (e : TypeId) (s : ByteArray) : ∃ z : List UInt8, RowM (Lib.bytesWorld w e s) w.heap.size e s.size (bts (s.data.toList ++ z)).toArray := by
  refine ⟨List.replicate (grownCap w s.size 0 e - s.size) 0, ?_⟩
  have hc : Lib.bytesCells w e s = (bts (s.data.toList ++ List.replicate (grownCap w s.size 0 e - s.size) 0)).toArray := by
    unfold Lib.bytesCells bts
    apply Array.ext'
    simp
  have h := Lib.bytesWorld_at_new w e s
  rw [hc] at h
  exact ⟨by rw [Lib.size_eq]; simp [bts_length], _, h⟩
end Go.Proofs.Ythfjfkjlgdnohaa

/-
  names.odd, slices.IndexFunc and ContainsFunc (octets), names.Name.
-/
namespace Go.Proofs.Ythfjfkjlgdnohaa
open Go.RowKit

theorem okB_iff (c : UInt8) : okB c = true ↔ ((97 ≤ (c.toNat : Int) ∧ (c.toNat : Int) ≤ 122) ∨ (48 ≤ (c.toNat : Int) ∧ (c.toNat : Int) ≤ 57)) ∨ (c.toNat : Int) = 45 ∨ (c.toNat : Int) = 95 := by
  unfold okB
  simp only [Bool.or_eq_true, Bool.and_eq_true, decide_eq_true_eq, beq_iff_eq, UInt8.le_iff_toNat_le, ← UInt8.toNat_inj]
  have e1 : (97 : UInt8).toNat = 97 := rfl
  have e2 : (122 : UInt8).toNat = 122 := rfl
  have e3 : (48 : UInt8).toNat = 48 := rfl
  have e4 : (57 : UInt8).toNat = 57 := rfl
  have e5 : (45 : UInt8).toNat = 45 := rfl
  have e6 : (95 : UInt8).toNat = 95 := rfl
  omega
theorem odd_any (c : UInt8) (w : World) : Calls Try.prog 112 #[.int .u8 (c.toNat : Int)] w fun e w' => e = .returned (.bool (!okB c)) ∧ w' = w := by
  have hc : c.toNat < 256 := c.toNat_lt
  have hk := Lib.hid (okB_iff c)
  go_enter Try.func112, Try.ntmps112
  go_wp2
  all_goals go_ret
  all_goals refine ⟨congrArg Ending.returned (congrArg Value.bool ?_), rfl⟩
  all_goals rw [Bool.eq_iff_iff, Bool.not_eq_true', ← Bool.not_eq_true, hk.out]
  all_goals simp
  all_goals omega

/-! ### IndexFunc, ContainsFunc: a function value that captures nothing -/
set_option maxRecDepth 100000 in
set_option maxHeartbeats 1000000 in
theorem fiB_index {α : Type} (f : α → Value) (p : α → Bool) (l : List α) (n : Nat) (hnl : n = l.length) (A : Option Addr) (c : Nat) (w : World) (B : Nat)
    (hr : Reads w B 1 A n (l.map f)) (hB : B ≤ w.heap.size) (hn : n ≤ 5000000000000)
    (hp : ∀ x ∈ l, ∀ W, Calls Try.prog 112 #[f x] W fun e W' => e = .returned (.bool (p x)) ∧ Below W.heap.size W W') :
    Calls Try.prog 128 #[.slice A n c, .func (.func 112) #[] #[]] w fun e w' => e = .returned (.int .i64 (firstI p l)) ∧ Below w.heap.size w w' := by
  have HN := Lib.hid hnl
  have HP := Lib.hid hp
  clear hnl hp
  go_enter Try.func128, Try.ntmps128
  go_wp2_with fail
  go_loopw [8] (fun j wr => ∃ k : Nat, k ≤ n ∧ j = .int .i64 (k : Int) ∧ Hid (∀ y ∈ l.take k, p y = false) ∧ Below w.heap.size w wr) (fun j _ => n - (intOf j).toNat)
  case atStart => exact ⟨0, Nat.zero_le _, rfl, (show ∀ y ∈ _, _ by simp), Below.refl _ _⟩
  case round =>
    obtain ⟨k, hk, rfl, hno, hbw⟩ := hrel
    by_cases hlt : k < n
    · have hki : (k : Int) < (n : Int) := by omega
      have hkl : k < l.length := by have := HN.out; omega
      obtain ⟨ad, u, rfl, _, hxu, hcell⟩ := (hr.below (hbw.mono hB)).at_ hlt
      obtain ⟨x, hx⟩ : ∃ x, x = l[k]'hkl := ⟨_, rfl⟩
      have hux : u = f x := by
        rw [List.getElem?_map, List.getElem?_eq_getElem hkl] at hxu
        rw [hx]
        exact (Option.some.inj hxu).symm
      subst hux
      clear hxu
      have htk := List.take_succ_eq_append_getElem hkl
      rw [← hx] at htk
      have HTK := Lib.hid htk
      have HX := Lib.hid (show l[k]? = some x by rw [hx]; exact List.getElem?_eq_getElem _)
      have hc := HP.out x (List.mem_of_getElem? HX.out) wr
      obtain ⟨b, hb⟩ : ∃ b, b = p x := ⟨_, rfl⟩
      rw [← hb] at hc
      have HBX := Lib.hid hb
      clear hx htk hr hb
      obtain ⟨fx, hfx⟩ : ∃ v, v = f x := ⟨_, rfl⟩
      rw [← hfx] at hc hcell
      clear hfx
      go_wp2_with fail
      refine hc.mono ?_
      clear hc
      rintro e w1 ⟨rfl, hb1⟩
      have hbw1 := hbw.trans (hb1.mono hbw.size)
      cases b with
      | true =>
        go_wp2_with fail
        go_ret
        have hf := firstP_eq p l k x hno.out HX.out HBX.out.symm
        exact ⟨by unfold firstI; rw [hf, if_pos hkl]; rfl, hbw1⟩
      | false =>
        go_wp2_with fail
        go_roundw
        case rel =>
          refine ⟨k + 1, by omega, by go_num, ?_, hbw1⟩
          show ∀ y ∈ l.take (k + 1), p y = false
          intro y hy
          rw [HTK.out] at hy
          rcases List.mem_append.1 hy with hy | hy
          · exact hno.out y hy
          · simp at hy; subst hy; exact HBX.out.symm
        case measure => simp [intOf]; omega
    · have hkn : k = n := by omega
      have HF : Hid (firstI p l = -1) := by
        show _ = _
        unfold firstI
        rw [firstP_none p l (fun y hy => hno.out y (by rw [List.take_of_length_le (by rw [hkn, HN.out]; exact Nat.le_refl _)]; exact hy)), if_neg (Nat.lt_irrefl _)]
      clear hr hkn
      go_wp2_with fail
      go_ret
      exact ⟨by rw [HF.out]; rfl, hbw⟩
theorem fiB_contains {α : Type} (f : α → Value) (p : α → Bool) (l : List α) (n : Nat) (hnl : n = l.length) (A : Option Addr) (c : Nat) (w : World) (B : Nat)
    (hr : Reads w B 1 A n (l.map f)) (hB : B ≤ w.heap.size) (hn : n ≤ 5000000000000)
    (hp : ∀ x ∈ l, ∀ W, Calls Try.prog 112 #[f x] W fun e W' => e = .returned (.bool (p x)) ∧ Below W.heap.size W W') :
    Calls Try.prog 111 #[.slice A n c, .func (.func 112) #[] #[]] w fun e w' => e = .returned (.bool (l.any p)) ∧ Below w.heap.size w w' := by
  have hcall := Lib.hid (fiB_index f p l n hnl A c w B hr hB hn hp)
  have HA := Lib.hid (firstI_any p l)
  clear hnl hr hp
  go_enter Try.func111, Try.ntmps111
  go_wp2_with fail
  refine hcall.out.mono ?_
  rintro e w1 ⟨rfl, hb⟩
  go_wp2_with fail
  go_ret
  exact ⟨by rw [← HA.out]; rfl, hb⟩
set_option maxRecDepth 100000 in
set_option maxHeartbeats 1000000 in
theorem name_any (s : ByteArray) (w : World) : Calls Try.prog 80 #[.string s] w fun e w' => e = .returned (.bool (nameB s.data.toList)) ∧ Below w.heap.size w w' := by
  have hcv := Lib.hid (Lib.run_convert_string_bytes (P := Try.prog) w 9 28 5 s Try.underlying9 Try.underlying28 Try.underlying5)
  have hb := Lib.hid (bytesWorld_below w 5 s)
  have hr := Lib.hid (bytesWorld_reads w 5 s)
  have hsz := Lib.hid (Lib.size_eq s)
  have htl := Lib.hid (toList_data s)
  go_enter Try.func80, Try.ntmps80
  go_wp2_with fail
  · have h0 : s.toList = [] := by assumption
    rw [htl.out] at h0
    go_ret
    exact ⟨by rw [h0]; rfl, Below.refl _ _⟩
  · have h0 : ¬ s.toList = [] := by assumption
    have h16 : (s.size : Int) ≤ 16 := by assumption
    rw [htl.out] at h0
    rw [hcv.out]
    have hB := hb.out.size
    have hc := Lib.hid (fiB_contains (fun c : UInt8 => Value.int .u8 (c.toNat : Int)) (fun c => !okB c) s.data.toList s.size hsz.out (some ⟨w.heap.size, 0, none⟩) (grownCap w s.size 0 5) (Lib.bytesWorld w 5 s) (w.heap.size + 1) hr.out
      (by rw [Lib.bytesWorld_size]; omega) (by omega) (fun x _ W => (odd_any x W).mono fun _ _ ⟨h1, h2⟩ => ⟨h1, by rw [h2]; exact Below.refl _ _⟩))
    have hne := Lib.hid h0
    clear h0
    obtain ⟨b, hbe0⟩ : ∃ b, b = s.data.toList.any fun c => !okB c := ⟨_, rfl⟩
    rw [← hbe0] at hc
    have hbe := Lib.hid hbe0
    clear hbe0
    go_wp2_with fail
    refine hc.out.mono ?_
    rintro e w1 ⟨rfl, hb1⟩
    go_wp2_with fail
    go_ret
    refine ⟨congrArg Ending.returned (congrArg Value.bool ?_), hb.out.trans (hb1.mono hB)⟩
    have e1 : s.data.toList.isEmpty = false := by
      cases he : s.data.toList with
      | nil => exact absurd he hne.out
      | cons a r => rfl
    have e2 : decide (s.data.toList.length ≤ 16) = true := by
      rw [← hsz.out]
      exact decide_eq_true (by omega)
    unfold nameB
    rw [e1, e2, List.all_eq_not_any_not, ← hbe.out, htl.out, e1]
    rfl
  · have h16 : 16 < (s.size : Int) := by assumption
    go_ret
    refine ⟨congrArg Ending.returned (congrArg Value.bool ?_), Below.refl _ _⟩
    have e2 : decide (s.data.toList.length ≤ 16) = false := by
      rw [← hsz.out]
      exact decide_eq_false (by omega)
    unfold nameB
    rw [e2]
    simp

end Go.Proofs.Ythfjfkjlgdnohaa

/-
  A region that draws its order, whose operations each have one value in every world of a class: one walk in the order of the text.
-/
namespace Go.Proofs.Ythfjfkjlgdnohaa
open Go.RowKit

section
variable {P : Program} {ops : Array Oper} {C : World → Prop} {Q : Act → Prop}
theorem wpC_read {o : Oper} {rest : List Oper} {a : Act} {v : Value} (hg : o.guard = none) (h : ∀ w, C w → o.quietAt P a C w v) (hn : wpQuiet P ops C Q rest (a.put o.dst v)) : wpQuiet P ops C Q (o :: rest) a := by
  have hw : Region.wanted o (yielded ops a.tmps) = true := by simp [Region.wanted, hg]
  unfold wpQuiet
  rw [if_pos hw]
  exact ⟨v, h, hn⟩
theorem yielded_tmps {tmps : Array Value} {g k : Nat} (hd : (ops[g]?).bind (·.dst) = some k) : yielded ops tmps g = match tmps[k]?.getD undef with | .bool b => some b | _ => none := by
  unfold yielded
  rw [hd]
  simp only [Option.bind_some]
  cases tmps[k]? with
  | none => rfl
  | some v => cases v <;> rfl
theorem wpC_gread {o : Oper} {rest : List Oper} {a : Act} {v : Value} {g k : Nat} {b : Bool} (hg : o.guard = some (g, b)) (hd : (ops[g]?).bind (·.dst) = some k) (ht : a.tmps[k]?.getD undef = .bool b)
    (h : ∀ w, C w → o.quietAt P a C w v) (hn : wpQuiet P ops C Q rest (a.put o.dst v)) : wpQuiet P ops C Q (o :: rest) a := by
  have hw : Region.wanted o (yielded ops a.tmps) = true := by simp [Region.wanted, hg, yielded_tmps hd, ht]
  unfold wpQuiet
  rw [if_pos hw]
  exact ⟨v, h, hn⟩
theorem wpC_skip {o : Oper} {rest : List Oper} {a : Act} {g k : Nat} {b : Bool} (hg : o.guard = some (g, b)) (hd : (ops[g]?).bind (·.dst) = some k) (ht : a.tmps[k]?.getD undef = .bool (!b) ∨ a.tmps[k]?.getD undef = undef)
    (hn : wpQuiet P ops C Q rest (a.put o.dst undef)) : wpQuiet P ops C Q (o :: rest) a := by
  have hw : ¬ Region.wanted o (yielded ops a.tmps) = true := by
    rcases ht with ht | ht
    · simp [Region.wanted, hg, yielded_tmps hd, ht]
    · have hu : yielded ops a.tmps g = none := by rw [yielded_tmps hd, ht]; rfl
      simp [Region.wanted, hg, hu]
  unfold wpQuiet
  rw [if_neg hw]
  exact hn
theorem wpC_region {id : Nat} {R : Exit → Act → World → Prop} {a : Act} {w : World} {l : List Oper} (C : World → Prop) (hm : P.follows .mixedOrders = true) (hB : Region.lexB .any l.toArray = true) (hC : C w.drew)
    (h : ∀ (OPS : Array Oper) (D : World → Prop) (QQ : Act → Prop), Hid (OPS = l.toArray) → (∀ W, D W → C W) → (∀ W, C W → D W) → (∀ a', (∀ w', C w' → R .normal a' w') → QQ a') → wpQuiet P OPS D QQ l a) : (Code.region id l.toArray true).wp P R a w :=
  wp_region_quiet (C := C) hm hB hC (by simpa using h l.toArray C (fun a' => ∀ w', C w' → R .normal a' w') rfl (fun _ h => h) (fun _ h => h) (fun _ h => h))
end
theorem geqS (t : TypeId) (a b : List UInt8) : binOp .geq t (.string ⟨a.toArray⟩) (.string ⟨b.toArray⟩) = pure (.bool !(Op.bytesLess a b)) := by simp [binOp, Op.stringOp, ByteArray.toList_eq]
theorem lssS (t : TypeId) (a b : List UInt8) : binOp .lss t (.string ⟨a.toArray⟩) (.string ⟨b.toArray⟩) = pure (.bool (Op.bytesLess a b)) := by simp [binOp, Op.stringOp, ByteArray.toList_eq]
theorem leqS (t : TypeId) (a b : List UInt8) : binOp .leq t (.string ⟨a.toArray⟩) (.string ⟨b.toArray⟩) = pure (.bool (Op.bytesLess a b || a == b)) := by simp [binOp, Op.stringOp, ByteArray.toList_eq]
theorem gtrS (t : TypeId) (a b : List UInt8) : binOp .gtr t (.string ⟨a.toArray⟩) (.string ⟨b.toArray⟩) = pure (.bool !(Op.bytesLess a b || a == b)) := by simp [binOp, Op.stringOp, ByteArray.toList_eq]
end Go.Proofs.Ythfjfkjlgdnohaa
