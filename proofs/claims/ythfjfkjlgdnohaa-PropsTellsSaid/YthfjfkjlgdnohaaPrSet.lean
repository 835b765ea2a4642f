/-
  props.Set, props.Unset, by their contracts.
-/
import Derived.Test.YthfjfkjlgdnohaaCmpS
import Derived.Test.YthfjfkjlgdnohaaPrClone
import Derived.Test.YthfjfkjlgdnohaaPrIns
import Derived.Test.YthfjfkjlgdnohaaPrDel
import Derived.Test.YthfjfkjlgdnohaaPrSearch
import Derived.Test.YthfjfkjlgdnohaaPrOver
namespace Go.Proofs.Ythfjfkjlgdnohaa
open Go.RowKit

def cfN (nm : BS) : BS × BS → Int := fun x => cmpS x.1 nm
theorem cfN_asc (l : PL) (h : SortP l) (nm : BS) : SignAsc (cfN nm) l := by
  intro i j x y hij hx hy hlt
  unfold cfN at hlt ⊢
  rw [cmpS_neg] at hlt ⊢
  obtain ⟨hi, hxi⟩ := List.getElem?_eq_some_iff.1 hx
  obtain ⟨hj, hyj⟩ := List.getElem?_eq_some_iff.1 hy
  have := List.pairwise_iff_getElem.1 h i j hi hj hij
  rw [hxi, hyj] at this
  exact bl_trans this hlt
theorem posF_cons {α : Type} (cf : α → Int) (x : α) (l : List α) : posF cf (x :: l) = if cf x < 0 then posF cf l + 1 else 0 := by
  unfold posF
  rw [List.takeWhile_cons]
  by_cases h : cf x < 0
  · rw [if_pos (by simpa using h), if_pos h]; rfl
  · rw [if_neg (by simpa using h), if_neg h]; rfl
theorem atF_cons {α : Type} (cf : α → Int) (x : α) (l : List α) : atF cf (x :: l) = if cf x < 0 then atF cf l else cf x == 0 := by
  unfold atF
  rw [posF_cons]
  by_cases h : cf x < 0
  · rw [if_pos h, if_pos h]; rfl
  · rw [if_neg h, if_neg h]; rfl
theorem putP_split (p : BS × BS) (l : PL) : SortP l → putP p l = l.take (posF (cfN p.1) l) ++ [p] ++ l.drop (posF (cfN p.1) l + if atF (cfN p.1) l = true then 1 else 0) := by
  induction l with
  | nil => intro _; rfl
  | cons x l ih =>
    intro hs
    obtain ⟨h1, h2⟩ := List.pairwise_cons.1 hs
    rw [posF_cons, atF_cons]
    unfold putP
    by_cases hn : cfN p.1 x < 0
    · have hb : Op.bytesLess x.1 p.1 = true := (cmpS_neg _ _).1 hn
      have hnb : ¬ Op.bytesLess p.1 x.1 = true := fun h => by
        have := bl_trans hb h
        rw [bl_irrefl] at this
        cases this
      rw [if_neg hnb, if_neg (fun e => bl_ne hb e.symm), if_pos hn, if_pos hn, ih h2, Nat.add_right_comm]
      rfl
    · rw [if_neg hn, if_neg hn]
      by_cases hz : x.1 = p.1
      · have hz0 : (cfN p.1 x == 0) = true := by rw [beq_iff_eq]; exact (cmpS_zero _ _).2 hz
        rw [if_neg (by rw [hz, bl_irrefl]; simp), if_pos hz.symm, hz0]
        rfl
      · have hz0 : (cfN p.1 x == 0) = false := by rw [beq_eq_false_iff_ne]; exact fun e => hz ((cmpS_zero _ _).1 e)
        have hb : Op.bytesLess p.1 x.1 = true := by
          refine bl_tri x.1 p.1 ?_ hz
          rw [← Bool.not_eq_true]
          exact fun h => hn ((cmpS_neg _ _).2 h)
        rw [if_pos hb, hz0]
        rfl
theorem atF_get (l : PL) (nm : BS) (hs : SortP l) : atF (cfN nm) l = (getP l nm).isSome := by
  induction l with
  | nil => rfl
  | cons x l ih =>
    obtain ⟨h1, h2⟩ := List.pairwise_cons.1 hs
    rw [atF_cons, getP_cons]
    by_cases hn : cfN nm x < 0
    · have hb : Op.bytesLess x.1 nm = true := (cmpS_neg _ _).1 hn
      rw [if_pos hn, if_neg (bl_ne hb), ih h2]
    · rw [if_neg hn]
      by_cases hz : x.1 = nm
      · rw [if_pos hz]
        show _ = true
        rw [beq_iff_eq]
        exact (cmpS_zero _ _).2 hz
      · rw [if_neg hz]
        have hb : Op.bytesLess nm x.1 = true := by
          refine bl_tri x.1 nm ?_ hz
          rw [← Bool.not_eq_true]
          exact fun h => hn ((cmpS_neg _ _).2 h)
        rw [getP_small (fun y hy => bl_trans hb (h1 y hy))]
        show _ = false
        rw [beq_eq_false_iff_ne]
        exact fun e => hz ((cmpS_zero _ _).1 e)
def dropP (nm : BS) (l : PL) : PL := l.filter fun x => !(x.1 == nm)
theorem dropP_split (nm : BS) (l : PL) : SortP l → atF (cfN nm) l = true → dropP nm l = l.take (posF (cfN nm) l) ++ l.drop (posF (cfN nm) l + 1) := by
  induction l with
  | nil => intro _ h; cases h
  | cons x l ih =>
    intro hs hat
    obtain ⟨h1, h2⟩ := List.pairwise_cons.1 hs
    rw [atF_cons] at hat
    rw [posF_cons]
    unfold dropP
    by_cases hn : cfN nm x < 0
    · have hb : Op.bytesLess x.1 nm = true := (cmpS_neg _ _).1 hn
      rw [if_pos hn] at hat
      rw [if_pos hn, List.filter_cons_of_pos (by simpa using bl_ne hb)]
      show x :: dropP nm l = _
      rw [ih h2 hat]
      rfl
    · rw [if_neg hn, beq_iff_eq] at hat
      have hx : x.1 = nm := (cmpS_zero _ _).1 hat
      rw [if_neg hn, List.filter_cons_of_neg (by simp [hx])]
      show dropP nm l = l
      unfold dropP
      rw [List.filter_eq_self]
      intro y hy
      have := bl_ne (h1 y hy)
      rw [hx] at this
      simpa using this.symm
theorem byP_any (x v nm : BS) (w : World) : Calls Try.prog 79 #[.agg #[.string ⟨x.toArray⟩, .string ⟨v.toArray⟩], .string ⟨nm.toArray⟩] w fun e w' => e = .returned (.int .i64 (cmpS x nm)) ∧ Below w.heap.size w w' := by
  have hb0 := (Below.refl w.heap.size w).alloc (Nat.le_refl _) (.cells #[.string ⟨x.toArray⟩, .string ⟨v.toArray⟩] 99)
  have hc := (Blk.new w 99 #[.string ⟨x.toArray⟩, .string ⟨v.toArray⟩]).cell 0
  go_enter Try.func79, Try.ntmps79
  go_wp2_with fail
  refine (compareS_any x nm _).mono ?_
  rintro e w2 ⟨rfl, q, rfl⟩
  go_wp2_with fail
  go_ret
  exact ⟨rfl, below_drewN hb0 q⟩
def setE (l : PL) (nm tx : BS) : Int := if propsB l = true then (if nameB nm = true then (if valB tx = true then (if (getP l nm).isSome = false ∧ l.length = 8 then 3 else 0) else 9) else 31) else 9
def PPost (w : World) (F : PL) (E : Int) (e : Ending) (w' : World) : Prop :=
  ∃ v, e = .returned (.tuple #[v, .int .i64 E]) ∧ (if E = 0 then w'.ownsRow w.heap.size 99 2 v F.length (pcells F) else v = .slice none 0 0) ∧ Below w.heap.size w w'
theorem pcells_K (l : PL) : pcells l = cellsK (fun x : BS × BS => [strV x.1, strV x.2]) l := rfl
theorem pcells_take (l : PL) (k : Nat) : pcells (l.take k) = (pcells l).take (k * 2) := cellsK_take (enc := fun x : BS × BS => [strV x.1, strV x.2]) (fun _ => rfl) l k
theorem pcells_drop (l : PL) (k : Nat) : pcells (l.drop k) = (pcells l).drop (k * 2) := cellsK_drop (enc := fun x : BS × BS => [strV x.1, strV x.2]) (fun _ => rfl) l k
end Go.Proofs.Ythfjfkjlgdnohaa
