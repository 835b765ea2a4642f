/-
  props.Set, props.Unset, by their contracts.
-/
import Derived.Test.YthfjfkjlgdnohaaZ4
import Derived.Test.YthfjfkjlgdnohaaZ5
import Derived.Test.YthfjfkjlgdnohaaZ6
import Derived.Test.YthfjfkjlgdnohaaZ7
import Derived.Test.YthfjfkjlgdnohaaZ8
namespace Go.Proofs.Ythfjfkjlgdnohaa
open Go.RowKit

def cfN (nm : BS) : BS × BS → Int := fun x => cmpS x.1 nm
theorem cfN_asc (l : PL) (h : SortP l) (nm : BS) : SignAsc (cfN nm) l := by
  intro i j x y hij hx hy hlt
  unfold cfN at hlt ⊢
  rw [cmpS_neg] at hlt ⊢
  obtain ⟨hi, hxi⟩ := List.getElem?_eq_some_iff.1 hx
  obtain ⟨hj, hyj⟩ := List.getElem?_eq_some_iff.1 hy
  have := List.pairwise_iff_getElem.1 h i j hi hj hij
  rw [hxi, hyj] at this
  exact bl_trans this hlt
theorem posF_cons {α : Type} (cf : α → Int) (x : α) (l : List α) : posF cf (x :: l) = if cf x < 0 then posF cf l + 1 else 0 := by
  unfold posF
  rw [List.takeWhile_cons]
  by_cases h : cf x < 0
  · rw [if_pos (by simpa using h), if_pos h]; rfl
  · rw [if_neg (by simpa using h), if_neg h]; rfl
theorem atF_cons {α : Type} (cf : α → Int) (x : α) (l : List α) : atF cf (x :: l) = if cf x < 0 then atF cf l else cf x == 0 := by
  unfold atF
  rw [posF_cons]
  by_cases h : cf x < 0
  · rw [if_pos h, if_pos h]; rfl
  · rw [if_neg h, if_neg h]; rfl
theorem putP_split (p : BS × BS) (l : PL) : SortP l → putP p l = l.take (posF (cfN p.1) l) ++ [p] ++ l.drop (posF (cfN p.1) l + if atF (cfN p.1) l = true then 1 else 0) := by
  induction l with
  | nil => intro _; rfl
  | cons x l ih =>
    intro hs
    obtain ⟨h1, h2⟩ := List.pairwise_cons.1 hs
    rw [posF_cons, atF_cons]
    unfold putP
    by_cases hn : cfN p.1 x < 0
    · have hb : Op.bytesLess x.1 p.1 = true := (cmpS_neg _ _).1 hn
      have hnb : ¬ Op.bytesLess p.1 x.1 = true := fun h => by
        have := bl_trans hb h
        rw [bl_irrefl] at this
        cases this
      rw [if_neg hnb, if_neg (fun e => bl_ne hb e.symm), if_pos hn, if_pos hn, ih h2, Nat.add_right_comm]
      rfl
    · rw [if_neg hn, if_neg hn]
      by_cases hz : x.1 = p.1
      · have hz0 : (cfN p.1 x == 0) = true := by rw [beq_iff_eq]; exact (cmpS_zero _ _).2 hz
        rw [if_neg (by rw [hz, bl_irrefl]; simp), if_pos hz.symm, hz0]
        rfl
      · have hz0 : (cfN p.1 x == 0) = false := by rw [beq_eq_false_iff_ne]; exact fun e => hz ((cmpS_zero _ _).1 e)
        have hb : Op.bytesLess p.1 x.1 = true := by
          refine bl_tri x.1 p.1 ?_ hz
          rw [← Bool.not_eq_true]
          exact fun h => hn ((cmpS_neg _ _).2 h)
        rw [if_pos hb, hz0]
        rfl
theorem atF_get (l : PL) (nm : BS) (hs : SortP l) : atF (cfN nm) l = (getP l nm).isSome := by
  induction l with
  | nil => rfl
  | cons x l ih =>
    obtain ⟨h1, h2⟩ := List.pairwise_cons.1 hs
    rw [atF_cons, getP_cons]
    by_cases hn : cfN nm x < 0
    · have hb : Op.bytesLess x.1 nm = true := (cmpS_neg _ _).1 hn
      rw [if_pos hn, if_neg (bl_ne hb), ih h2]
    · rw [if_neg hn]
      by_cases hz : x.1 = nm
      · rw [if_pos hz]
        show _ = true
        rw [beq_iff_eq]
        exact (cmpS_zero _ _).2 hz
      · rw [if_neg hz]
        have hb : Op.bytesLess nm x.1 = true := by
          refine bl_tri x.1 nm ?_ hz
          rw [← Bool.not_eq_true]
          exact fun h => hn ((cmpS_neg _ _).2 h)
        rw [getP_small (fun y hy => bl_trans hb (h1 y hy))]
        show _ = false
        rw [beq_eq_false_iff_ne]
        exact fun e => hz ((cmpS_zero _ _).1 e)
def dropP (nm : BS) (l : PL) : PL := l.filter fun x => !(x.1 == nm)
theorem dropP_split (nm : BS) (l : PL) : SortP l → atF (cfN nm) l = true → dropP nm l = l.take (posF (cfN nm) l) ++ l.drop (posF (cfN nm) l + 1) := by
  induction l with
  | nil => intro _ h; cases h
  | cons x l ih =>
    intro hs hat
    obtain ⟨h1, h2⟩ := List.pairwise_cons.1 hs
    rw [atF_cons] at hat
    rw [posF_cons]
    unfold dropP
    by_cases hn : cfN nm x < 0
    · have hb : Op.bytesLess x.1 nm = true := (cmpS_neg _ _).1 hn
      rw [if_pos hn] at hat
      rw [if_pos hn, List.filter_cons_of_pos (by simpa using bl_ne hb)]
      show x :: dropP nm l = _
      rw [ih h2 hat]
      rfl
    · rw [if_neg hn, beq_iff_eq] at hat
      have hx : x.1 = nm := (cmpS_zero _ _).1 hat
      rw [if_neg hn, List.filter_cons_of_neg (by simp [hx])]
      show dropP nm l = l
      unfold dropP
      rw [List.filter_eq_self]
      intro y hy
      have := bl_ne (h1 y hy)
      rw [hx] at this
      simpa using this.symm
theorem byP_any (x v nm : BS) (w : World) : Calls Try.prog 79 #[.agg #[.string ⟨x.toArray⟩, .string ⟨v.toArray⟩], .string ⟨nm.toArray⟩] w fun e w' => e = .returned (.int .i64 (cmpS x nm)) ∧ Below w.heap.size w w' := by
  have hb0 := (Below.refl w.heap.size w).alloc (Nat.le_refl _) (.cells #[.string ⟨x.toArray⟩, .string ⟨v.toArray⟩] 99)
  have hc := (Blk.new w 99 #[.string ⟨x.toArray⟩, .string ⟨v.toArray⟩]).cell 0
  go_enter Try.func79, Try.ntmps79
  go_wp2_with fail
  refine (compareS_any x nm _).mono ?_
  rintro e w2 ⟨rfl, q, rfl⟩
  go_wp2_with fail
  go_ret
  exact ⟨rfl, below_drewN hb0 q⟩
def setE (l : PL) (nm tx : BS) : Int := if propsB l = true then (if nameB nm = true then (if valB tx = true then (if (getP l nm).isSome = false ∧ l.length = 8 then 3 else 0) else 9) else 31) else 9
def PPost (w : World) (F : PL) (E : Int) (e : Ending) (w' : World) : Prop :=
  ∃ v, e = .returned (.tuple #[v, .int .i64 E]) ∧ (if E = 0 then w'.ownsRow w.heap.size 99 2 v F.length (pcells F) else v = .slice none 0 0) ∧ Below w.heap.size w w'
theorem pcells_K (l : PL) : pcells l = cellsK (fun x : BS × BS => [strV x.1, strV x.2]) l := rfl
theorem pcells_take (l : PL) (k : Nat) : pcells (l.take k) = (pcells l).take (k * 2) := cellsK_take (enc := fun x : BS × BS => [strV x.1, strV x.2]) (fun _ => rfl) l k
theorem pcells_drop (l : PL) (k : Nat) : pcells (l.drop k) = (pcells l).drop (k * 2) := cellsK_drop (enc := fun x : BS × BS => [strV x.1, strV x.2]) (fun _ => rfl) l k
end Go.Proofs.Ythfjfkjlgdnohaa

/-
  props.Set, props.Unset, walked.
-/
namespace Go.Proofs.Ythfjfkjlgdnohaa
open Go.RowKit

theorem set_atP (l : PL) (p : Nat) (nm tx : BS) (h : (l[p]?).any (fun x => cfN nm x == 0) = true) : (pcells l).set (p * 2 + 1) (.string ⟨tx.toArray⟩) = pcells (l.take p ++ [(nm, tx)] ++ l.drop (p + 1)) := by
  cases hp : l[p]? with
  | none => rw [hp] at h; simp at h
  | some x =>
    rw [hp] at h
    have hx : x.1 = nm := (cmpS_zero _ _).1 (by simpa [cfN] using h)
    obtain ⟨hlt, hpx⟩ := List.getElem?_eq_some_iff.1 hp
    have hl : l = l.take p ++ [x] ++ l.drop (p + 1) := by
      conv => lhs; rw [← List.take_append_drop p l]
      rw [List.drop_eq_getElem_cons hlt, hpx]
      simp
    conv => lhs; rw [hl]
    rw [pcells_append, pcells_append, pcells_append, pcells_append, List.append_assoc, List.append_assoc]
    rw [List.set_append_right _ _ (by rw [pcells_length, List.length_take]; omega), pcells_length, List.length_take, Nat.min_eq_left (by omega), show p * 2 + 1 - p * 2 = 1 by omega]
    subst hx
    rfl

set_option maxRecDepth 100000 in
set_option maxHeartbeats 2000000 in
theorem set_any (l : PL) (n : Nat) (hnl : n = l.length) (A : Option Addr) (c : Nat) (nm tx : BS) (w : World) (B : Nat) (hr : Reads w B 2 A n (pcells l)) (hB : B ≤ w.heap.size) (hn : n ≤ 4398046511104) (hv : ∀ x ∈ l, x.2.length ≤ 140737488351232) (htx : tx.length ≤ 140737488351232) :
    Calls Try.prog 43 #[.slice A n c, .string ⟨nm.toArray⟩, .string ⟨tx.toArray⟩] w (PPost w (putP (nm, tx) l) (setE l nm tx)) := by
  have hck := checkP_any l n hnl A c w B hr hB (by omega) hv
  have hNM := fun W => name_any ⟨nm.toArray⟩ W
  have hVA := fun W => value_any ⟨tx.toArray⟩ W (by show tx.length ≤ _; exact htx)
  simp only [] at hNM hVA
  by_cases hok : propsB l = true
  · have h1 : propsE l = 0 := by unfold propsE; rw [if_pos hok]
    rw [h1] at hck
    have hso := propsB_sort l hok
    have hsr := fun w' (hb : Below w.heap.size w w') => searchP_any (fun x : BS × BS => .string ⟨x.1.toArray⟩) (fun x => .string ⟨x.2.toArray⟩) (cfN nm) l (cfN_asc l hso nm) n hnl A c (.string ⟨nm.toArray⟩) w' B (hr.below (hb.mono hB)) (by have := hb.size; omega) (by omega) (fun x W _ => byP_any x.1 x.2 nm W)
    have hp := posF_le (cfN nm) l
    have hag := atF_get l nm hso
    have hpl := putP_split (nm, tx) l hso
    simp only [] at hpl
    obtain ⟨p, hpp⟩ : ∃ p, p = posF (cfN nm) l := ⟨_, rfl⟩
    obtain ⟨t, htt⟩ : ∃ t, t = atF (cfN nm) l := ⟨_, rfl⟩
    have hat : t = (l[p]?).any (fun x => cfN nm x == 0) := by rw [htt, hpp]; rfl
    rw [← hpp] at hp
    rw [← hpp, ← htt] at hsr hpl
    rw [← htt] at hag
    have hpn : p ≤ n := by omega
    have HN := Lib.hid hnl
    have HAT := Lib.hid hat
    have HAG := Lib.hid hag
    have HPL := Lib.hid hpl
    have HOK := Lib.hid hok
    have HCK := Lib.hid hck
    have HSR := Lib.hid hsr
    have HVA := Lib.hid hVA
    clear hpp htt hpl hat hnl h1 hok hp hag hso hck hsr hVA hv
    cases hnb : nameB nm with
    | false =>
      have HPE : Hid (setE l nm tx = 31) := by show _ = _; unfold setE; rw [if_pos HOK.out, if_neg (by rw [hnb]; simp)]
      rw [hnb] at hNM
      clear hnb hr
      go_enter Try.func43, Try.ntmps43
      go_wp2_with fail
      refine HCK.out.mono ?_
      rintro e w1 ⟨rfl, hb1⟩
      go_wp2_with fail
      refine (HSR.out w1 hb1).mono ?_
      rintro e w2 ⟨rfl, hb2⟩
      have hb12 := hb1.trans (hb2.mono hb1.size)
      clear hb1 hb2
      go_wp2_with fail
      refine (hNM w2).mono ?_
      rintro e w3 ⟨rfl, hb3⟩
      have hb13 := hb12.trans (hb3.mono hb12.size)
      go_wp2_with fail
      go_ret2
      refine ⟨_, by rw [HPE.out]; rfl, ?_, hb13⟩
      rw [HPE.out, if_neg (by decide)]; rfl
    | true =>
      rw [hnb] at hNM
      have HNB := Lib.hid hnb
      cases hvb : valB tx with
      | false =>
        have HPE : Hid (setE l nm tx = 9) := by show _ = _; unfold setE; rw [if_pos HOK.out, if_pos HNB.out, if_neg (by rw [hvb]; simp)]
        have hVA := HVA.out
        rw [hvb] at hVA
        clear hvb hnb hr
        go_enter Try.func43, Try.ntmps43
        go_wp2_with fail
        refine HCK.out.mono ?_
        rintro e w1 ⟨rfl, hb1⟩
        go_wp2_with fail
        refine (HSR.out w1 hb1).mono ?_
        rintro e w2 ⟨rfl, hb2⟩
        have hb12 := hb1.trans (hb2.mono hb1.size)
        clear hb1 hb2
        go_wp2_with fail
        refine (hNM w2).mono ?_
        rintro e w3 ⟨rfl, hb3⟩
        have hb13 := hb12.trans (hb3.mono hb12.size)
        clear hb3 hb12
        go_wp2_with fail
        refine (hVA w3).mono ?_
        rintro e w4 ⟨rfl, hb4⟩
        have hb14 := hb13.trans (hb4.mono hb13.size)
        clear hb4 hb13
        go_wp2_with fail
        go_ret2
        refine ⟨_, by rw [HPE.out]; rfl, ?_, hb14⟩
        rw [HPE.out, if_neg (by decide)]; rfl
      | true =>
        have hVA := HVA.out
        rw [hvb] at hVA
        have HVB := Lib.hid hvb
        have hcl := fun w' (hb : Below w.heap.size w w') => cloneP_any (pcells l) n A c w' B (hr.below (hb.mono hB)) (by have := hb.size; omega) (pcells_one l) (by omega)
        have HCL := Lib.hid hcl
        clear hvb hnb hr hcl HVA
        cases t with
        | true =>
          have HPE : Hid (setE l nm tx = 0) := by show _ = _; unfold setE; rw [if_pos HOK.out, if_pos HNB.out, if_pos HVB.out, if_neg (by rw [← HAG.out]; simp)]
          have HLL : Hid ((putP (nm, tx) l).length = n ∧ p < n) := by
            have hlt : p < l.length := by
              rcases Nat.lt_or_ge p l.length with h | h
              · exact h
              · have := HAT.out; rw [List.getElem?_eq_none h] at this; cases this
            refine ⟨?_, by rw [HN.out]; exact hlt⟩
            rw [HPL.out, if_pos rfl]
            simp only [List.length_append, List.length_take, List.length_drop, List.length_cons, List.length_nil]
            have := HN.out; omega
          go_enter Try.func43, Try.ntmps43
          go_wp2_with fail
          refine HCK.out.mono ?_
          rintro e w1 ⟨rfl, hb1⟩
          go_wp2_with fail
          refine (HSR.out w1 hb1).mono ?_
          rintro e w2 ⟨rfl, hb2⟩
          have hb12 := hb1.trans (hb2.mono hb1.size)
          clear hb1 hb2
          go_wp2_with fail
          refine (hNM w2).mono ?_
          rintro e w3 ⟨rfl, hb3⟩
          have hb13 := hb12.trans (hb3.mono hb12.size)
          clear hb3 hb12
          go_wp2_with fail
          refine (hVA w3).mono ?_
          rintro e w4 ⟨rfl, hb4⟩
          have hb14 := hb13.trans (hb4.mono hb13.size)
          clear hb4 hb13
          go_wp2_with fail
          refine (HCL.out w4 hb14).mono ?_
          rintro e w5 ⟨v5, rfl, hown, hb5⟩
          have hbb := hb14.trans (hb5.mono hb14.size)
          have hsz := hb14.size
          have hsz5 : w4.heap.size ≤ w5.heap.size := hb5.size
          clear hb14 hb5 HCL HCK HSR hNM hVA
          have hpn' : p < n := HLL.out.2
          rcases hown.2 with ⟨_, h0⟩ | ⟨g, cap, cur, rfl, hbg, _, _, _, _, _⟩
          · omega
          · have hst := hown.stored (p * 2 + 1) (.string ⟨tx.toArray⟩)
            have hl := HAT.out
            rw [set_atP l p nm tx hl.symm] at hst
            have hcell := (hown.cellAt (p * 2 + 1) (by omega)).trans (pcells_get l p (by have := HN.out; omega)).2
            generalize (l[p]'(by have := HN.out; omega)).2 = old at hcell
            have hfz := hown.frozenAt (p * 2 + 1)
            have hpi : (p : Int) < (n : Int) := by omega
            have HST := Lib.hid hst
            simp only [strV] at hcell
            clear hl hst
            go_wp2_with fail
            go_ret2
            refine ⟨_, by rw [HPE.out]; rfl, ?_, hbb.setCell (by show _ ≤ g; omega) _⟩
            rw [if_pos HPE.out, HLL.out.1, HPL.out, if_pos trivial]
            exact own_mono HST.out.1 hsz
        | false =>
          by_cases h8 : n = 8
          · have HPE : Hid (setE l nm tx = 3) := by show _ = _; unfold setE; rw [if_pos HOK.out, if_pos HNB.out, if_pos HVB.out, if_pos ⟨HAG.out.symm, by rw [← HN.out]; exact h8⟩]
            have h8a : ((n : Int) == 8) = true := by simp [h8]
            clear h8
            go_enter Try.func43, Try.ntmps43
            go_wp2_with fail
            refine HCK.out.mono ?_
            rintro e w1 ⟨rfl, hb1⟩
            go_wp2_with fail
            refine (HSR.out w1 hb1).mono ?_
            rintro e w2 ⟨rfl, hb2⟩
            have hb12 := hb1.trans (hb2.mono hb1.size)
            clear hb1 hb2
            go_wp2_with fail
            refine (hNM w2).mono ?_
            rintro e w3 ⟨rfl, hb3⟩
            have hb13 := hb12.trans (hb3.mono hb12.size)
            clear hb3 hb12
            go_wp2_with fail
            refine (hVA w3).mono ?_
            rintro e w4 ⟨rfl, hb4⟩
            have hb14 := hb13.trans (hb4.mono hb13.size)
            clear hb4 hb13
            go_wp2_with fail
            go_ret2
            refine ⟨_, by rw [HPE.out]; rfl, ?_, hb14⟩
            rw [HPE.out, if_neg (by decide)]; rfl
          · have HPE : Hid (setE l nm tx = 0) := by show _ = _; unfold setE; rw [if_pos HOK.out, if_pos HNB.out, if_pos HVB.out, if_neg (by rw [← HN.out]; exact fun h => h8 h.2)]
            have h8a : ((n : Int) == 8) = false := by simp; omega
            have HLL : Hid ((putP (nm, tx) l).length = n + 1) := by
              show _ = _
              rw [HPL.out, if_neg (by simp)]
              simp only [List.length_append, List.length_take, List.length_drop, List.length_cons, List.length_nil]
              have := HN.out; omega
            clear h8
            go_enter Try.func43, Try.ntmps43
            go_wp2_with fail
            refine HCK.out.mono ?_
            rintro e w1 ⟨rfl, hb1⟩
            go_wp2_with fail
            refine (HSR.out w1 hb1).mono ?_
            rintro e w2 ⟨rfl, hb2⟩
            have hb12 := hb1.trans (hb2.mono hb1.size)
            clear hb1 hb2
            go_wp2_with fail
            refine (hNM w2).mono ?_
            rintro e w3 ⟨rfl, hb3⟩
            have hb13 := hb12.trans (hb3.mono hb12.size)
            clear hb3 hb12
            go_wp2_with fail
            refine (hVA w3).mono ?_
            rintro e w4 ⟨rfl, hb4⟩
            have hb14 := hb13.trans (hb4.mono hb13.size)
            clear hb4 hb13
            go_wp2_with fail
            refine (HCL.out w4 hb14).mono ?_
            rintro e w5 ⟨v5, rfl, hown, hb5⟩
            have hbb := hb14.trans (hb5.mono hb14.size)
            have hsz := hb14.size
            have hsz5 : w4.heap.size ≤ w5.heap.size := hb5.size
            clear hb14 hb5 HCL HCK HSR hNM hVA
            obtain ⟨A3, c3, rfl, _, _, _⟩ := own_form hown
            have hown4 := hown.alloc (.cells #[.string ⟨nm.toArray⟩, .string ⟨tx.toArray⟩] 99)
            have hnew := Blk.new w5 99 #[.string ⟨nm.toArray⟩, .string ⟨tx.toArray⟩]
            have hins := insP_any #[.string ⟨nm.toArray⟩, .string ⟨tx.toArray⟩] rfl (by simp [Value.oneCell']) (pcells l) (pcells_one l) w5.heap.size 99 _ n p A3 c3 _ hpn hown4 (by show w4.heap.size ≤ _; simp; omega) (by have := (propsB_small l HOK.out).1; have := HN.out; omega) hnew (fun e => by have := (hown.lt _ e).2; omega)
            have HLT := Lib.hid (fun k hk => (hown4.lt k hk).1)
            have HB2 := Lib.hid (hbb.alloc (by omega) (.cells #[.string ⟨nm.toArray⟩, .string ⟨tx.toArray⟩] 99))
            clear hown4 hnew hown
            go_wp2_with fail
            refine hins.mono ?_
            clear hins
            rintro e w6 ⟨v6, rfl, hown5, hg⟩
            have HO := Lib.hid hown5
            have HG := Lib.hid hg
            clear hown5 hg
            go_wp2_with fail
            go_ret2
            refine ⟨v6, by rw [HPE.out]; rfl, ?_, HB2.out.grown HG.out (by simp; omega) (fun k hk => by have := HLT.out k hk; omega)⟩
            rw [if_pos HPE.out, HLL.out, HPL.out, if_neg (by simp), pcells_append, pcells_append, pcells_take, pcells_drop]
            exact own_mono HO.out hsz
  · have h1 : propsE l = 9 := by unfold propsE; rw [if_neg hok]
    rw [h1] at hck
    have HPE : Hid (setE l nm tx = 9) := by show _ = _; unfold setE; rw [if_neg hok]
    clear hok h1 hnl hr hVA hNM hv
    go_enter Try.func43, Try.ntmps43
    go_wp2_with fail
    refine hck.mono ?_
    clear hck
    rintro e w1 ⟨rfl, hb1⟩
    go_wp2_with fail
    go_ret2
    refine ⟨_, by rw [HPE.out]; rfl, ?_, hb1⟩
    rw [HPE.out, if_neg (by decide)]; rfl

def unsetE (l : PL) (nm : BS) : Int := if propsB l = true then (if (getP l nm).isSome = true then 0 else 71) else 9
set_option maxRecDepth 100000 in
set_option maxHeartbeats 2000000 in
theorem unset_any (l : PL) (n : Nat) (hnl : n = l.length) (A : Option Addr) (c : Nat) (nm : BS) (w : World) (B : Nat) (hr : Reads w B 2 A n (pcells l)) (hB : B ≤ w.heap.size) (hn : n ≤ 4398046511104) (hv : ∀ x ∈ l, x.2.length ≤ 140737488351232) :
    Calls Try.prog 45 #[.slice A n c, .string ⟨nm.toArray⟩] w (PPost w (dropP nm l) (unsetE l nm)) := by
  have hck := checkP_any l n hnl A c w B hr hB (by omega) hv
  by_cases hok : propsB l = true
  · have h1 : propsE l = 0 := by unfold propsE; rw [if_pos hok]
    rw [h1] at hck
    have hso := propsB_sort l hok
    have hsr := fun w' (hb : Below w.heap.size w w') => searchP_any (fun x : BS × BS => .string ⟨x.1.toArray⟩) (fun x => .string ⟨x.2.toArray⟩) (cfN nm) l (cfN_asc l hso nm) n hnl A c (.string ⟨nm.toArray⟩) w' B (hr.below (hb.mono hB)) (by have := hb.size; omega) (by omega) (fun x W _ => byP_any x.1 x.2 nm W)
    have hp := posF_le (cfN nm) l
    have hag := atF_get l nm hso
    have hpl := dropP_split nm l hso
    obtain ⟨p, hpp⟩ : ∃ p, p = posF (cfN nm) l := ⟨_, rfl⟩
    obtain ⟨t, htt⟩ : ∃ t, t = atF (cfN nm) l := ⟨_, rfl⟩
    have hat : t = (l[p]?).any (fun x => cfN nm x == 0) := by rw [htt, hpp]; rfl
    rw [← hpp] at hp
    rw [← hpp, ← htt] at hsr hpl
    rw [← htt] at hag
    have HN := Lib.hid hnl
    have HAT := Lib.hid hat
    have HAG := Lib.hid hag
    have HPL := Lib.hid hpl
    have HOK := Lib.hid hok
    have HCK := Lib.hid hck
    have HSR := Lib.hid hsr
    have hcl := fun w' (hb : Below w.heap.size w w') => cloneP_any (pcells l) n A c w' B (hr.below (hb.mono hB)) (by have := hb.size; omega) (pcells_one l) (by omega)
    have HCL := Lib.hid hcl
    clear hpp htt hpl hat hnl h1 hok hp hag hso hck hsr hv hcl hr
    cases t with
    | true =>
      have HPE : Hid (unsetE l nm = 0) := by show _ = _; unfold unsetE; rw [if_pos HOK.out, if_pos HAG.out.symm]
      have HLL : Hid ((dropP nm l).length = n - 1 ∧ p < n) := by
        have hlt : p < l.length := by
          rcases Nat.lt_or_ge p l.length with h | h
          · exact h
          · have := HAT.out; rw [List.getElem?_eq_none h] at this; cases this
        refine ⟨?_, by rw [HN.out]; exact hlt⟩
        rw [HPL.out rfl]
        simp only [List.length_append, List.length_take, List.length_drop]
        have := HN.out; omega
      go_enter Try.func45, Try.ntmps45
      go_wp2_with fail
      refine HCK.out.mono ?_
      rintro e w1 ⟨rfl, hb1⟩
      go_wp2_with fail
      refine (HSR.out w1 hb1).mono ?_
      rintro e w2 ⟨rfl, hb2⟩
      have hb12 := hb1.trans (hb2.mono hb1.size)
      clear hb1 hb2
      go_wp2_with fail
      refine (HCL.out w2 hb12).mono ?_
      rintro e w3 ⟨v3, rfl, hown, hb3⟩
      have hbb := hb12.trans (hb3.mono hb12.size)
      have hsz := hb12.size
      have hsz3 : w2.heap.size ≤ w3.heap.size := hb3.size
      clear hb12 hb3 HCL HCK HSR
      obtain ⟨A3, c3, rfl, _, _, _⟩ := own_form hown
      have hpn' : p < n := HLL.out.2
      have hdel := delP_any (pcells l) (pcells_one l) n p c3 _ A3 w3 hpn' (by omega) hown
      have HLT := Lib.hid (fun k hk => (hown.lt k hk).1)
      have HB2 := Lib.hid hbb
      clear hown hbb
      go_wp2_with fail
      refine hdel.mono ?_
      clear hdel
      rintro e w4 ⟨v4, rfl, hown5, hg⟩
      have HO := Lib.hid hown5
      have HG := Lib.hid hg
      clear hown5 hg
      go_wp2_with fail
      go_ret2
      refine ⟨v4, by rw [HPE.out]; rfl, ?_, HB2.out.grown HG.out (by omega) (fun k hk => by have := HLT.out k hk; omega)⟩
      rw [if_pos HPE.out, HLL.out.1, HPL.out (by trivial), pcells_append, pcells_take, pcells_drop]
      exact own_mono HO.out hsz
    | false =>
      have HPE : Hid (unsetE l nm = 71) := by show _ = _; unfold unsetE; rw [if_pos HOK.out, if_neg (by rw [← HAG.out]; simp)]
      go_enter Try.func45, Try.ntmps45
      go_wp2_with fail
      refine HCK.out.mono ?_
      rintro e w1 ⟨rfl, hb1⟩
      go_wp2_with fail
      refine (HSR.out w1 hb1).mono ?_
      rintro e w2 ⟨rfl, hb2⟩
      have hb12 := hb1.trans (hb2.mono hb1.size)
      clear hb1 hb2
      go_wp2_with fail
      go_ret2
      refine ⟨_, by rw [HPE.out]; rfl, ?_, hb12⟩
      rw [HPE.out, if_neg (by decide)]; rfl
  · have h1 : propsE l = 9 := by unfold propsE; rw [if_neg hok]
    rw [h1] at hck
    have HPE : Hid (unsetE l nm = 9) := by show _ = _; unfold unsetE; rw [if_neg hok]
    clear hok h1 hnl hr hv
    go_enter Try.func45, Try.ntmps45
    go_wp2_with fail
    refine hck.mono ?_
    clear hck
    rintro e w1 ⟨rfl, hb1⟩
    go_wp2_with fail
    go_ret2
    refine ⟨_, by rw [HPE.out]; rfl, ?_, hb1⟩
    rw [HPE.out, if_neg (by decide)]; rfl
end Go.Proofs.Ythfjfkjlgdnohaa

/-
  The reference's letter, Name, value, Props: by their contracts.
-/
namespace Go.Proofs.Ythfjfkjlgdnohaa
open Go.RowKit

set_option maxRecDepth 100000 in
theorem letter_any (c : UInt8) (w : World) : Calls Try.prog 109 #[.int .u8 (c.toNat : Int)] w fun e w' => e = .returned (.bool (okB c)) ∧ w' = w := by
  have hc : c.toNat < 256 := c.toNat_lt
  have hk := Lib.hid (okB_iff c)
  go_enter Try.func109, Try.ntmps109
  go_wp2
  all_goals go_ret
  all_goals refine ⟨congrArg Ending.returned (congrArg Value.bool ?_), rfl⟩
  all_goals rw [Bool.eq_iff_iff, hk.out]
  all_goals simp
  all_goals omega
theorem bget (s : ByteArray) (k : Nat) (h : k < s.size) : s.data.toList[k]'h = s[k]'h := rfl
set_option maxRecDepth 100000 in
set_option maxHeartbeats 1000000 in
theorem refName_s (s : ByteArray) (w : World) (hs : s.size ≤ 140737488351232) : Calls Try.prog 76 #[.string s] w fun e w' => e = .returned (.bool (nameB s.data.toList)) ∧ w' = w := by
  have hsz : s.data.toList.length = s.size := (Lib.size_eq s).symm
  go_enter Try.func76, Try.ntmps76
  go_wp2_with fail
  go_loopw [3] (fun i wr => ∃ k : Nat, k ≤ s.size ∧ i = .int .i64 (k : Int) ∧ Hid ((s.data.toList.take k).all okB = true) ∧ wr = w) (fun i _ => s.size - (intOf i).toNat)
  case atStart => exact ⟨0, Nat.zero_le _, rfl, rfl, rfl⟩
  case round =>
    obtain ⟨k, hk, rfl, hok, hww⟩ := hrel
    have hww := hww.symm
    subst hww
    by_cases hlt : k < s.size
    · have hki : (k : Int) < (s.size : Int) := by omega
      have hkl : k < s.data.toList.length := by omega
      have htk := List.take_succ_eq_append_getElem hkl
      have hg := bget s k hlt
      obtain ⟨y, hy⟩ : ∃ y, y = s[k]'hlt := ⟨_, rfl⟩
      rw [hg, ← hy] at htk
      have HT := Lib.hid htk
      have HM := Lib.hid (show y ∈ s.data.toList by rw [hy, ← hg]; exact List.getElem_mem _)
      have hc := letter_any y w
      obtain ⟨b, hb⟩ : ∃ b, b = okB y := ⟨_, rfl⟩
      rw [← hb] at hc
      have HBB := Lib.hid hb
      have hyv : ((s[k]'hlt).toNat : Int) = (y.toNat : Int) := by rw [hy]
      have HSZ := Lib.hid hsz
      clear htk hg hy hb hsz
      go_wp2_with fail
      refine hc.mono ?_
      clear hc
      rintro e w1 ⟨rfl, rfl⟩
      cases b with
      | true =>
        go_wp2_with fail
        go_roundw
        case rel =>
          refine ⟨k + 1, by omega, by go_num, ?_, trivial⟩
          show List.all _ _ = _
          rw [HT.out, List.all_append, hok.out]
          simp [HBB.out.symm]
        case measure => simp [intOf]; omega
      | false =>
        have HN : Hid (nameB s.data.toList = false) := by
          show _ = _
          unfold nameB
          have : s.data.toList.all okB = false := by
            rw [← Bool.not_eq_true, List.all_eq_true]
            intro h
            have := h y HM.out
            rw [← HBB.out] at this
            cases this
          rw [this, Bool.and_false]
        go_wp2_with fail
        go_ret
        exact ⟨by rw [HN.out]; rfl, rfl⟩
    · have HA : Hid (s.data.toList.all okB = true) := by
        show _ = _
        have := hok.out
        rwa [List.take_of_length_le (by omega)] at this
      have HN : Hid (nameB s.data.toList = (!(s.data.toList.isEmpty) && decide (s.data.toList.length ≤ 16))) := by
        show _ = _
        unfold nameB
        rw [HA.out, Bool.and_true]
      have HE : Hid (nameB s.data.toList = true ↔ 1 ≤ s.size ∧ s.size ≤ 16) := by
        show _ ↔ _
        rw [HN.out, Bool.and_eq_true, decide_eq_true_eq, hsz, Bool.not_eq_true']
        constructor
        · rintro ⟨h1, h2⟩
          refine ⟨?_, h2⟩
          rcases Nat.eq_zero_or_pos s.size with h | h
          · rw [← hsz] at h
            rw [List.eq_nil_of_length_eq_zero h] at h1
            cases h1
          · exact h
        · rintro ⟨h1, h2⟩
          refine ⟨?_, h2⟩
          rw [← Bool.not_eq_true, List.isEmpty_iff]
          intro e
          rw [e] at hsz
          simp at hsz
          omega
      clear hsz HA HN hok
      by_cases h1 : 1 ≤ s.size
      · have h1i : (1 : Int) ≤ (s.size : Int) := by omega
        by_cases h2 : s.size ≤ 16
        · have h2i : (s.size : Int) ≤ 16 := by omega
          have HV : Hid (nameB s.data.toList = true) := HE.out.2 ⟨h1, h2⟩
          go_wp2_with fail
          go_ret
          exact ⟨by rw [HV.out]; rfl, rfl⟩
        · have h2i : ¬ (s.size : Int) ≤ 16 := by omega
          have HV : Hid (nameB s.data.toList = false) := by show _ = _; rw [← Bool.not_eq_true, HE.out]; omega
          go_wp2_with fail
          go_ret
          exact ⟨by rw [HV.out]; rfl, rfl⟩
      · have h1i : ¬ (1 : Int) ≤ (s.size : Int) := by omega
        have HV : Hid (nameB s.data.toList = false) := by show _ = _; rw [← Bool.not_eq_true, HE.out]; omega
        go_wp2_with fail
        go_ret
        exact ⟨by rw [HV.out]; rfl, rfl⟩
theorem refName_any (n : BS) (w : World) (hs : n.length ≤ 140737488351232) : Calls Try.prog 76 #[.string ⟨n.toArray⟩] w fun e w' => e = .returned (.bool (nameB n)) ∧ w' = w := by
  have := refName_s ⟨n.toArray⟩ w (by show n.length ≤ _; exact hs)
  simpa using this
set_option maxRecDepth 100000 in
set_option maxHeartbeats 1000000 in
theorem refValue_s (s : ByteArray) (w : World) (hs : s.size ≤ 140737488351232) : Calls Try.prog 77 #[.string s] w fun e w' => e = .returned (.bool (valB s.data.toList)) ∧ w' = w := by
  have hsz : s.data.toList.length = s.size := (Lib.size_eq s).symm
  go_enter Try.func77, Try.ntmps77
  go_wp2_with fail
  go_loopw [3] (fun i wr => ∃ k : Nat, k ≤ s.size ∧ i = .int .i64 (k : Int) ∧ Hid (∀ c ∈ s.data.toList.take k, 32 ≤ c.toNat ∧ c.toNat ≤ 126) ∧ wr = w) (fun i _ => s.size - (intOf i).toNat)
  case atStart => exact ⟨0, Nat.zero_le _, rfl, (show ∀ c ∈ _, _ by simp), rfl⟩
  case round =>
    obtain ⟨k, hk, rfl, hok, hww⟩ := hrel
    have hww := hww.symm
    subst hww
    by_cases hlt : k < s.size
    · have hki : (k : Int) < (s.size : Int) := by omega
      have hkl : k < s.data.toList.length := by omega
      have htk := List.take_succ_eq_append_getElem hkl
      have hg := bget s k hlt
      obtain ⟨y, hy⟩ : ∃ y, y = s[k]'hlt := ⟨_, rfl⟩
      rw [hg, ← hy] at htk
      have HT := Lib.hid htk
      have HM := Lib.hid (show y ∈ s.data.toList by rw [hy, ← hg]; exact List.getElem_mem _)
      have hyv : ((s[k]'hlt).toNat : Int) = (y.toNat : Int) := by rw [hy]
      have hy256 := y.toNat_lt
      have HSZ := Lib.hid hsz
      have hbad : Hid ((y.toNat < 32 ∨ 126 < y.toNat) → valB s.data.toList = false) := by
        show _ → _
        intro h
        unfold valB
        have : s.data.toList.all (fun c => decide (32 ≤ c) && decide (c ≤ 126)) = false := by
          rw [← Bool.not_eq_true, List.all_eq_true]
          intro h2
          have h3 := h2 y HM.out
          simp only [Bool.and_eq_true, decide_eq_true_eq, UInt8.le_iff_toNat_le] at h3
          have e1 : (32 : UInt8).toNat = 32 := rfl
          have e2 : (126 : UInt8).toNat = 126 := rfl
          omega
        rw [this, Bool.and_false]
      clear htk hg hy hsz
      by_cases h1 : y.toNat < 32
      · have h1i : (y.toNat : Int) < 32 := by omega
        have HV := Lib.hid (hbad.out (.inl h1))
        go_wp2_with fail
        go_ret
        exact ⟨by rw [HV.out]; rfl, rfl⟩
      · have h1i : ¬ (y.toNat : Int) < 32 := by omega
        by_cases h2 : 126 < y.toNat
        · have h2i : (126 : Int) < (y.toNat : Int) := by omega
          have HV := Lib.hid (hbad.out (.inr h2))
          go_wp2_with fail
          go_ret
          exact ⟨by rw [HV.out]; rfl, rfl⟩
        · have h2i : ¬ (126 : Int) < (y.toNat : Int) := by omega
          go_wp2_with fail
          go_roundw
          case rel =>
            refine ⟨k + 1, by omega, by go_num, ?_, trivial⟩
            show ∀ c ∈ _, _
            intro c hc
            rw [HT.out, List.mem_append, List.mem_singleton] at hc
            rcases hc with hc | rfl
            · exact hok.out c hc
            · exact ⟨by omega, by omega⟩
          case measure => simp [intOf]; omega
    · have HV : Hid (valB s.data.toList = decide ((s.size : Int) ≤ 32)) := by
        show _ = _
        unfold valB
        have h := hok.out
        rw [List.take_of_length_le (by omega)] at h
        have : s.data.toList.all (fun c => decide (32 ≤ c) && decide (c ≤ 126)) = true := by
          rw [List.all_eq_true]
          intro c hc
          have := h c hc
          simp only [Bool.and_eq_true, decide_eq_true_eq, UInt8.le_iff_toNat_le]
          exact this
        rw [this, Bool.and_true, hsz]
        exact decide_eq_decide.2 (by omega)
      clear hsz hok
      go_wp2_with fail
      go_ret
      exact ⟨by rw [HV.out]; rfl, rfl⟩
theorem refValue_any (n : BS) (w : World) (hs : n.length ≤ 140737488351232) : Calls Try.prog 77 #[.string ⟨n.toArray⟩] w fun e w' => e = .returned (.bool (valB n)) ∧ w' = w := by
  have := refValue_s ⟨n.toArray⟩ w (by show n.length ≤ _; exact hs)
  simpa using this
end Go.Proofs.Ythfjfkjlgdnohaa

/-
  The reference's Props, SameProps: by their contracts.
-/
namespace Go.Proofs.Ythfjfkjlgdnohaa
open Go.RowKit

theorem quietN {P : Program} {f : FuncId} {args : Array Value} {w : World} {p m : Nat} {v : Value} (h : Calls P f args (w.drewN (p + m)) fun e w' => e = .returned v ∧ w' = w.drewN (p + m)) :
    Calls P f args (w.drewN (p + m)) fun e w'' => e = .returned v ∧ ∃ n, w'' = w.drewN (p + n) := h.mono fun _ _ ⟨h1, h2⟩ => ⟨h1, m, h2⟩
set_option maxRecDepth 100000 in
set_option maxHeartbeats 2000000 in
theorem refProps_any (l : PL) (n : Nat) (hnl : n = l.length) (A : Option Addr) (c : Nat) (w : World) (B : Nat) (hr : Reads w B 2 A n (pcells l)) (hn : n ≤ 5000000000000) (hv : ∀ x ∈ l, x.1.length ≤ 140737488351232 ∧ x.2.length ≤ 140737488351232) :
    Calls Try.prog 41 #[.slice A n c] w fun e w' => e = .returned (.int .i64 (propsE l)) ∧ ∃ q, w' = w.drewN q := by
  have HN := Lib.hid hnl
  obtain ⟨E, hE⟩ : ∃ E, E = propsE l := ⟨_, rfl⟩
  have hPE : Hid (∀ b, propsFrom none l = b → E = if b = true ∧ n ≤ 8 then 0 else 9) := by
    show ∀ b, _ → _
    rintro b rfl
    rw [hE]
    unfold propsE propsB
    rw [← hnl]
    by_cases h8 : n ≤ 8
    · simp [h8]
    · simp [h8]
  rw [← hE]
  clear hnl hE
  go_enter Try.func41, Try.ntmps41
  go_wp2_with fail
  go_loopw [3] (fun j wr => ∃ k : Nat, k ≤ n ∧ j = .int .i64 (k : Int) ∧ Hid (propsFrom none l = propsFrom (prevP l k) (l.drop k)) ∧ ∃ p, wr = w.drewN p) (fun j _ => n - (intOf j).toNat)
  case atStart => exact ⟨0, Nat.zero_le _, rfl, rfl, 0, rfl⟩
  case round =>
    obtain ⟨k, hk, rfl, hok, p, rfl⟩ := hrel
    by_cases hlt : k < n
    · obtain ⟨ad, rfl, hadB, c0, c1⟩ := hr.prop HN.out hlt
      have hki : (k : Int) < (n : Int) := by omega
      have hkl : k < l.length := by have := HN.out; omega
      obtain ⟨x, hx⟩ : ∃ x, x = l[k]'hkl := ⟨_, rfl⟩
      have hxl := hv x (by rw [hx]; exact List.getElem_mem _)
      rw [← hx] at c0 c1
      have hdr := List.drop_eq_getElem_cons hkl
      rw [← hx] at hdr
      have HX := Lib.hid hx
      have HDR := Lib.hid hdr
      obtain ⟨xn, xv⟩ := x
      simp only [strV] at c0 c1 hxl
      have hbad : Hid ((nameB xn = false ∨ valB xv = false ∨ (∃ y, prevP l k = some y ∧ Op.bytesLess y xn = false)) → E = 9) := by
        show _ → _
        intro h
        rw [hPE.out false]
        · rfl
        rw [hok.out, HDR.out, propsFrom_cons]
        rcases h with h | h | ⟨y, hy, h⟩
        · rw [h]; rfl
        · rw [h]; simp
        · rw [hy]; simp [h]
      have hgood : Hid (nameB xn = true → valB xv = true → (∀ y, prevP l k = some y → Op.bytesLess y xn = true) → propsFrom none l = propsFrom (prevP l (k + 1)) (l.drop (k + 1))) := by
        show _ → _ → _ → _
        intro h1 h2 h3
        rw [hok.out, HDR.out]
        have hp : prevP l (k + 1) = some xn := by
          show (l[k]?).map (·.1) = _
          rw [List.getElem?_eq_getElem hkl, ← HX.out]
          rfl
        rw [hp, propsFrom_cons, h1, h2]
        cases hq : prevP l k with
        | none => rfl
        | some y => simp [h3 y hq]
      have hN : ∀ m, Calls Try.prog 76 #[.string ⟨xn.toArray⟩] (w.drewN (p + m)) fun e W' => e = .returned (.bool (nameB xn)) ∧ ∃ n, W' = w.drewN (p + n) := fun m => quietN (refName_any xn _ hxl.1)
      have hV : ∀ m, Calls Try.prog 77 #[.string ⟨xv.toArray⟩] (w.drewN (p + m)) fun e W' => e = .returned (.bool (valB xv)) ∧ ∃ n, W' = w.drewN (p + n) := fun m => quietN (refValue_any xv _ hxl.2)
      clear hx hdr hok hxl hv
      obtain ⟨bn, hbn0⟩ : ∃ b, b = nameB xn := ⟨_, rfl⟩
      obtain ⟨bv, hbv0⟩ : ∃ b, b = valB xv := ⟨_, rfl⟩
      rw [← hbn0] at hbad hgood hN
      rw [← hbv0] at hbad hgood hV
      clear hbn0 hbv0
      cases bn with
      | false =>
        have HB := Lib.hid (hbad.out (.inl rfl))
        clear hr hbad hgood hV
        go_wp2_with fail
        go_big_quiet ((go_at_call 76; exact hN _))
        clear hN
        go_wp2_with fail
        go_ret
        exact ⟨by rw [HB.out]; rfl, _, World.drewN_drewN _ _ _⟩
      | true =>
        cases bv with
        | false =>
          have HB := Lib.hid (hbad.out (.inr (.inl rfl)))
          clear hr hbad hgood
          go_wp2_with fail
          go_big_quiet (first | (go_at_call 76; exact hN _) | (go_at_call 77; exact hV _))
          clear hN hV
          go_wp2_with fail
          go_ret
          exact ⟨by rw [HB.out]; rfl, _, World.drewN_drewN _ _ _⟩
        | true =>
          rcases Nat.eq_zero_or_pos k with h0 | h0
          · have HG := Lib.hid (hgood.out rfl rfl (fun y hy => by subst h0; cases hy))
            have d4 : decide ((0 : Int) < (k : Int)) = false := by simp; omega
            have d4' : decide (0 < k) = false := by simp; omega
            clear h0 hr hbad hgood
            go_wp2_with fail
            go_big_quiet (first | (go_at_call 76; exact hN _) | (go_at_call 77; exact hV _))
            clear hN hV
            go_wp2_with fail
            go_roundw
            case rel => exact ⟨k + 1, by omega, by go_num, HG, _, rfl⟩
            case measure => simp [intOf]; omega
          · have d4 : decide ((0 : Int) < (k : Int)) = true := by simp; omega
            have d4' : decide (0 < k) = true := by simp; omega
            have hk1l : k - 1 < l.length := by omega
            obtain ⟨y, hy⟩ : ∃ y, y = (l[k - 1]'hk1l).1 := ⟨_, rfl⟩
            have hpv : prevP l k = some y := by
              obtain ⟨j, rfl⟩ : ∃ j, k = j + 1 := ⟨k - 1, by omega⟩
              show (l[j]?).map (·.1) = _
              have hj : j < l.length := by simpa using hk1l
              rw [List.getElem?_eq_getElem hj, hy]
              rfl
            obtain ⟨ad2, e2, -, c2, -⟩ := (hr.prop HN.out (k := k - 1) (by omega))
            injection e2 with e2
            subst e2
            rw [← hy] at c2
            simp only [strV] at c2
            have i1 : (1 : Int) ≤ (k : Int) := by omega
            have i2 : (k : Int) - 1 < (n : Int) := by omega
            have i3 : IntKind.i64.wrap ((k : Int) - 1) = (k : Int) - 1 := IntWalk.i64_in _ (by omega)
            have i4 : ((k : Int) - 1).toNat = k - 1 := by omega
            have hleq := leqS 9 xn y
            cases hcmp : Op.bytesLess y xn with
            | true =>
              have HG := Lib.hid (hgood.out rfl rfl (fun y' hy' => by rw [hpv] at hy'; cases hy'; exact hcmp))
              have f1 : (Op.bytesLess xn y || xn == y) = false := by
                rw [Bool.or_eq_false_iff]
                refine ⟨?_, by simpa using (bl_ne hcmp).symm⟩
                rw [← Bool.not_eq_true]
                intro h
                have := bl_trans hcmp h
                rw [bl_irrefl] at this
                cases this
              rw [f1] at hleq
              clear hr hbad hgood h0 hpv hy hcmp f1
              go_wp2_with fail
              go_big_quiet (first | (go_at_call 76; exact hN _) | (go_at_call 77; exact hV _))
              clear hN hV hleq
              go_wp2_with fail
              go_roundw
              case rel => exact ⟨k + 1, by omega, by go_num, HG, _, rfl⟩
              case measure => simp [intOf]; omega
            | false =>
              have HB := Lib.hid (hbad.out (.inr (.inr ⟨y, hpv, hcmp⟩)))
              have f1 : (Op.bytesLess xn y || xn == y) = true := by
                by_cases e : xn = y
                · simp [e]
                · rw [bl_tri y xn hcmp (fun h => e h.symm)]; rfl
              rw [f1] at hleq
              clear hr hbad hgood h0 hpv hy hcmp f1
              go_wp2_with fail
              go_big_quiet (first | (go_at_call 76; exact hN _) | (go_at_call 77; exact hV _))
              clear hN hV hleq
              go_wp2_with fail
              go_ret
              exact ⟨by rw [HB.out]; rfl, _, World.drewN_drewN _ _ _⟩
    · have hkn : k = n := by omega
      have hF : Hid (E = if n ≤ 8 then 0 else 9) := by
        show _ = _
        rw [hPE.out true]
        · simp
        rw [hok.out, List.drop_of_length_le (by rw [hkn, HN.out]; exact Nat.le_refl _)]
        rfl
      clear hok hr hkn hPE
      by_cases h8 : n ≤ 8
      · have hi8 : ¬ (8 : Int) < (n : Int) := by omega
        have HV : Hid (E = 0) := by show _ = _; rw [hF.out, if_pos h8]
        clear hF
        go_wp2_with fail
        go_ret
        exact ⟨by rw [HV.out]; rfl, p, rfl⟩
      · have hi8 : (8 : Int) < (n : Int) := by omega
        have HV : Hid (E = 9) := by show _ = _; rw [hF.out, if_neg h8]
        clear hF
        go_wp2_with fail
        go_ret
        exact ⟨by rw [HV.out]; rfl, p, rfl⟩
set_option maxRecDepth 100000 in
set_option maxHeartbeats 1000000 in
theorem sameProps_any (a b : PL) (n m : Nat) (hna : n = a.length) (hmb : m = b.length) (A1 A2 : Option Addr) (c1 c2 : Nat) (w : World) (B1 B2 : Nat) (hr1 : Reads w B1 2 A1 n (pcells a)) (hr2 : Reads w B2 2 A2 m (pcells b)) (hn : n ≤ 5000000000000) (hm : m ≤ 5000000000000) :
    Calls Try.prog 26 #[.slice A1 n c1, .slice A2 m c2] w fun e w' => e = .returned (.bool (decide (a = b))) ∧ ∃ q, w' = w.drewN q := by
  have HN := Lib.hid hna
  have HM := Lib.hid hmb
  clear hna hmb
  by_cases hnm : n = m
  · subst hnm
    go_enter Try.func26, Try.ntmps26
    go_wp2_with fail
    go_loopw [5] (fun i wr => ∃ k : Nat, k ≤ n ∧ i = .int .i64 (k : Int) ∧ Hid (a.take k = b.take k) ∧ ∃ q, wr = w.drewN q) (fun i _ => n - (intOf i).toNat)
    case atStart => exact ⟨0, Nat.zero_le _, rfl, (show a.take 0 = b.take 0 by simp), 0, rfl⟩
    case round =>
      obtain ⟨k, hk, rfl, hok, q, rfl⟩ := hrel
      by_cases hlt : k < n
      · have hki : (k : Int) < (n : Int) := by omega
        have hka : k < a.length := by have := HN.out; omega
        have hkb : k < b.length := by have := HM.out; omega
        obtain ⟨ad1, rfl, _, hc1, hc1'⟩ := hr1.prop HN.out hlt
        obtain ⟨ad2, rfl, _, hc2, hc2'⟩ := hr2.prop HM.out hlt
        obtain ⟨x, hx⟩ : ∃ x, x = a[k]'hka := ⟨_, rfl⟩
        obtain ⟨y, hy⟩ : ∃ y, y = b[k]'hkb := ⟨_, rfl⟩
        rw [← hx] at hc1 hc1'
        rw [← hy] at hc2 hc2'
        have t1 := List.take_succ_eq_append_getElem hka
        have t2 := List.take_succ_eq_append_getElem hkb
        rw [← hx] at t1
        rw [← hy] at t2
        have T1 := Lib.hid t1
        have T2 := Lib.hid t2
        have X1 := Lib.hid hx
        have X2 := Lib.hid hy
        obtain ⟨xn, xv⟩ := x
        obtain ⟨yn, yv⟩ := y
        simp only [strV] at hc1 hc1' hc2 hc2'
        clear hx hy t1 t2 hr1 hr2
        by_cases hxy : xn = yn ∧ xv = yv
        · obtain ⟨rfl, rfl⟩ := hxy
          go_wp2_with fail
          go_region
          go_wp2_with fail
          go_roundw
          case rel =>
            refine ⟨k + 1, by omega, by go_num, ?_, q + 1, rfl⟩
            show a.take (k + 1) = b.take (k + 1)
            rw [T1.out, T2.out, hok.out]
          case measure => simp [intOf]; omega
        · have HD : Hid (decide (a = b) = false) := by
            show _ = _
            refine decide_eq_false (fun e => hxy ?_)
            have : (xn, xv) = (yn, yv) := by rw [X1.out, X2.out]; simp only [e]
            exact ⟨congrArg Prod.fst this, congrArg Prod.snd this⟩
          by_cases hxn : xn = yn
          · have hxv : ¬ xv = yv := fun e => hxy ⟨hxn, e⟩
            subst hxn
            clear hxy
            go_wp2_with fail
            go_region
            go_wp2_with fail
            go_ret
            exact ⟨by rw [HD.out]; rfl, q + 1, rfl⟩
          · clear hxy
            go_wp2_with fail
            go_region
            go_wp2_with fail
            go_ret
            exact ⟨by rw [HD.out]; rfl, q + 1, rfl⟩
      · have HD : Hid (decide (a = b) = true) := by
          show _ = _
          refine decide_eq_true ?_
          have := hok.out
          rwa [List.take_of_length_le (by have := HN.out; omega), List.take_of_length_le (by have := HM.out; omega)] at this
        clear hr1 hr2
        go_wp2_with fail
        go_ret
        exact ⟨by rw [HD.out]; rfl, q, rfl⟩
  · have hd : ((n : Int) != (m : Int)) = true := by simp; omega
    have HD : Hid (decide (a = b) = false) := by
      show _ = _
      refine decide_eq_false (fun e => hnm ?_)
      rw [HN.out, HM.out, e]
    clear hnm hr1 hr2
    go_enter Try.func26, Try.ntmps26
    go_wp2_with fail
    go_ret
    exact ⟨by rw [HD.out]; rfl, 0, rfl⟩
end Go.Proofs.Ythfjfkjlgdnohaa
