/-
  props.Set, props.Unset, walked.
-/
import Derived.Test.YthfjfkjlgdnohaaPrSet
namespace Go.Proofs.Ythfjfkjlgdnohaa
open Go.RowKit

theorem set_atP (l : PL) (p : Nat) (nm tx : BS) (h : (l[p]?).any (fun x => cfN nm x == 0) = true) : (pcells l).set (p * 2 + 1) (.string ⟨tx.toArray⟩) = pcells (l.take p ++ [(nm, tx)] ++ l.drop (p + 1)) := by
  cases hp : l[p]? with
  | none => rw [hp] at h; simp at h
  | some x =>
    rw [hp] at h
    have hx : x.1 = nm := (cmpS_zero _ _).1 (by simpa [cfN] using h)
    obtain ⟨hlt, hpx⟩ := List.getElem?_eq_some_iff.1 hp
    have hl : l = l.take p ++ [x] ++ l.drop (p + 1) := by
      conv => lhs; rw [← List.take_append_drop p l]
      rw [List.drop_eq_getElem_cons hlt, hpx]
      simp
    conv => lhs; rw [hl]
    rw [pcells_append, pcells_append, pcells_append, pcells_append, List.append_assoc, List.append_assoc]
    rw [List.set_append_right _ _ (by rw [pcells_length, List.length_take]; omega), pcells_length, List.length_take, Nat.min_eq_left (by omega), show p * 2 + 1 - p * 2 = 1 by omega]
    subst hx
    rfl

set_option maxRecDepth 100000 in
set_option maxHeartbeats 2000000 in
theorem set_any (l : PL) (n : Nat) (hnl : n = l.length) (A : Option Addr) (c : Nat) (nm tx : BS) (w : World) (B : Nat) (hr : Reads w B 2 A n (pcells l)) (hB : B ≤ w.heap.size) (hn : n ≤ 4398046511104) (hv : ∀ x ∈ l, x.2.length ≤ 140737488351232) (htx : tx.length ≤ 140737488351232) :
    Calls Try.prog 43 #[.slice A n c, .string ⟨nm.toArray⟩, .string ⟨tx.toArray⟩] w (PPost w (putP (nm, tx) l) (setE l nm tx)) := by
  have hck := checkP_any l n hnl A c w B hr hB (by omega) hv
  have hNM := fun W => name_any ⟨nm.toArray⟩ W
  have hVA := fun W => value_any ⟨tx.toArray⟩ W (by show tx.length ≤ _; exact htx)
  simp only [] at hNM hVA
  by_cases hok : propsB l = true
  · have h1 : propsE l = 0 := by unfold propsE; rw [if_pos hok]
    rw [h1] at hck
    have hso := propsB_sort l hok
    have hsr := fun w' (hb : Below w.heap.size w w') => searchP_any (fun x : BS × BS => .string ⟨x.1.toArray⟩) (fun x => .string ⟨x.2.toArray⟩) (cfN nm) l (cfN_asc l hso nm) n hnl A c (.string ⟨nm.toArray⟩) w' B (hr.below (hb.mono hB)) (by have := hb.size; omega) (by omega) (fun x W _ => byP_any x.1 x.2 nm W)
    have hp := posF_le (cfN nm) l
    have hag := atF_get l nm hso
    have hpl := putP_split (nm, tx) l hso
    simp only [] at hpl
    obtain ⟨p, hpp⟩ : ∃ p, p = posF (cfN nm) l := ⟨_, rfl⟩
    obtain ⟨t, htt⟩ : ∃ t, t = atF (cfN nm) l := ⟨_, rfl⟩
    have hat : t = (l[p]?).any (fun x => cfN nm x == 0) := by rw [htt, hpp]; rfl
    rw [← hpp] at hp
    rw [← hpp, ← htt] at hsr hpl
    rw [← htt] at hag
    have hpn : p ≤ n := by omega
    have HN := Lib.hid hnl
    have HAT := Lib.hid hat
    have HAG := Lib.hid hag
    have HPL := Lib.hid hpl
    have HOK := Lib.hid hok
    have HCK := Lib.hid hck
    have HSR := Lib.hid hsr
    have HVA := Lib.hid hVA
    clear hpp htt hpl hat hnl h1 hok hp hag hso hck hsr hVA hv
    cases hnb : nameB nm with
    | false =>
      have HPE : Hid (setE l nm tx = 31) := by show _ = _; unfold setE; rw [if_pos HOK.out, if_neg (by rw [hnb]; simp)]
      rw [hnb] at hNM
      clear hnb hr
      go_enter Try.func43, Try.ntmps43
      go_wp2_with fail
      refine HCK.out.mono ?_
      rintro e w1 ⟨rfl, hb1⟩
      go_wp2_with fail
      refine (HSR.out w1 hb1).mono ?_
      rintro e w2 ⟨rfl, hb2⟩
      have hb12 := hb1.trans (hb2.mono hb1.size)
      clear hb1 hb2
      go_wp2_with fail
      refine (hNM w2).mono ?_
      rintro e w3 ⟨rfl, hb3⟩
      have hb13 := hb12.trans (hb3.mono hb12.size)
      go_wp2_with fail
      go_ret2
      refine ⟨_, by rw [HPE.out]; rfl, ?_, hb13⟩
      rw [HPE.out, if_neg (by decide)]; rfl
    | true =>
      rw [hnb] at hNM
      have HNB := Lib.hid hnb
      cases hvb : valB tx with
      | false =>
        have HPE : Hid (setE l nm tx = 9) := by show _ = _; unfold setE; rw [if_pos HOK.out, if_pos HNB.out, if_neg (by rw [hvb]; simp)]
        have hVA := HVA.out
        rw [hvb] at hVA
        clear hvb hnb hr
        go_enter Try.func43, Try.ntmps43
        go_wp2_with fail
        refine HCK.out.mono ?_
        rintro e w1 ⟨rfl, hb1⟩
        go_wp2_with fail
        refine (HSR.out w1 hb1).mono ?_
        rintro e w2 ⟨rfl, hb2⟩
        have hb12 := hb1.trans (hb2.mono hb1.size)
        clear hb1 hb2
        go_wp2_with fail
        refine (hNM w2).mono ?_
        rintro e w3 ⟨rfl, hb3⟩
        have hb13 := hb12.trans (hb3.mono hb12.size)
        clear hb3 hb12
        go_wp2_with fail
        refine (hVA w3).mono ?_
        rintro e w4 ⟨rfl, hb4⟩
        have hb14 := hb13.trans (hb4.mono hb13.size)
        clear hb4 hb13
        go_wp2_with fail
        go_ret2
        refine ⟨_, by rw [HPE.out]; rfl, ?_, hb14⟩
        rw [HPE.out, if_neg (by decide)]; rfl
      | true =>
        have hVA := HVA.out
        rw [hvb] at hVA
        have HVB := Lib.hid hvb
        have hcl := fun w' (hb : Below w.heap.size w w') => cloneP_any (pcells l) n A c w' B (hr.below (hb.mono hB)) (by have := hb.size; omega) (pcells_one l) (by omega)
        have HCL := Lib.hid hcl
        clear hvb hnb hr hcl HVA
        cases t with
        | true =>
          have HPE : Hid (setE l nm tx = 0) := by show _ = _; unfold setE; rw [if_pos HOK.out, if_pos HNB.out, if_pos HVB.out, if_neg (by rw [← HAG.out]; simp)]
          have HLL : Hid ((putP (nm, tx) l).length = n ∧ p < n) := by
            have hlt : p < l.length := by
              rcases Nat.lt_or_ge p l.length with h | h
              · exact h
              · have := HAT.out; rw [List.getElem?_eq_none h] at this; cases this
            refine ⟨?_, by rw [HN.out]; exact hlt⟩
            rw [HPL.out, if_pos rfl]
            simp only [List.length_append, List.length_take, List.length_drop, List.length_cons, List.length_nil]
            have := HN.out; omega
          go_enter Try.func43, Try.ntmps43
          go_wp2_with fail
          refine HCK.out.mono ?_
          rintro e w1 ⟨rfl, hb1⟩
          go_wp2_with fail
          refine (HSR.out w1 hb1).mono ?_
          rintro e w2 ⟨rfl, hb2⟩
          have hb12 := hb1.trans (hb2.mono hb1.size)
          clear hb1 hb2
          go_wp2_with fail
          refine (hNM w2).mono ?_
          rintro e w3 ⟨rfl, hb3⟩
          have hb13 := hb12.trans (hb3.mono hb12.size)
          clear hb3 hb12
          go_wp2_with fail
          refine (hVA w3).mono ?_
          rintro e w4 ⟨rfl, hb4⟩
          have hb14 := hb13.trans (hb4.mono hb13.size)
          clear hb4 hb13
          go_wp2_with fail
          refine (HCL.out w4 hb14).mono ?_
          rintro e w5 ⟨v5, rfl, hown, hb5⟩
          have hbb := hb14.trans (hb5.mono hb14.size)
          have hsz := hb14.size
          have hsz5 : w4.heap.size ≤ w5.heap.size := hb5.size
          clear hb14 hb5 HCL HCK HSR hNM hVA
          have hpn' : p < n := HLL.out.2
          rcases hown.2 with ⟨_, h0⟩ | ⟨g, cap, cur, rfl, hbg, _, _, _, _, _⟩
          · omega
          · have hst := hown.stored (p * 2 + 1) (.string ⟨tx.toArray⟩)
            have hl := HAT.out
            rw [set_atP l p nm tx hl.symm] at hst
            have hcell := (hown.cellAt (p * 2 + 1) (by omega)).trans (pcells_get l p (by have := HN.out; omega)).2
            generalize (l[p]'(by have := HN.out; omega)).2 = old at hcell
            have hfz := hown.frozenAt (p * 2 + 1)
            have hpi : (p : Int) < (n : Int) := by omega
            have HST := Lib.hid hst
            simp only [strV] at hcell
            clear hl hst
            go_wp2_with fail
            go_ret2
            refine ⟨_, by rw [HPE.out]; rfl, ?_, hbb.setCell (by show _ ≤ g; omega) _⟩
            rw [if_pos HPE.out, HLL.out.1, HPL.out, if_pos trivial]
            exact own_mono HST.out.1 hsz
        | false =>
          by_cases h8 : n = 8
          · have HPE : Hid (setE l nm tx = 3) := by show _ = _; unfold setE; rw [if_pos HOK.out, if_pos HNB.out, if_pos HVB.out, if_pos ⟨HAG.out.symm, by rw [← HN.out]; exact h8⟩]
            have h8a : ((n : Int) == 8) = true := by simp [h8]
            clear h8
            go_enter Try.func43, Try.ntmps43
            go_wp2_with fail
            refine HCK.out.mono ?_
            rintro e w1 ⟨rfl, hb1⟩
            go_wp2_with fail
            refine (HSR.out w1 hb1).mono ?_
            rintro e w2 ⟨rfl, hb2⟩
            have hb12 := hb1.trans (hb2.mono hb1.size)
            clear hb1 hb2
            go_wp2_with fail
            refine (hNM w2).mono ?_
            rintro e w3 ⟨rfl, hb3⟩
            have hb13 := hb12.trans (hb3.mono hb12.size)
            clear hb3 hb12
            go_wp2_with fail
            refine (hVA w3).mono ?_
            rintro e w4 ⟨rfl, hb4⟩
            have hb14 := hb13.trans (hb4.mono hb13.size)
            clear hb4 hb13
            go_wp2_with fail
            go_ret2
            refine ⟨_, by rw [HPE.out]; rfl, ?_, hb14⟩
            rw [HPE.out, if_neg (by decide)]; rfl
          · have HPE : Hid (setE l nm tx = 0) := by show _ = _; unfold setE; rw [if_pos HOK.out, if_pos HNB.out, if_pos HVB.out, if_neg (by rw [← HN.out]; exact fun h => h8 h.2)]
            have h8a : ((n : Int) == 8) = false := by simp; omega
            have HLL : Hid ((putP (nm, tx) l).length = n + 1) := by
              show _ = _
              rw [HPL.out, if_neg (by simp)]
              simp only [List.length_append, List.length_take, List.length_drop, List.length_cons, List.length_nil]
              have := HN.out; omega
            clear h8
            go_enter Try.func43, Try.ntmps43
            go_wp2_with fail
            refine HCK.out.mono ?_
            rintro e w1 ⟨rfl, hb1⟩
            go_wp2_with fail
            refine (HSR.out w1 hb1).mono ?_
            rintro e w2 ⟨rfl, hb2⟩
            have hb12 := hb1.trans (hb2.mono hb1.size)
            clear hb1 hb2
            go_wp2_with fail
            refine (hNM w2).mono ?_
            rintro e w3 ⟨rfl, hb3⟩
            have hb13 := hb12.trans (hb3.mono hb12.size)
            clear hb3 hb12
            go_wp2_with fail
            refine (hVA w3).mono ?_
            rintro e w4 ⟨rfl, hb4⟩
            have hb14 := hb13.trans (hb4.mono hb13.size)
            clear hb4 hb13
            go_wp2_with fail
            refine (HCL.out w4 hb14).mono ?_
            rintro e w5 ⟨v5, rfl, hown, hb5⟩
            have hbb := hb14.trans (hb5.mono hb14.size)
            have hsz := hb14.size
            have hsz5 : w4.heap.size ≤ w5.heap.size := hb5.size
            clear hb14 hb5 HCL HCK HSR hNM hVA
            obtain ⟨A3, c3, rfl, _, _, _⟩ := own_form hown
            have hown4 := hown.alloc (.cells #[.string ⟨nm.toArray⟩, .string ⟨tx.toArray⟩] 99)
            have hnew := Blk.new w5 99 #[.string ⟨nm.toArray⟩, .string ⟨tx.toArray⟩]
            have hins := insP_any #[.string ⟨nm.toArray⟩, .string ⟨tx.toArray⟩] rfl (by simp [Value.oneCell']) (pcells l) (pcells_one l) w5.heap.size 99 _ n p A3 c3 _ hpn hown4 (by show w4.heap.size ≤ _; simp; omega) (by have := (propsB_small l HOK.out).1; have := HN.out; omega) hnew (fun e => by have := (hown.lt _ e).2; omega)
            have HLT := Lib.hid (fun k hk => (hown4.lt k hk).1)
            have HB2 := Lib.hid (hbb.alloc (by omega) (.cells #[.string ⟨nm.toArray⟩, .string ⟨tx.toArray⟩] 99))
            clear hown4 hnew hown
            go_wp2_with fail
            refine hins.mono ?_
            clear hins
            rintro e w6 ⟨v6, rfl, hown5, hg⟩
            have HO := Lib.hid hown5
            have HG := Lib.hid hg
            clear hown5 hg
            go_wp2_with fail
            go_ret2
            refine ⟨v6, by rw [HPE.out]; rfl, ?_, HB2.out.grown HG.out (by simp; omega) (fun k hk => by have := HLT.out k hk; omega)⟩
            rw [if_pos HPE.out, HLL.out, HPL.out, if_neg (by simp), pcells_append, pcells_append, pcells_take, pcells_drop]
            exact own_mono HO.out hsz
  · have h1 : propsE l = 9 := by unfold propsE; rw [if_neg hok]
    rw [h1] at hck
    have HPE : Hid (setE l nm tx = 9) := by show _ = _; unfold setE; rw [if_neg hok]
    clear hok h1 hnl hr hVA hNM hv
    go_enter Try.func43, Try.ntmps43
    go_wp2_with fail
    refine hck.mono ?_
    clear hck
    rintro e w1 ⟨rfl, hb1⟩
    go_wp2_with fail
    go_ret2
    refine ⟨_, by rw [HPE.out]; rfl, ?_, hb1⟩
    rw [HPE.out, if_neg (by decide)]; rfl

def unsetE (l : PL) (nm : BS) : Int := if propsB l = true then (if (getP l nm).isSome = true then 0 else 71) else 9
set_option maxRecDepth 100000 in
set_option maxHeartbeats 2000000 in
theorem unset_any (l : PL) (n : Nat) (hnl : n = l.length) (A : Option Addr) (c : Nat) (nm : BS) (w : World) (B : Nat) (hr : Reads w B 2 A n (pcells l)) (hB : B ≤ w.heap.size) (hn : n ≤ 4398046511104) (hv : ∀ x ∈ l, x.2.length ≤ 140737488351232) :
    Calls Try.prog 45 #[.slice A n c, .string ⟨nm.toArray⟩] w (PPost w (dropP nm l) (unsetE l nm)) := by
  have hck := checkP_any l n hnl A c w B hr hB (by omega) hv
  by_cases hok : propsB l = true
  · have h1 : propsE l = 0 := by unfold propsE; rw [if_pos hok]
    rw [h1] at hck
    have hso := propsB_sort l hok
    have hsr := fun w' (hb : Below w.heap.size w w') => searchP_any (fun x : BS × BS => .string ⟨x.1.toArray⟩) (fun x => .string ⟨x.2.toArray⟩) (cfN nm) l (cfN_asc l hso nm) n hnl A c (.string ⟨nm.toArray⟩) w' B (hr.below (hb.mono hB)) (by have := hb.size; omega) (by omega) (fun x W _ => byP_any x.1 x.2 nm W)
    have hp := posF_le (cfN nm) l
    have hag := atF_get l nm hso
    have hpl := dropP_split nm l hso
    obtain ⟨p, hpp⟩ : ∃ p, p = posF (cfN nm) l := ⟨_, rfl⟩
    obtain ⟨t, htt⟩ : ∃ t, t = atF (cfN nm) l := ⟨_, rfl⟩
    have hat : t = (l[p]?).any (fun x => cfN nm x == 0) := by rw [htt, hpp]; rfl
    rw [← hpp] at hp
    rw [← hpp, ← htt] at hsr hpl
    rw [← htt] at hag
    have HN := Lib.hid hnl
    have HAT := Lib.hid hat
    have HAG := Lib.hid hag
    have HPL := Lib.hid hpl
    have HOK := Lib.hid hok
    have HCK := Lib.hid hck
    have HSR := Lib.hid hsr
    have hcl := fun w' (hb : Below w.heap.size w w') => cloneP_any (pcells l) n A c w' B (hr.below (hb.mono hB)) (by have := hb.size; omega) (pcells_one l) (by omega)
    have HCL := Lib.hid hcl
    clear hpp htt hpl hat hnl h1 hok hp hag hso hck hsr hv hcl hr
    cases t with
    | true =>
      have HPE : Hid (unsetE l nm = 0) := by show _ = _; unfold unsetE; rw [if_pos HOK.out, if_pos HAG.out.symm]
      have HLL : Hid ((dropP nm l).length = n - 1 ∧ p < n) := by
        have hlt : p < l.length := by
          rcases Nat.lt_or_ge p l.length with h | h
          · exact h
          · have := HAT.out; rw [List.getElem?_eq_none h] at this; cases this
        refine ⟨?_, by rw [HN.out]; exact hlt⟩
        rw [HPL.out rfl]
        simp only [List.length_append, List.length_take, List.length_drop]
        have := HN.out; omega
      go_enter Try.func45, Try.ntmps45
      go_wp2_with fail
      refine HCK.out.mono ?_
      rintro e w1 ⟨rfl, hb1⟩
      go_wp2_with fail
      refine (HSR.out w1 hb1).mono ?_
      rintro e w2 ⟨rfl, hb2⟩
      have hb12 := hb1.trans (hb2.mono hb1.size)
      clear hb1 hb2
      go_wp2_with fail
      refine (HCL.out w2 hb12).mono ?_
      rintro e w3 ⟨v3, rfl, hown, hb3⟩
      have hbb := hb12.trans (hb3.mono hb12.size)
      have hsz := hb12.size
      have hsz3 : w2.heap.size ≤ w3.heap.size := hb3.size
      clear hb12 hb3 HCL HCK HSR
      obtain ⟨A3, c3, rfl, _, _, _⟩ := own_form hown
      have hpn' : p < n := HLL.out.2
      have hdel := delP_any (pcells l) (pcells_one l) n p c3 _ A3 w3 hpn' (by omega) hown
      have HLT := Lib.hid (fun k hk => (hown.lt k hk).1)
      have HB2 := Lib.hid hbb
      clear hown hbb
      go_wp2_with fail
      refine hdel.mono ?_
      clear hdel
      rintro e w4 ⟨v4, rfl, hown5, hg⟩
      have HO := Lib.hid hown5
      have HG := Lib.hid hg
      clear hown5 hg
      go_wp2_with fail
      go_ret2
      refine ⟨v4, by rw [HPE.out]; rfl, ?_, HB2.out.grown HG.out (by omega) (fun k hk => by have := HLT.out k hk; omega)⟩
      rw [if_pos HPE.out, HLL.out.1, HPL.out (by trivial), pcells_append, pcells_take, pcells_drop]
      exact own_mono HO.out hsz
    | false =>
      have HPE : Hid (unsetE l nm = 71) := by show _ = _; unfold unsetE; rw [if_pos HOK.out, if_neg (by rw [← HAG.out]; simp)]
      go_enter Try.func45, Try.ntmps45
      go_wp2_with fail
      refine HCK.out.mono ?_
      rintro e w1 ⟨rfl, hb1⟩
      go_wp2_with fail
      refine (HSR.out w1 hb1).mono ?_
      rintro e w2 ⟨rfl, hb2⟩
      have hb12 := hb1.trans (hb2.mono hb1.size)
      clear hb1 hb2
      go_wp2_with fail
      go_ret2
      refine ⟨_, by rw [HPE.out]; rfl, ?_, hb12⟩
      rw [HPE.out, if_neg (by decide)]; rfl
  · have h1 : propsE l = 9 := by unfold propsE; rw [if_neg hok]
    rw [h1] at hck
    have HPE : Hid (unsetE l nm = 9) := by show _ = _; unfold unsetE; rw [if_neg hok]
    clear hok h1 hnl hr hv
    go_enter Try.func45, Try.ntmps45
    go_wp2_with fail
    refine hck.mono ?_
    clear hck
    rintro e w1 ⟨rfl, hb1⟩
    go_wp2_with fail
    go_ret2
    refine ⟨_, by rw [HPE.out]; rfl, ?_, hb1⟩
    rw [HPE.out, if_neg (by decide)]; rfl
end Go.Proofs.Ythfjfkjlgdnohaa
