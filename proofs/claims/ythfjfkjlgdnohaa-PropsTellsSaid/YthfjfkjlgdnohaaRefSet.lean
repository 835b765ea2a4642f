/-
  The reference's Prop, Text, Set, Unset; props.Same: by their contracts.
-/
import Derived.Test.YthfjfkjlgdnohaaPrPut
import Derived.Test.YthfjfkjlgdnohaaPrText
import Derived.Test.YthfjfkjlgdnohaaRefPut
import Derived.Test.YthfjfkjlgdnohaaRefPr
namespace Go.Proofs.Ythfjfkjlgdnohaa
open Go.RowKit

set_option maxRecDepth 100000 in
set_option maxHeartbeats 1000000 in
theorem refProp_any (l : PL) (nm : BS) (n : Nat) (hnl : n = l.length) (A : Option Addr) (c : Nat) (w : World) (B : Nat) (hr : Reads w B 2 A n (pcells l)) (hn : n ≤ 5000000000000) :
    Calls Try.prog 47 #[.slice A n c, .string ⟨nm.toArray⟩] w fun e w' => e = .returned (getV l nm) ∧ ∃ q, w' = w.drewN q := by
  have HN := Lib.hid hnl
  obtain ⟨V, hV⟩ : ∃ V, V = getV l nm := ⟨_, rfl⟩
  rw [← hV]
  have HV := Lib.hid hV
  clear hnl hV
  go_enter Try.func47, Try.ntmps47
  go_wp2_with fail
  go_loopw [6] (fun i wr => ∃ k : Nat, k ≤ n ∧ i = .int .i64 (k : Int) ∧ Hid (∀ y ∈ l.take k, y.1 ≠ nm) ∧ ∃ q, wr = w.drewN q) (fun i _ => n - (intOf i).toNat)
  case atStart => exact ⟨0, Nat.zero_le _, rfl, (show ∀ y ∈ _, _ by simp), 0, rfl⟩
  case round =>
    obtain ⟨k, hk, rfl, hno, q, rfl⟩ := hrel
    by_cases hlt : k < n
    · have hki : (k : Int) < (n : Int) := by omega
      have hkl : k < l.length := by have := HN.out; omega
      obtain ⟨ad, rfl, hadB, c0, c1⟩ := hr.prop HN.out hlt
      obtain ⟨x, hx⟩ : ∃ x, x = l[k]'hkl := ⟨_, rfl⟩
      rw [← hx] at c0 c1
      have htk := List.take_succ_eq_append_getElem hkl
      rw [← hx] at htk
      have HTK := Lib.hid htk
      have HX := Lib.hid (show l[k]? = some x by rw [hx]; exact List.getElem?_eq_getElem _)
      obtain ⟨xn, xv⟩ := x
      simp only [strV] at c0 c1
      clear hx htk hr
      by_cases hxn : xn = nm
      · have hd : (xn == nm) = true := by simp [hxn]
        have hG := find_at hno.out HX.out hxn
        have HVV : Hid (V = .tuple #[.string ⟨xv.toArray⟩, .bool true]) := by show _ = _; rw [HV.out]; unfold getV; rw [hG]; rfl
        clear hxn hG
        go_wp2_with fail
        go_ret2
        exact ⟨by rw [HVV.out]; rfl, q, rfl⟩
      · have hd : (xn == nm) = false := by simp [hxn]
        have HX2 := Lib.hid hxn
        clear hxn
        go_wp2_with fail
        go_roundw
        case rel =>
          refine ⟨k + 1, by omega, by go_num, ?_, q, rfl⟩
          show ∀ y ∈ _, _
          intro y hy
          rw [HTK.out, List.mem_append, List.mem_singleton] at hy
          rcases hy with hy | rfl
          · exact hno.out y hy
          · exact HX2.out
        case measure => simp [intOf]; omega
    · have HVV : Hid (V = .tuple #[.string ByteArray.empty, .bool false]) := by
        show _ = _
        rw [HV.out]
        unfold getV
        have := hno.out
        rw [List.take_of_length_le (by have := HN.out; omega)] at this
        rw [find_none this]
        rfl
      clear hr
      go_wp2_with fail
      go_ret2
      exact ⟨by rw [HVV.out]; rfl, q, rfl⟩

set_option maxRecDepth 100000 in
set_option maxHeartbeats 1000000 in
theorem sameP_any (a b : PL) (n m : Nat) (hna : n = a.length) (hmb : m = b.length) (A1 A2 : Option Addr) (c1 c2 : Nat) (w : World) (B1 B2 : Nat) (hr1 : Reads w B1 2 A1 n (pcells a)) (hr2 : Reads w B2 2 A2 m (pcells b)) (hn : n ≤ 5000000000000) (hm : m ≤ 5000000000000) :
    Calls Try.prog 85 #[.slice A1 n c1, .slice A2 m c2] w fun e w' => e = .returned (.bool (decide (a = b))) ∧ ∃ q, w' = w.drewN q := by
  have HN := Lib.hid hna
  have HM := Lib.hid hmb
  clear hna hmb
  by_cases hnm : n = m
  · subst hnm
    go_enter Try.func85, Try.ntmps85
    go_wp2_with fail
    go_loopw [13] (fun i wr => ∃ k : Nat, k ≤ n ∧ i = .int .i64 (k : Int) ∧ Hid (a.take k = b.take k) ∧ ∃ q, wr = w.drewN q) (fun i _ => n - (intOf i).toNat)
    case atStart => exact ⟨0, Nat.zero_le _, rfl, (show a.take 0 = b.take 0 by simp), 0, rfl⟩
    case round =>
      obtain ⟨k, hk, rfl, hok, q, rfl⟩ := hrel
      by_cases hlt : k < n
      · have hki : (k : Int) < (n : Int) := by omega
        have hka : k < a.length := by have := HN.out; omega
        have hkb : k < b.length := by have := HM.out; omega
        obtain ⟨ad1, rfl, _, hc1, hc1'⟩ := hr1.prop HN.out hlt
        obtain ⟨ad2, rfl, _, hc2, hc2'⟩ := hr2.prop HM.out hlt
        obtain ⟨x, hx⟩ : ∃ x, x = a[k]'hka := ⟨_, rfl⟩
        obtain ⟨y, hy⟩ : ∃ y, y = b[k]'hkb := ⟨_, rfl⟩
        rw [← hx] at hc1 hc1'
        rw [← hy] at hc2 hc2'
        have t1 := List.take_succ_eq_append_getElem hka
        have t2 := List.take_succ_eq_append_getElem hkb
        rw [← hx] at t1
        rw [← hy] at t2
        have T1 := Lib.hid t1
        have T2 := Lib.hid t2
        have X1 := Lib.hid hx
        have X2 := Lib.hid hy
        obtain ⟨xn, xv⟩ := x
        obtain ⟨yn, yv⟩ := y
        simp only [strV] at hc1 hc1' hc2 hc2'
        clear hx hy t1 t2 hr1 hr2
        by_cases hxy : xn = yn ∧ xv = yv
        · obtain ⟨rfl, rfl⟩ := hxy
          go_wp2_with fail
          go_region
          go_wp2_with fail
          go_roundw
          case rel =>
            refine ⟨k + 1, by omega, by go_num, ?_, q + 1, rfl⟩
            show a.take (k + 1) = b.take (k + 1)
            rw [T1.out, T2.out, hok.out]
          case measure => simp [intOf]; omega
        · have HD : Hid (decide (a = b) = false) := by
            show _ = _
            refine decide_eq_false (fun e => hxy ?_)
            have : (xn, xv) = (yn, yv) := by rw [X1.out, X2.out]; simp only [e]
            exact ⟨congrArg Prod.fst this, congrArg Prod.snd this⟩
          by_cases hxn : xn = yn
          · have hxv : ¬ xv = yv := fun e => hxy ⟨hxn, e⟩
            subst hxn
            clear hxy
            go_wp2_with fail
            go_region
            go_wp2_with fail
            go_ret
            exact ⟨by rw [HD.out]; rfl, q + 1, rfl⟩
          · clear hxy
            go_wp2_with fail
            go_region
            go_wp2_with fail
            go_ret
            exact ⟨by rw [HD.out]; rfl, q + 1, rfl⟩
      · have HD : Hid (decide (a = b) = true) := by
          show _ = _
          refine decide_eq_true ?_
          have := hok.out
          rwa [List.take_of_length_le (by have := HN.out; omega), List.take_of_length_le (by have := HM.out; omega)] at this
        clear hr1 hr2
        go_wp2_with fail
        go_ret
        exact ⟨by rw [HD.out]; rfl, q, rfl⟩
  · have hd : ((n : Int) != (m : Int)) = true := by simp; omega
    have HD : Hid (decide (a = b) = false) := by
      show _ = _
      refine decide_eq_false (fun e => hnm ?_)
      rw [HN.out, HM.out, e]
    clear hnm hr1 hr2
    go_enter Try.func85, Try.ntmps85
    go_wp2_with fail
    go_ret
    exact ⟨by rw [HD.out]; rfl, 0, rfl⟩
set_option maxRecDepth 100000 in
theorem psame_any (a b : PL) (n m : Nat) (hna : n = a.length) (hmb : m = b.length) (A1 A2 : Option Addr) (c1 c2 : Nat) (w : World) (B1 B2 : Nat) (hr1 : Reads w B1 2 A1 n (pcells a)) (hr2 : Reads w B2 2 A2 m (pcells b)) (hn : n ≤ 5000000000000) (hm : m ≤ 5000000000000) :
    Calls Try.prog 50 #[.slice A1 n c1, .slice A2 m c2] w fun e w' => e = .returned (.bool (decide (a = b))) ∧ ∃ q, w' = w.drewN q := by
  have hs := sameP_any a b n m hna hmb A1 A2 c1 c2 w B1 B2 hr1 hr2 hn hm
  clear hna hmb hr1 hr2
  go_enter Try.func50, Try.ntmps50
  go_wp2_with fail
  refine hs.mono ?_
  rintro e w1 ⟨rfl, q, rfl⟩
  go_wp2_with fail
  go_ret
  exact ⟨rfl, q, rfl⟩

set_option maxRecDepth 100000 in
set_option maxHeartbeats 1000000 in
theorem refText_any (l : PL) (n : Nat) (hnl : n = l.length) (A : Option Addr) (c : Nat) (w : World) (B : Nat) (hr : Reads w B 2 A n (pcells l)) (hB : B ≤ w.heap.size) (hn : n ≤ 4398046511104) :
    Calls Try.prog 49 #[.slice A n c] w fun e w' => ∃ v, e = .returned v ∧ w'.ownsRow w.heap.size 9 1 v (2 * n) (scells (ptexts l)) ∧ Below w.heap.size w w' := by
  obtain ⟨i0, hi0, hz0, hz1, hz2⟩ := info_parts Try.infoS
  have HN := Lib.hid hnl
  rw [← scells_pcells]
  clear hnl
  go_enter Try.func49, Try.ntmps49
  go_wp2_with fail
  go_loopw [3, 4] (fun o i wr => ∃ (k : Nat) (A1 : Option Addr) (c1 : Nat), k ≤ n ∧ i = .int .i64 (k : Int) ∧ o = .slice A1 (2 * k) c1 ∧ wr.ownsRow w.heap.size 9 1 (.slice A1 (2 * k) c1) (2 * k) (pcells (l.take k)) ∧ Below w.heap.size w wr) (fun _ i _ => n - (intOf i).toNat)
  case atStart => exact ⟨0, none, 0, Nat.zero_le _, rfl, rfl, ⟨rfl, .inl ⟨rfl, rfl⟩⟩, Below.refl _ _⟩
  case round =>
    obtain ⟨k, A1, c1, hk, rfl, rfl, hown, hbw⟩ := hrel
    by_cases hlt : k < n
    · have hki : (k : Int) < (n : Int) := by omega
      have hkl : k < l.length := by have := HN.out; omega
      obtain ⟨ad, rfl, hadB, d0, d1⟩ := (hr.below (hbw.mono hB)).prop HN.out hlt
      obtain ⟨x, hx⟩ : ∃ x, x = l[k]'hkl := ⟨_, rfl⟩
      have htk := List.take_succ_eq_append_getElem hkl
      rw [← hx] at d0 d1 htk
      obtain ⟨xn, xv⟩ := x
      simp only [strV] at d0 d1
      have HT : Hid (pcells (l.take (k + 1)) = pcells (l.take k) ++ [.string ⟨xn.toArray⟩, .string ⟨xv.toArray⟩]) := by show _ = _; rw [htk, pcells_append]; rfl
      have HOWN := Lib.hid (own_drew (hown.alloc (.cells #[.string ⟨xn.toArray⟩, .string ⟨xv.toArray⟩] 9)))
      have hbw2 := hbw.alloc hbw.size (.cells #[.string ⟨xn.toArray⟩, .string ⟨xv.toArray⟩] 9)
      have hbw3 := hbw2.drew
      have hsz3 := hbw3.size
      have HB := Lib.hid hbw3
      have hr1 := (Reads.lit wr #[.string ⟨xn.toArray⟩, .string ⟨xv.toArray⟩] 9 (n := 2) (size := 1) rfl).drew
      have h1c : ∀ u ∈ (#[.string ⟨xn.toArray⟩, .string ⟨xv.toArray⟩] : Array Value).toList, u.oneCell' = true := by simp [Value.oneCell']
      have hq1 : 2 * k + 2 ≤ maxLen := by unfold maxLen; omega
      have hq2 : (2 * k + 2) * 16 ≤ 140737488355328 := by omega
      clear hx htk hr hown hbw2 hbw3
      go_wp2_with fail
      go_region_law (refine step_append_any _ rfl (.tmp 11) (.tmp 22) 69 rfl w.heap.size 9 i0 (.string ByteArray.empty) 1 16 Try.underlying69 hi0 hz0 hz1 hz2 rfl (by decide) (.slice A1 (2 * k) c1) (2 * k) (pcells (l.take k)) ?hs HOWN.out _ (some ⟨wr.heap.size, 0, none⟩) 2 2 _ ?hx hr1 h1c hq1 hq2 hsz3 ?_; (case hs => first | rfl | simp [Act.eval] | simp [Act.eval, Act.put]); (case hx => first | rfl | simp [Act.eval] | simp [Act.eval, Act.put]); intro v2 w2 hown2 hg2 _; have hbe2 := Lib.hid (HB.out.grown hg2 hsz3 (fun k hk => (HOWN.out.lt k hk).1)); obtain ⟨A2, cc2, rfl, _, _, _⟩ := own_form hown2; have hown2' := Lib.hid hown2; clear hown2 hg2 d0 d1 hr1 h1c)
      all_goals
        have HO : Hid (w2.ownsRow w.heap.size 9 1 (.slice A2 (2 * (k + 1)) cc2) (2 * (k + 1)) (pcells (l.take (k + 1)))) := by show World.ownsRow _ _ _ _ _ _ _; rw [HT.out]; exact hown2'.out
        go_wp2_with fail
        go_roundw
        case rel => exact ⟨k + 1, A2, cc2, by omega, by go_num, rfl, HO.out, hbe2.out⟩
        case measure => simp [intOf]; omega
    · have hkn : k = n := by omega
      have HO : Hid (wr.ownsRow w.heap.size 9 1 (.slice A1 (2 * k) c1) (2 * n) (pcells l)) := by
        show World.ownsRow _ _ _ _ _ _ _
        rw [List.take_of_length_le (by have := HN.out; omega)] at hown
        rw [← hkn]
        exact hown
      clear hr hown hkn
      go_wp2_with fail
      go_ret
      exact ⟨_, rfl, HO.out, hbw⟩

set_option maxRecDepth 100000 in
set_option maxHeartbeats 1000000 in
theorem rset_any (l : PL) (n : Nat) (hnl : n = l.length) (A : Option Addr) (c : Nat) (nm tx : BS) (w : World) (B : Nat) (hr : Reads w B 2 A n (pcells l)) (hB : B ≤ w.heap.size) (hn : n ≤ 4398046511104) (hv : strOk l) (hnm : nm.length ≤ 140737488351232) (htx : tx.length ≤ 140737488351232) :
    Calls Try.prog 44 #[.slice A n c, .string ⟨nm.toArray⟩, .string ⟨tx.toArray⟩] w (PPost w (putP (nm, tx) l) (setE l nm tx)) := by
  have hp := refProp_any l nm n hnl A c w B hr (by omega)
  have hck := fun q => refProps_any l n hnl A c (w.drewN q) B (show Reads _ _ _ _ _ _ from hr) (by omega) hv
  have hNM := fun W => refName_any nm W hnm
  have hVA := fun W => refValue_any tx W htx
  have hGV : getV l nm = .tuple #[.string ⟨((getP l nm).getD []).toArray⟩, .bool (getP l nm).isSome] := rfl
  obtain ⟨g, hg⟩ : ∃ g, g = (getP l nm).getD [] := ⟨_, rfl⟩
  obtain ⟨t, ht⟩ : ∃ t, t = (getP l nm).isSome := ⟨_, rfl⟩
  rw [← hg, ← ht] at hGV
  rw [hGV] at hp
  have HT := Lib.hid ht
  have HN := Lib.hid hnl
  by_cases hok : propsB l = true
  · have h1 : propsE l = 0 := by unfold propsE; rw [if_pos hok]
    rw [h1] at hck
    have HOK := Lib.hid hok
    clear hg ht hGV hnl hok h1
    cases hnb : nameB nm with
    | false =>
      have HPE : Hid (setE l nm tx = 31) := by show _ = _; unfold setE; rw [if_pos HOK.out, if_neg (by rw [hnb]; simp)]
      rw [hnb] at hNM
      clear hnb hr hVA
      go_enter Try.func44, Try.ntmps44
      go_wp2_with fail
      refine hp.mono ?_
      rintro e w1 ⟨rfl, q1, rfl⟩
      go_wp2_with fail
      refine (hck q1).mono ?_
      rintro e w2 ⟨rfl, q2, hw⟩
      rw [World.drewN_drewN] at hw
      subst hw
      go_wp2_with fail
      refine (hNM _).mono ?_
      rintro e w3 ⟨rfl, hw⟩
      rw [hw]
      clear hw w3
      go_wp2_with fail
      go_ret2
      refine ⟨_, by rw [HPE.out]; rfl, ?_, below_drewN (Below.refl _ _) _⟩
      rw [HPE.out, if_neg (by decide)]; rfl
    | true =>
      rw [hnb] at hNM
      have HNB := Lib.hid hnb
      cases hvb : valB tx with
      | false =>
        have HPE : Hid (setE l nm tx = 9) := by show _ = _; unfold setE; rw [if_pos HOK.out, if_pos HNB.out, if_neg (by rw [hvb]; simp)]
        rw [hvb] at hVA
        clear hvb hnb hr
        go_enter Try.func44, Try.ntmps44
        go_wp2_with fail
        refine hp.mono ?_
        rintro e w1 ⟨rfl, q1, rfl⟩
        go_wp2_with fail
        refine (hck q1).mono ?_
        rintro e w2 ⟨rfl, q2, hw⟩
        rw [World.drewN_drewN] at hw
        subst hw
        go_wp2_with fail
        refine (hNM _).mono ?_
        rintro e w3 ⟨rfl, hw⟩
        rw [hw]
        clear hw w3
        go_wp2_with fail
        refine (hVA _).mono ?_
        rintro e w3 ⟨rfl, hw⟩
        rw [hw]
        clear hw w3
        go_wp2_with fail
        go_ret2
        refine ⟨_, by rw [HPE.out]; rfl, ?_, below_drewN (Below.refl _ _) _⟩
        rw [HPE.out, if_neg (by decide)]; rfl
      | true =>
        rw [hvb] at hVA
        have HVB := Lib.hid hvb
        have hso := propsB_sort l HOK.out
        have h8l := (propsB_small l HOK.out).1
        have hput := fun q => rput_any nm tx l n HN.out A c (w.drewN q) B (show Reads _ _ _ _ _ _ from hr) hB (by have := HN.out; omega)
        rw [rput_put (nm, tx) l hso] at hput
        have HPUT := Lib.hid hput
        clear hput
        by_cases h38 : t = false ∧ n = 8
        · have HPE : Hid (setE l nm tx = 3) := by show _ = _; unfold setE; rw [if_pos HOK.out, if_pos HNB.out, if_pos HVB.out, if_pos ⟨HT.out.symm.trans h38.1, by rw [← HN.out]; exact h38.2⟩]
          obtain ⟨rfl, h8⟩ := h38
          have h8a : ((n : Int) == 8) = true := by simp [h8]
          clear h8 hvb hnb hr h8l hso
          go_enter Try.func44, Try.ntmps44
          go_wp2_with fail
          refine hp.mono ?_
          rintro e w1 ⟨rfl, q1, rfl⟩
          go_wp2_with fail
          refine (hck q1).mono ?_
          rintro e w2 ⟨rfl, q2, hw⟩
          rw [World.drewN_drewN] at hw
          subst hw
          go_wp2_with fail
          refine (hNM _).mono ?_
          rintro e w3 ⟨rfl, hw⟩
          rw [hw]
          clear hw w3
          go_wp2_with fail
          refine (hVA _).mono ?_
          rintro e w3 ⟨rfl, hw⟩
          rw [hw]
          clear hw w3
          go_wp2_with fail
          go_ret2
          refine ⟨_, by rw [HPE.out]; rfl, ?_, below_drewN (Below.refl _ _) _⟩
          rw [HPE.out, if_neg (by decide)]; rfl
        · have HPE : Hid (setE l nm tx = 0) := by show _ = _; unfold setE; rw [if_pos HOK.out, if_pos HNB.out, if_pos HVB.out, if_neg (fun h => h38 ⟨HT.out.trans h.1, by rw [HN.out]; exact h.2⟩)]
          have hcase : t = true ∨ (t = false ∧ ((n : Int) == 8) = false) := by
            cases t with
            | true => exact .inl rfl
            | false => exact .inr ⟨rfl, by simp; exact fun h => h38 ⟨rfl, by omega⟩⟩
          clear h38 hvb hnb hr h8l hso
          rcases hcase with rfl | ⟨rfl, h8a⟩
          all_goals
            go_enter Try.func44, Try.ntmps44
            go_wp2_with fail
            refine hp.mono ?_
            rintro e w1 ⟨rfl, q1, rfl⟩
            go_wp2_with fail
            refine (hck q1).mono ?_
            rintro e w2 ⟨rfl, q2, hw⟩
            rw [World.drewN_drewN] at hw
            subst hw
            go_wp2_with fail
            refine (hNM _).mono ?_
            rintro e w3 ⟨rfl, hw⟩
            rw [hw]
            clear hw w3
            go_wp2_with fail
            refine (hVA _).mono ?_
            rintro e w3 ⟨rfl, hw⟩
            rw [hw]
            clear hw w3
            go_wp2_with fail
            refine (HPUT.out _).mono ?_
            rintro e w4 ⟨v4, rfl, hown, hb⟩
            have HO := Lib.hid hown
            have HB := Lib.hid hb
            clear hown hb
            go_wp2_with fail
            go_ret2
            refine ⟨v4, by rw [HPE.out]; rfl, ?_, (below_drewN (Below.refl _ _) _).trans HB.out⟩
            rw [if_pos HPE.out]
            exact HO.out
  · have h1 : propsE l = 9 := by unfold propsE; rw [if_neg hok]
    rw [h1] at hck
    have HPE : Hid (setE l nm tx = 9) := by show _ = _; unfold setE; rw [if_neg hok]
    clear hg ht hGV hnl hok h1 hr hVA hNM hv
    go_enter Try.func44, Try.ntmps44
    go_wp2_with fail
    refine hp.mono ?_
    rintro e w1 ⟨rfl, q1, rfl⟩
    go_wp2_with fail
    refine (hck q1).mono ?_
    rintro e w2 ⟨rfl, q2, hw⟩
    rw [World.drewN_drewN] at hw
    subst hw
    go_wp2_with fail
    go_ret2
    refine ⟨_, by rw [HPE.out]; rfl, ?_, below_drewN (Below.refl _ _) _⟩
    rw [HPE.out, if_neg (by decide)]; rfl

set_option maxRecDepth 100000 in
set_option maxHeartbeats 1000000 in
theorem runset_any (l : PL) (n : Nat) (hnl : n = l.length) (A : Option Addr) (c : Nat) (nm : BS) (w : World) (B : Nat) (hr : Reads w B 2 A n (pcells l)) (hB : B ≤ w.heap.size) (hn : n ≤ 4398046511104) (hv : strOk l) :
    Calls Try.prog 46 #[.slice A n c, .string ⟨nm.toArray⟩] w (PPost w (dropP nm l) (unsetE l nm)) := by
  obtain ⟨i0, hi0, hz0, hz1, hz2⟩ := info_parts Try.infoP
  have hp := refProp_any l nm n hnl A c w B hr (by omega)
  have hck := fun q => refProps_any l n hnl A c (w.drewN q) B (show Reads _ _ _ _ _ _ from hr) (by omega) hv
  have hGV : getV l nm = .tuple #[.string ⟨((getP l nm).getD []).toArray⟩, .bool (getP l nm).isSome] := rfl
  obtain ⟨g, hg⟩ : ∃ g, g = (getP l nm).getD [] := ⟨_, rfl⟩
  obtain ⟨t, ht⟩ : ∃ t, t = (getP l nm).isSome := ⟨_, rfl⟩
  rw [← hg, ← ht] at hGV
  rw [hGV] at hp
  have HT := Lib.hid ht
  have HN := Lib.hid hnl
  by_cases hok : propsB l = true
  · have h1 : propsE l = 0 := by unfold propsE; rw [if_pos hok]
    rw [h1] at hck
    have HOK := Lib.hid hok
    clear hg ht hGV hnl hok h1
    cases t with
    | false =>
      have HPE : Hid (unsetE l nm = 71) := by show _ = _; unfold unsetE; rw [if_pos HOK.out, if_neg (by rw [← HT.out]; simp)]
      clear hr
      go_enter Try.func46, Try.ntmps46
      go_wp2_with fail
      refine hp.mono ?_
      rintro e w1 ⟨rfl, q1, rfl⟩
      go_wp2_with fail
      refine (hck q1).mono ?_
      rintro e w2 ⟨rfl, q2, hw⟩
      rw [World.drewN_drewN] at hw
      subst hw
      go_wp2_with fail
      go_ret2
      refine ⟨_, by rw [HPE.out]; rfl, ?_, below_drewN (Below.refl _ _) _⟩
      rw [HPE.out, if_neg (by decide)]; rfl
    | true =>
      have HPE : Hid (unsetE l nm = 0) := by show _ = _; unfold unsetE; rw [if_pos HOK.out, if_pos HT.out.symm]
      go_enter Try.func46, Try.ntmps46
      go_wp2_with fail
      refine hp.mono ?_
      rintro e w1 ⟨rfl, q1, rfl⟩
      go_wp2_with fail
      refine (hck q1).mono ?_
      rintro e w2 ⟨rfl, q2, hw⟩
      rw [World.drewN_drewN] at hw
      subst hw
      go_wp2_with fail
      go_loopw [8, 9] (fun o i wr => ∃ (k m : Nat) (A1 : Option Addr) (c1 : Nat), k ≤ n ∧ m ≤ k ∧ i = .int .i64 (k : Int) ∧ o = .slice A1 m c1 ∧ Hid (m = (dropP nm (l.take k)).length) ∧ wr.ownsRow w.heap.size 99 2 (.slice A1 m c1) m (pcells (dropP nm (l.take k))) ∧ Below w.heap.size w wr) (fun _ i _ => n - (intOf i).toNat)
      case atStart => exact ⟨0, 0, none, 0, Nat.zero_le _, Nat.le_refl _, rfl, rfl, (show _ = _ from rfl), ⟨rfl, .inl ⟨rfl, rfl⟩⟩, below_drewN (Below.refl _ _) _⟩
      case round =>
        obtain ⟨k, m, A1, c1, hk, hmk, rfl, rfl, hm, hown, hbw⟩ := hrel
        by_cases hlt : k < n
        · have hki : (k : Int) < (n : Int) := by omega
          have hkl : k < l.length := by have := HN.out; omega
          obtain ⟨ad, rfl, hadB, d0, d1⟩ := (hr.below (hbw.mono hB)).prop HN.out hlt
          obtain ⟨x, hx⟩ : ∃ x, x = l[k]'hkl := ⟨_, rfl⟩
          have htk := List.take_succ_eq_append_getElem hkl
          rw [← hx] at d0 d1 htk
          obtain ⟨xn, xv⟩ := x
          simp only [strV] at d0 d1
          by_cases hxn : xn = nm
          · have hd : (xn == nm) = true := by simp [hxn]
            have hd2 : (xn != nm) = false := by simp [hxn]
            have HT2 : Hid (dropP nm (l.take (k + 1)) = dropP nm (l.take k)) := by show _ = _; rw [htk]; unfold dropP; rw [List.filter_append]; simp [hxn]
            have HO := Lib.hid hown
            clear hx htk hr hown hxn
            go_wp2_with fail
            go_roundw
            case rel => exact ⟨k + 1, m, A1, c1, by omega, by omega, by go_num, rfl, (by show _ = _; rw [HT2.out]; exact hm.out), by rw [HT2.out]; exact HO.out, hbw⟩
            case measure => simp [intOf]; omega
          · have hd : (xn == nm) = false := by simp [hxn]
            have hd2 : (xn != nm) = true := by simp [hxn]
            have HT2 : Hid (dropP nm (l.take (k + 1)) = dropP nm (l.take k) ++ [(xn, xv)]) := by show _ = _; rw [htk]; unfold dropP; rw [List.filter_append]; simp [hxn]
            have hsz2 := hbw.size
            clear hx htk hr hxn
            go_wp2_with (at_builtin; (refine wpList_push _ rfl (.tmp 36) (.tmp 41) 22 rfl w.heap.size 99 i0 (.agg #[.string ByteArray.empty, .string ByteArray.empty]) 2 32 Try.underlying22 hi0 hz0 hz1 hz2 rfl (by decide) (.slice A1 m c1) m _ rfl hown 1 #[.string ⟨xn.toArray⟩, .string ⟨xv.toArray⟩] 99 (by simp [Act.eval]) rfl (by simp [Value.oneCell']) (by unfold maxLen; omega) (by omega) hsz2 ?_); intro v5 w5 hown5 hb5 _)
            obtain ⟨A5, c5, rfl, _, _, _⟩ := own_form hown5
            have HB := Lib.hid (hbw.trans hb5)
            have HO : Hid (w5.ownsRow w.heap.size 99 2 (.slice A5 (m + 1) c5) (m + 1) (pcells (dropP nm (l.take (k + 1))))) := by show World.ownsRow _ _ _ _ _ _ _; rw [HT2.out, pcells_append]; exact hown5
            clear hown hown5 hbw hb5 d0 d1
            go_wp2_with fail
            go_roundw
            case rel => exact ⟨k + 1, m + 1, A5, c5, by omega, by omega, by go_num, rfl, (by show _ = _; rw [HT2.out, List.length_append, ← hm.out]; rfl), HO.out, HB.out⟩
            case measure => simp [intOf]; omega
        · have HLL : Hid (m = (dropP nm l).length) := by
            show _ = _
            have := hm.out
            rwa [List.take_of_length_le (by have := HN.out; omega)] at this
          have HO : Hid (wr.ownsRow w.heap.size 99 2 (.slice A1 m c1) m (pcells (dropP nm l))) := by
            show World.ownsRow _ _ _ _ _ _ _
            rwa [List.take_of_length_le (by have := HN.out; omega)] at hown
          clear hr hown hm
          go_wp2_with fail
          go_ret2
          refine ⟨_, by rw [HPE.out]; rfl, ?_, hbw⟩
          rw [if_pos HPE.out, ← HLL.out]
          exact HO.out
  · have h1 : propsE l = 9 := by unfold propsE; rw [if_neg hok]
    rw [h1] at hck
    have HPE : Hid (unsetE l nm = 9) := by show _ = _; unfold unsetE; rw [if_neg hok]
    clear hg ht hGV hnl hok h1 hr hv
    go_enter Try.func46, Try.ntmps46
    go_wp2_with fail
    refine hp.mono ?_
    rintro e w1 ⟨rfl, q1, rfl⟩
    go_wp2_with fail
    refine (hck q1).mono ?_
    rintro e w2 ⟨rfl, q2, hw⟩
    rw [World.drewN_drewN] at hw
    subst hw
    go_wp2_with fail
    go_ret2
    refine ⟨_, by rw [HPE.out]; rfl, ?_, below_drewN (Below.refl _ _) _⟩
    rw [HPE.out, if_neg (by decide)]; rfl
end Go.Proofs.Ythfjfkjlgdnohaa
