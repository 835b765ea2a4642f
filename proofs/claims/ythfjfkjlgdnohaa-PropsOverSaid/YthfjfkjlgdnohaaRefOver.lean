/-
  The reference's Over, by its contract.
-/
import Derived.Test.YthfjfkjlgdnohaaRefPut
namespace Go.Proofs.Ythfjfkjlgdnohaa
open Go.RowKit

theorem allP_len (l : PL) : (allP l).length ≤ l.length := by
  have hp : ∀ (p : BS × BS) (l : PL), (putP p l).length ≤ l.length + 1 := by
    intro p l
    induction l with
    | nil => simp [putP]
    | cons x l ih =>
      unfold putP
      split
      · simp
      split
      · simp
      · simp only [List.length_cons]; omega
  induction l using snoc_ind with
  | h0 => exact Nat.zero_le _
  | h1 l p ih =>
    rw [allP_snoc, List.length_append]
    have := hp p (allP l)
    simp only [List.length_cons, List.length_nil]
    omega
set_option maxRecDepth 100000 in
set_option maxHeartbeats 2000000 in
theorem refOver_any (ls : List (Value × PL)) (n : Nat) (hnl : n = ls.length) (A : Option Addr) (c : Nat) (w : World) (B : Nat) (hr : Reads w B 1 A n (ls.map (·.1))) (hB : B ≤ w.heap.size)
    (hin : ∀ p ∈ ls, PropsIn w B p.1 p.2) (hn : n ≤ 100000) :
    Calls Try.prog 25 #[.slice A n c] w (OverPost w (allP (ls.map (·.2)).flatten) (overE (ls.map (·.2)))) := by
  have HN := Lib.hid hnl
  have HI := Lib.hid hin
  obtain ⟨F, hF⟩ : ∃ F, F = allP (ls.map (·.2)).flatten := ⟨_, rfl⟩
  obtain ⟨E, hE⟩ : ∃ E, E = overE (ls.map (·.2)) := ⟨_, rfl⟩
  rw [← hF, ← hE]
  have HF := Lib.hid hF
  have HEE := Lib.hid hE
  clear hnl hin hF hE
  go_enter Try.func25, Try.ntmps25
  go_wp2_with fail
  go_loopw [4, 5] (fun o i wr => ∃ (k : Nat) (A1 : Option Addr) (c1 m : Nat) (O pre : PL), k ≤ n ∧ i = .int .i64 (k : Int) ∧ o = .slice A1 m c1 ∧ m ≤ 8 * k ∧ Hid (m = O.length ∧ pre.length ≤ 8 * k ∧ pre = ((ls.take k).map (·.2)).flatten ∧ O = allP pre ∧ (ls.take k).all (fun p => propsB p.2) = true) ∧
      wr.ownsRow w.heap.size 99 2 (.slice A1 m c1) m (pcells O) ∧ Below w.heap.size w wr) (fun _ i _ => n - (intOf i).toNat)
  case atStart => exact ⟨0, none, 0, 0, [], [], Nat.zero_le _, rfl, rfl, Nat.zero_le _, ⟨rfl, Nat.zero_le _, rfl, rfl, rfl⟩, ⟨rfl, .inl ⟨rfl, rfl⟩⟩, Below.refl _ _⟩
  case round =>
    obtain ⟨k, A1, c1, m, O, pre, hk, rfl, rfl, hm8, hI, hown, hbw⟩ := hrel
    by_cases hlt : k < n
    · have hki : (k : Int) < (n : Int) := by omega
      have hkl : k < ls.length := by have := HN.out; omega
      obtain ⟨ad, u, rfl, hadB, hxu, hcell⟩ := (hr.below (hbw.mono hB)).at_ hlt
      obtain ⟨p, hp⟩ : ∃ p, p = ls[k]'hkl := ⟨_, rfl⟩
      have hup : u = p.1 := by
        rw [List.getElem?_map, List.getElem?_eq_getElem hkl] at hxu
        rw [hp]
        exact (Option.some.inj hxu).symm
      subst hup
      have hpl : p ∈ ls := by rw [hp]; exact List.getElem_mem _
      have htk := List.take_succ_eq_append_getElem hkl
      rw [← hp] at htk
      obtain ⟨⟨A2, n2, c2, hpv, hn2, hn2m, hr2⟩, hsok⟩ := HI.out p hpl
      obtain ⟨pv, l2⟩ := p
      simp only at hpv hn2 hr2 hsok hcell
      subst hpv
      have hck := refProps_any l2 n2 hn2 A2 c2 wr B (hr2.below (hbw.mono hB)) hn2m hsok
      have HPL := Lib.hid hpl
      have HTK := Lib.hid htk
      have HN2 := Lib.hid hn2
      have hadw : (ad.add k).block < w.heap.size := by rw [block_of_add]; omega
      have HC := Lib.hid (fun W (hb : Below w.heap.size wr W) => (hb.cell (p := ad.add k) hadw).trans hcell)
      clear hp hpl htk hxu hn2
      obtain ⟨b, hb⟩ : ∃ b, b = propsB l2 := ⟨_, rfl⟩
      have hPE : propsE l2 = if b = true then 0 else 9 := by rw [hb]; rfl
      rw [hPE] at hck
      have HBB := Lib.hid hb
      clear hPE hb
      cases b with
      | false =>
        have hE : Hid (E = 9) := by
          show _ = _
          rw [HEE.out]
          unfold overE
          rw [if_neg]
          rw [List.all_eq_true]
          intro h
          have := h l2 (List.mem_map.2 ⟨_, HPL.out, rfl⟩)
          rw [← HBB.out] at this
          cases this
        rw [if_neg (by simp)] at hck
        clear hr hr2 hown HC
        go_wp2_with fail
        refine hck.mono ?_
        clear hck
        rintro e w1 ⟨rfl, q, rfl⟩
        go_wp2_with fail
        go_ret2
        exact ⟨.slice none 0 0, by rw [hE.out]; rfl, by rw [hE.out, if_neg (by decide)], below_drewN hbw q⟩
      | true =>
        rw [if_pos rfl] at hck
        obtain ⟨hl8, hsm⟩ := propsB_small l2 HBB.out.symm
        have hn8 : n2 ≤ 8 := by have := HN2.out; omega
        clear hsm hl8 hsok
        go_wp2_with fail
        refine hck.mono ?_
        clear hck
        rintro e w1 ⟨rfl, q, rfl⟩
        have hown1 : (wr.drewN q).ownsRow w.heap.size 99 2 (.slice A1 m c1) m (pcells O) := hown
        have hbw1 := below_drewN hbw q
        have hcell1 := HC.out (wr.drewN q) (below_drewN (Below.refl _ _) q)
        obtain ⟨hmO, hpre8, hpre, hO, hall⟩ := hI.out
        have HPRE : Hid (((ls.take (k + 1)).map (·.2)).flatten = pre ++ l2) := by show _ = _; rw [HTK.out, hpre]; simp
        have HALL : Hid ((ls.take (k + 1)).all (fun p => propsB p.2) = true) := by show _ = _; rw [HTK.out, List.all_append, hall]; simp [HBB.out.symm]
        have H8 := Lib.hid hpre8
        have HO1 := Lib.hid (And.intro hmO hO)
        clear hown hmO hpre8 hpre hO hall hI hbw
        generalize hWW : wr.drewN q = W1 at hown1 hbw1 hcell1 ⊢
        have HC1 : Hid (∀ W, Below w.heap.size W1 W → W.cell? (ad.add k) = some (.slice A2 n2 c2)) := fun W hb => (hb.cell (p := ad.add k) hadw).trans hcell1
        clear HC hWW
        go_wp2_with fail
        go_loopw [4, 6] (fun o i wr => ∃ (j : Nat) (A1 : Option Addr) (c1 m : Nat) (O : PL), j ≤ n2 ∧ i = .int .i64 (j : Int) ∧ o = .slice A1 m c1 ∧ m ≤ 8 * k + j ∧ Hid (m = O.length ∧ O = allP (pre ++ l2.take j)) ∧
            wr.ownsRow w.heap.size 99 2 (.slice A1 m c1) m (pcells O) ∧ Below w.heap.size w wr ∧ Below w.heap.size W1 wr) (fun _ i _ => n2 - (intOf i).toNat)
        case atStart => exact ⟨0, A1, c1, m, O, Nat.zero_le _, rfl, rfl, by omega, ⟨HO1.out.1, by rw [List.take_zero, List.append_nil]; exact HO1.out.2⟩, hown1, hbw1, Below.refl _ _⟩
        case round =>
          clear hown1 hm8 hcell1 HO1
          obtain ⟨j, A1, c1, m, O, hj, rfl, rfl, hmj, hOj, hown, hbw2, hb12⟩ := hrel
          have hcellj := HC1.out _ hb12
          by_cases hlt2 : j < n2
          · have hji : (j : Int) < (n2 : Int) := by omega
            have hjl : j < l2.length := by have := HN2.out; omega
            obtain ⟨ad2, rfl, hadB2, c0, d0⟩ := (hr2.below (hbw2.mono hB)).prop HN2.out hlt2
            obtain ⟨x, hx⟩ : ∃ x, x = l2[j]'hjl := ⟨_, rfl⟩
            have htk2 := List.take_succ_eq_append_getElem hjl
            rw [← hx] at c0 d0 htk2
            obtain ⟨xn, xv⟩ := x
            simp only [strV] at c0 d0
            obtain ⟨A', c', e', hk1, hk2, hro⟩ := own_form hown
            injection e' with e1 _ e3
            subst e1 e3
            have hput := rput_any xn xv O m hOj.out.1 A1 c1 wr _ hro (Nat.le_refl _) (by omega)
            have hso : SortP O := by rw [hOj.out.2]; exact sort_allP _
            rw [rput_put (xn, xv) O hso] at hput
            have HNX : Hid (putP (xn, xv) O = allP (pre ++ l2.take (j + 1))) := by show _ = _; rw [htk2, ← List.append_assoc, allP_snoc, ← hOj.out.2]
            have HL : Hid ((putP (xn, xv) O).length ≤ 8 * k + (j + 1)) := by
              show _ ≤ _
              rw [HNX.out]
              refine Nat.le_trans (allP_len _) ?_
              rw [List.length_append, List.length_take]
              have := H8.out
              omega
            obtain ⟨O2, hO2⟩ : ∃ O2, O2 = putP (xn, xv) O := ⟨_, rfl⟩
            rw [← hO2] at hput HNX HL
            have hwsz := hbw2.size
            clear hx htk2 hro hso hO2 hown hr hr2
            go_wp2_with fail
            refine hput.mono ?_
            clear hput
            rintro e w4 ⟨v4, rfl, hown4, hb4⟩
            obtain ⟨A4, c4, rfl, _, _, _⟩ := own_form hown4
            have HO4 := Lib.hid (own_mono hown4 hwsz)
            have hbw4 := hbw2.trans (hb4.mono hwsz)
            have hb14 := hb12.trans (hb4.mono hwsz)
            clear hown4 hb4 hbw2 hb12 hcellj c0 d0
            go_wp2_with fail
            go_roundw
            case rel => exact ⟨j + 1, A4, c4, O2.length, O2, by omega, by go_num, rfl, HL.out, ⟨rfl, HNX.out⟩, HO4.out, hbw4, hb14⟩
            case measure => simp [intOf]; omega
          · have hjn : j = n2 := by omega
            have HI2 : Hid (m = O.length ∧ (pre ++ l2).length ≤ 8 * (k + 1) ∧ pre ++ l2 = ((ls.take (k + 1)).map (·.2)).flatten ∧ O = allP (pre ++ l2) ∧ (ls.take (k + 1)).all (fun p => propsB p.2) = true) := by
              refine ⟨hOj.out.1, ?_, HPRE.out.symm, ?_, HALL.out⟩
              · rw [List.length_append]
                have := H8.out
                have := HN2.out
                omega
              · have := hOj.out.2
                rwa [List.take_of_length_le (by have := HN2.out; omega)] at this
            clear hr hr2 hjn
            go_wp2_with fail
            go_roundw
            case rel => exact ⟨k + 1, A1, c1, m, O, pre ++ l2, by omega, by go_num, rfl, by omega, HI2, hown, hbw2⟩
            case measure => simp [intOf]; omega
    · have hkn : k = n := by omega
      have hall : ls.take k = ls := List.take_of_length_le (by have := HN.out; omega)
      obtain ⟨hmO, hpre8, hpre, hO, hal⟩ := hI.out
      rw [hall] at hpre hal
      have hOF : O = F := by rw [hO, hpre, HF.out]
      have HE : Hid (E = if 8 < m then 3 else 0) := by
        show _ = _
        rw [HEE.out]
        unfold overE
        rw [if_pos (by rw [List.all_map]; exact hal), ← hpre, ← hO, ← hmO]
      subst hOF
      have HM := Lib.hid hmO
      clear hmO hpre8 hpre hO hal hI hall hr hkn
      by_cases h8 : 8 < m
      · have hE3 : Hid (E = 3) := by show _ = _; rw [HE.out, if_pos h8]
        have hi8 : (8 : Int) < (m : Int) := by omega
        clear hown HE
        go_wp2_with fail
        go_ret2
        exact ⟨.slice none 0 0, by rw [hE3.out]; rfl, by rw [hE3.out, if_neg (by decide)], hbw⟩
      · have hE0 : Hid (E = 0) := by show _ = _; rw [HE.out, if_neg h8]
        have hi8 : ¬ (8 : Int) < (m : Int) := by omega
        have HO := Lib.hid hown
        clear hown HE
        go_wp2_with fail
        go_ret2
        exact ⟨_, by rw [hE0.out]; rfl, by rw [if_pos hE0.out, ← HM.out]; exact HO.out, hbw⟩
end Go.Proofs.Ythfjfkjlgdnohaa
