/-
  PropsTells, walked.
-/
import Derived.Test.YthfjfkjlgdnohaaRefSet
import Derived.Test.YthfjfkjlgdnohaaPrBack
namespace Go.Proofs.Ythfjfkjlgdnohaa
open Go.RowKit Go.ChangeShapes Go.WideShapes Go.ChangeAt

theorem putP_len (p : BS × BS) (l : PL) : (putP p l).length ≤ l.length + 1 := by
  induction l with
  | nil => exact Nat.le_refl _
  | cons x l ih =>
    unfold putP
    split
    · exact Nat.le_refl _
    · split
      · simp
      · simpa using ih
theorem dropP_len (nm : BS) (l : PL) : (dropP nm l).length ≤ l.length := (List.filter_sublist).length_le
theorem openP {w : World} {F : PL} {E : Int} {e : Ending} {w' : World} (h : PPost w F E e w') {L : PL} (hL : L = if E = 0 then F else []) {k : Nat} (hk : k = L.length) :
    ∃ A c, e = .returned (.tuple #[.slice A k c, .int .i64 E]) ∧ Reads w' w'.heap.size 2 A k (pcells L) ∧ Below w.heap.size w w' := by
  obtain ⟨v, rfl, hv, hb⟩ := h
  subst hL hk
  by_cases h0 : E = 0
  · rw [if_pos h0] at hv ⊢
    obtain ⟨A, c, rfl, _, _, r⟩ := own_form hv
    exact ⟨A, c, rfl, r, hb⟩
  · rw [if_neg h0] at hv ⊢
    subst hv
    exact ⟨none, 0, rfl, Reads.none_, hb⟩

set_option maxRecDepth 100000 in
set_option maxHeartbeats 2000000 in
theorem propsTells_any (l : PL) (nm tx : BS) (n : Nat) (hnl : n = l.length) (A : Option Addr) (c : Nat) (w : World) (hr : Reads w w.heap.size 2 A n (pcells l)) (h1 : strOk l) (hnm : nm.length ≤ 140737488351232) (htx : tx.length ≤ 140737488351232) (hn : n ≤ 4398046511104) :
    LawCalls Try.prog 13 #[.slice A n c, .string ⟨nm.toArray⟩, .string ⟨tx.toArray⟩] w := by
  have h2 : ∀ x ∈ l, x.2.length ≤ 140737488351232 := fun x hx => (h1 x hx).2
  have R := Lib.hid (fun W (hb : Below w.heap.size w W) => hr.below hb)
  have H1 := Lib.hid h1
  obtain ⟨L1, hL1⟩ : ∃ L, L = if setE l nm tx = 0 then putP (nm, tx) l else [] := ⟨_, rfl⟩
  obtain ⟨k1, hk1⟩ : ∃ k, k = L1.length := ⟨_, rfl⟩
  obtain ⟨L2, hL2⟩ : ∃ L, L = if unsetE l nm = 0 then dropP nm l else [] := ⟨_, rfl⟩
  obtain ⟨k2, hk2⟩ : ∃ k, k = L2.length := ⟨_, rfl⟩
  have hkb : k1 ≤ n + 1 ∧ k2 ≤ n := by
    constructor
    · rw [hk1, hL1]
      split
      · have := putP_len (nm, tx) l; omega
      · simp
    · rw [hk2, hL2]
      split
      · have := dropP_len nm l; omega
      · simp
  obtain ⟨hkb1, hkb2⟩ := hkb
  have s1 := fun W (hb : Below w.heap.size w W) => (set_any l n hnl A c nm tx W _ (hr.below hb) hb.size hn h2 htx).mono (fun e w' h => openP h hL1 hk1)
  have s2 := fun W (hb : Below w.heap.size w W) => (rset_any l n hnl A c nm tx W _ (hr.below hb) hb.size hn h1 hnm htx).mono (fun e w' h => openP h hL1 hk1)
  have u1 := fun W (hb : Below w.heap.size w W) => (unset_any l n hnl A c nm W _ (hr.below hb) hb.size hn h2).mono (fun e w' h => openP h hL2 hk2)
  have u2 := fun W (hb : Below w.heap.size w W) => (runset_any l n hnl A c nm W _ (hr.below hb) hb.size hn h1).mono (fun e w' h => openP h hL2 hk2)
  have g1 := fun W (hb : Below w.heap.size w W) => get_any l nm n hnl A c W _ (hr.below hb) hb.size (by omega)
  have g2 := fun W (hb : Below w.heap.size w W) => refProp_any l nm n hnl A c W _ (hr.below hb) (by omega)
  have ck := fun W (hb : Below w.heap.size w W) => checkP_any l n hnl A c W _ (hr.below hb) hb.size (by omega) h2
  have rk := fun W (hb : Below w.heap.size w W) => refProps_any l n hnl A c W _ (hr.below hb) (by omega) h1
  have t1 := fun W (hb : Below w.heap.size w W) => text_any l n hnl A c W _ (hr.below hb) hb.size hn
  have t2 := fun W (hb : Below w.heap.size w W) => refText_any l n hnl A c W _ (hr.below hb) hb.size hn
  have tt := fun (W : World) (B1 B2 : Nat) A1 A2 c1 c2 (h1 : Reads W B1 1 A1 (2 * n) (scells (ptexts l))) (h2 : Reads W B2 1 A2 (2 * n) (scells (ptexts l))) => texts_any (ptexts l) (ptexts l) (2 * n) (2 * n) (by rw [ptexts_len, hnl]) (by rw [ptexts_len, hnl]) A1 A2 c1 c2 W B1 B2 h1 h2 (by omega) (by omega)
  have sp := fun (W : World) (hb : Below w.heap.size w W) A1 c1 (h1 : Reads W W.heap.size 2 A1 k1 (pcells L1)) => psame_any l L1 n k1 hnl hk1 A A1 c c1 W _ _ (hr.below hb) h1 (by omega) (by omega)
  have sr := fun (W : World) (hb : Below w.heap.size w W) A1 c1 (h1 : Reads W W.heap.size 2 A1 k1 (pcells L1)) => sameProps_any l L1 n k1 hnl hk1 A A1 c c1 W _ _ (hr.below hb) h1 (by omega) (by omega)
  have ss1 := fun (W : World) A1 A2 c1 c2 (h1 : Reads W W.heap.size 2 A1 k1 (pcells L1)) (h2 : Reads W W.heap.size 2 A2 k1 (pcells L1)) => sameProps_any L1 L1 k1 k1 hk1 hk1 A1 A2 c1 c2 W _ _ h1 h2 (by omega) (by omega)
  have ss2 := fun (W : World) A1 A2 c1 c2 (h1 : Reads W W.heap.size 2 A1 k2 (pcells L2)) (h2 : Reads W W.heap.size 2 A2 k2 (pcells L2)) => sameProps_any L2 L2 k2 k2 hk2 hk2 A1 A2 c1 c2 W _ _ h1 h2 (by omega) (by omega)
  simp only [decide_true] at tt
  simp only [decide_true] at ss1
  simp only [decide_true] at ss2
  obtain ⟨d, hd⟩ : ∃ d, d = decide (l = L1) := ⟨_, rfl⟩
  simp only [← hd] at sp sr
  obtain ⟨E1, hE1⟩ : ∃ E, E = setE l nm tx := ⟨_, rfl⟩
  obtain ⟨E2, hE2⟩ : ∃ E, E = unsetE l nm := ⟨_, rfl⟩
  obtain ⟨E3, hE3⟩ : ∃ E, E = propsE l := ⟨_, rfl⟩
  simp only [← hE1] at s1 s2
  simp only [← hE2] at u1 u2
  simp only [← hE3] at ck rk
  have hGV : getV l nm = .tuple #[.string ⟨((getP l nm).getD []).toArray⟩, .bool (getP l nm).isSome] := rfl
  simp only [hGV] at g1 g2
  obtain ⟨g, hg⟩ : ∃ g, g = (getP l nm).getD [] := ⟨_, rfl⟩
  obtain ⟨t, ht⟩ : ∃ t, t = (getP l nm).isSome := ⟨_, rfl⟩
  simp only [← hg, ← ht] at g1 g2
  have S1 := Lib.hid s1
  have S2 := Lib.hid s2
  have U1 := Lib.hid u1
  have U2 := Lib.hid u2
  have G1 := Lib.hid g1
  have G2 := Lib.hid g2
  have CK := Lib.hid ck
  have RK := Lib.hid rk
  have T1 := Lib.hid t1
  have T2 := Lib.hid t2
  have TT := Lib.hid tt
  have SP := Lib.hid sp
  have SR := Lib.hid sr
  have SS1 := Lib.hid ss1
  have SS2 := Lib.hid ss2
  have e1 : (E1 != E1) = false := by simp
  have e2 : (E2 != E2) = false := by simp
  have e3 : (E3 == E3) = true := by simp
  have e4 : (g != g) = false := by simp
  have e5 : (t != t) = false := by simp
  have e6 : (d == d) = true := by simp
  clear s1 s2 u1 u2 g1 g2 ck rk t1 t2 tt sp sr ss1 ss2 hL1 hL2 hk1 hk2 hkb1 hkb2 hd hE1 hE2 hE3 hGV hg ht hr h1 h2 hnl hn hnm htx
  show Calls _ _ _ _ _
  go_enter Try.func13, Try.ntmps13
  go_wp2_with fail
  refine (S1.out _ (Below.refl _ _)).mono ?_
  clear S1
  rintro e w1 ⟨Ax, cx, rfl, rx, hb1⟩
  have RX := Lib.hid rx
  clear rx
  go_wp2_with fail
  refine (S2.out _ hb1).mono ?_
  clear S2
  rintro e w2 ⟨Ay, cy, rfl, ry, hb2⟩
  have hb := hb1.trans (hb2.mono hb1.size)
  have RX := Lib.hid (reads_up RX.out hb2 (Nat.le_refl _))
  have RY := Lib.hid ry
  clear ry hb1 hb2
  go_wp2_with fail
  refine (U1.out _ hb).mono ?_
  clear U1
  rintro e w3 ⟨Ap, cp, rfl, rp, hb3⟩
  have hb := hb.trans (hb3.mono hb.size)
  have RX := Lib.hid (reads_up RX.out hb3 (Nat.le_refl _))
  have RY := Lib.hid (reads_up RY.out hb3 (Nat.le_refl _))
  have RP := Lib.hid rp
  clear rp hb3
  go_wp2_with fail
  refine (U2.out _ hb).mono ?_
  clear U2
  rintro e w4 ⟨Aq, cq, rfl, rq, hb4⟩
  have hb := hb.trans (hb4.mono hb.size)
  have RX := Lib.hid (reads_up RX.out hb4 (Nat.le_refl _))
  have RY := Lib.hid (reads_up RY.out hb4 (Nat.le_refl _))
  have RP := Lib.hid (reads_up RP.out hb4 (Nat.le_refl _))
  have RQ := Lib.hid rq
  clear rq hb4
  go_wp2_with fail
  refine (G1.out _ hb).mono ?_
  clear G1
  rintro e w5 ⟨rfl, hb5⟩
  have hb := hb.trans (hb5.mono hb.size)
  have RX := Lib.hid (reads_up RX.out hb5 (Nat.le_refl _))
  have RY := Lib.hid (reads_up RY.out hb5 (Nat.le_refl _))
  have RP := Lib.hid (reads_up RP.out hb5 (Nat.le_refl _))
  have RQ := Lib.hid (reads_up RQ.out hb5 (Nat.le_refl _))
  clear hb5
  go_wp2_with fail
  refine (G2.out _ hb).mono ?_
  clear G2
  rintro e w6 ⟨rfl, q6, rfl⟩
  have hb := below_drewN hb q6
  go_wp2_with fail
  refine (SS1.out (w5.drewN q6) Ax Ay cx cy RX.out RY.out).mono ?_
  clear SS1
  rintro e w7 ⟨rfl, q7, hw⟩
  rw [World.drewN_drewN] at hw
  rw [hw]
  clear hw w7
  generalize hq : q6 + q7 = q
  have hb := below_drewN hb q7
  rw [World.drewN_drewN, hq] at hb
  clear hq
  go_wp2_with fail
  refine (num12_any E1 _).mono ?_
  rintro e w8 ⟨rfl, hw⟩
  rw [hw]
  clear hw w8
  go_wp2_with fail
  refine (SS2.out (w5.drewN q) Ap Aq cp cq RP.out RQ.out).mono ?_
  clear SS2
  rintro e w7 ⟨rfl, q8, hw⟩
  rw [World.drewN_drewN] at hw
  rw [hw]
  clear hw w7
  have hb := below_drewN hb q8
  rw [World.drewN_drewN] at hb
  generalize q + q8 = q at hb ⊢
  go_wp2_with fail
  refine (num12_any E2 _).mono ?_
  rintro e w8 ⟨rfl, hw⟩
  rw [hw]
  clear hw w8
  go_wp2_with fail
  refine (CK.out _ hb).mono ?_
  rintro e w7 ⟨rfl, hb7⟩
  have hb := hb.trans (hb7.mono hb.size)
  have RX := Lib.hid (reads_up (show Reads (w5.drewN q) (w5.drewN q).heap.size 2 Ax k1 (pcells L1) from RX.out) hb7 (Nat.le_refl _))
  clear hb7 RY RP RQ CK
  go_wp2_with fail
  refine (num12_any E3 _).mono ?_
  rintro e w8 ⟨rfl, hw⟩
  rw [hw]
  clear hw w8
  go_wp2_with fail
  refine (RK.out _ hb).mono ?_
  rintro e w8 ⟨rfl, q8, rfl⟩
  have hb := below_drewN hb q8
  clear RK
  go_wp2_with fail
  refine (T1.out _ hb).mono ?_
  rintro e w9 ⟨v9, rfl, hv9, hb9⟩
  have hb := hb.trans (hb9.mono hb.size)
  have RX := Lib.hid (reads_up (show Reads (w7.drewN q8) (w7.drewN q8).heap.size 2 Ax k1 (pcells L1) from RX.out) hb9 (Nat.le_refl _))
  obtain ⟨Aa, ca, rfl, _, _, ra⟩ := own_form hv9
  have RA := Lib.hid ra
  clear hb9 hv9 T1 ra
  go_wp2_with fail
  refine (T2.out _ hb).mono ?_
  rintro e w10 ⟨v10, rfl, hv10, hb10⟩
  have hb := hb.trans (hb10.mono hb.size)
  have RX := Lib.hid (reads_up RX.out hb10 (Nat.le_refl _))
  have RA := Lib.hid (reads_up RA.out hb10 (Nat.le_refl _))
  obtain ⟨Ab, cb, rfl, _, _, rb⟩ := own_form hv10
  have RB := Lib.hid rb
  clear hb10 hv10 T2 rb
  go_wp2_with fail
  refine (TT.out w10 _ _ Aa Ab ca cb RA.out RB.out).mono ?_
  rintro e w11 ⟨rfl, q11, rfl⟩
  have hb := below_drewN hb q11
  clear TT
  go_wp2_with fail
  refine (SP.out (w10.drewN q11) hb Ax cx RX.out).mono ?_
  rintro e w11 ⟨rfl, q12, hw⟩
  rw [World.drewN_drewN] at hw
  rw [hw]
  clear hw w11
  have hb := below_drewN hb q12
  rw [World.drewN_drewN] at hb
  generalize q11 + q12 = q2 at hb ⊢
  go_wp2_with fail
  refine (SR.out (w10.drewN q2) hb Ax cx RX.out).mono ?_
  rintro e w11 ⟨rfl, q12, hw⟩
  rw [World.drewN_drewN] at hw
  rw [hw]
  clear hw w11
  have hb := below_drewN hb q12
  rw [World.drewN_drewN] at hb
  generalize q2 + q12 = q2 at hb ⊢
  go_wp2_with fail
  refine (alive12_any _).mono ?_
  rintro e w12 ⟨rfl, hb12⟩
  have hb := hb.trans (hb12.mono hb.size)
  go_wp2_with fail
  go_ret
  exact ⟨rfl, hb⟩
end Go.Proofs.Ythfjfkjlgdnohaa
