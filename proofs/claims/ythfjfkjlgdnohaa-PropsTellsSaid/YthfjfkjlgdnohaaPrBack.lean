/-
  PropsBack, walked; an argument that is a list of texts.
-/
import Derived.Test.YthfjfkjlgdnohaaPrRead
import Derived.Test.YthfjfkjlgdnohaaRefPr
import Derived.Test.YthfjfkjlgdnohaaPrArg
namespace Go.Proofs.Ythfjfkjlgdnohaa
open Go.RowKit Go.ChangeShapes Go.WideShapes Go.ChangeAt

theorem reads_up {w W : World} {B size n : Nat} {A : Option Addr} {xs : List Value} (h : Reads w B size A n xs) (hb : Below w.heap.size w W) (hB : B ≤ w.heap.size) : Reads W W.heap.size size A n xs := by
  have := h.below (hb.mono hB)
  exact ⟨this.1, fun h0 => by obtain ⟨ad, e, h1, hc⟩ := this.2 h0; have := hb.size; exact ⟨ad, e, by omega, hc⟩⟩
set_option maxRecDepth 100000 in
set_option maxHeartbeats 2000000 in
theorem propsBack_any (l : PL) (s : List BS) (n m : Nat) (hnl : n = l.length) (hms : m = s.length) (A1 A2 : Option Addr) (c1 c2 : Nat) (hc2 : m ≤ c2) (hcm : c2 ≤ 9223372036854775807) (w : World) (hr1 : Reads w w.heap.size 2 A1 n (pcells l)) (hr2 : Reads w w.heap.size 1 A2 m (scells s))
    (h1 : strOk l) (h2 : ∀ x ∈ s, x.length ≤ 140737488351232) (hn : n ≤ 4398046511104) (hm : m ≤ 8796093022208) :
    LawCalls Try.prog 12 #[.slice A1 n c1, .slice A2 m c2] w := by
  have hpt : ∀ x ∈ ptexts l, x.length ≤ 140737488351232 := by
    intro x hx
    obtain ⟨y, hy, hxy⟩ := List.mem_flatMap.1 hx
    have := h1 y hy
    rcases List.mem_cons.1 hxy with rfl | hxy
    · exact this.1
    · rw [List.mem_singleton] at hxy
      subst hxy
      exact this.2
  have t1 := fun W (hb : Below w.heap.size w W) => text_any l n hnl A1 c1 W _ (hr1.below hb) hb.size hn
  have p1 := fun W (hb : Below w.heap.size w W) => refProps_any l n hnl A1 c1 W _ (hr1.below hb) (by omega) h1
  have R1 := Lib.hid (fun W (hb : Below w.heap.size w W) => hr1.below hb)
  have R2 := Lib.hid (fun W (hb : Below w.heap.size w W) => hr2.below hb)
  have T1 := Lib.hid t1
  have P1 := Lib.hid p1
  have HN := Lib.hid hnl
  have HM := Lib.hid hms
  have HPT := Lib.hid hpt
  have H2 := Lib.hid h2
  clear t1 p1 hr1 hr2 hnl hms hpt h1 h2
  show Calls _ _ _ _ _
  go_enter Try.func12, Try.ntmps12
  go_wp2_with fail
  refine (alive12_any _).mono ?_
  rintro e w1 ⟨rfl, hb1⟩
  go_wp2_with fail
  refine (T1.out w1 hb1).mono ?_
  clear T1
  rintro e w2 ⟨v2, rfl, hown2, hb2⟩
  have hb12 := hb1.trans (hb2.mono hb1.size)
  obtain ⟨A3, c3, rfl, hc31, hc32, r3⟩ := own_form hown2
  have hrd := prRead_any (ptexts l) (2 * n) (by rw [ptexts_len, ← HN.out]) A3 c3 w2 _ r3 HPT.out (Nat.le_refl _) hc31 hc32 (by omega) n rfl
  unfold ReadPPost at hrd
  rw [readP_texts] at hrd
  obtain ⟨E, hE⟩ : ∃ E, E = propsE l := ⟨_, rfl⟩
  have hEb : (E = 0 ↔ propsB l = true) ∧ (E = 0 ∨ E = 9) := by
    rw [hE]
    unfold propsE
    cases propsB l <;> simp
  rw [← hE] at hrd
  simp only [← hE] at P1
  clear hown2 r3 hb1 hb2 hE
  go_wp2_with fail
  refine hrd.mono ?_
  clear hrd
  rintro e w3 ⟨⟨v3, rfl, hv3⟩, hb3⟩
  have hb13 := hb12.trans (hb3.mono hb12.size)
  go_wp2_with fail
  refine (num12_any E _).mono ?_
  rintro e w4 ⟨rfl, hw⟩
  rw [hw]
  clear hw w4
  go_wp2_with fail
  refine (P1.out _ hb13).mono ?_
  clear P1
  rintro e w4 ⟨rfl, q4, rfl⟩
  have hd1 : (E != E) = false := by simp
  have hb14 := below_drewN hb13 q4
  -- what comes behind: the texts that were handed in
  have hrest : Hid (∀ W, Below w.heap.size w W → Calls Try.prog 39 #[.slice A2 m c2] W fun e w' => ∃ v F, e = .returned (.tuple #[v, .int .i64 F]) ∧
      ((F ≠ 0 ∧ v = .slice none 0 0) ∨ (F = 0 ∧ ∃ L : PL, ptexts L = s ∧ ∃ A4 c4, v = .slice A4 L.length c4 ∧ L.length ≤ 8 ∧ Reads w' w'.heap.size 2 A4 L.length (pcells L))) ∧ Below w.heap.size w w') := by
    show ∀ W, _ → _
    intro W hb
    by_cases hodd : m % 2 = 1
    · refine (prRead_odd m A2 c2 W hodd).mono ?_
      rintro e w' ⟨rfl, rfl⟩
      exact ⟨_, 8, rfl, .inl ⟨by decide, rfl⟩, hb⟩
    · have hM : m = 2 * (m / 2) := by omega
      refine (prRead_any s m HM.out A2 c2 W _ (R2.out W hb) H2.out hb.size hc2 hcm hm (m / 2) hM).mono ?_
      rintro e w' ⟨⟨v, rfl, hv⟩, hb'⟩
      refine ⟨v, propsE (readP s), rfl, ?_, hb.trans (hb'.mono hb.size)⟩
      cases hp : propsB (readP s) with
      | true =>
        rw [hp] at hv
        right
        refine ⟨by unfold propsE; rw [if_pos hp], readP s, texts_readP s (by rw [← HM.out]; omega), ?_⟩
        have hlen : m / 2 = (readP s).length := by unfold readP rdP; rw [List.length_map, List.length_range, ← HM.out]
        rw [hlen] at hv
        obtain ⟨A4, c4, rfl, _, _, r4⟩ := own_form hv
        exact ⟨A4, c4, rfl, (propsB_small _ hp).1, r4⟩
      | false =>
        rw [hp] at hv
        left
        exact ⟨by unfold propsE; rw [if_neg (by rw [hp]; simp)]; decide, hv⟩
  have hfin : Hid (∀ W L A4 c4, Below w.heap.size w W → ptexts L = s → (L : PL).length ≤ 8 → Reads W W.heap.size 2 A4 L.length (pcells L) → Calls Try.prog 40 #[.slice A4 L.length c4] W fun e w' => ∃ A5 c5, e = .returned (.slice A5 (2 * L.length) c5) ∧ Reads w' w'.heap.size 1 A5 (2 * L.length) (scells s) ∧ 2 * L.length = s.length ∧ Below w.heap.size w w') := by
    show ∀ W L A4 c4, _ → _ → _ → _ → _
    intro W L A4 c4 hb hpt h8 hrr
    refine (text_any L L.length rfl A4 c4 W _ hrr (Nat.le_refl _) (by omega)).mono ?_
    rintro e w' ⟨v, rfl, hv, hb'⟩
    rw [hpt] at hv
    obtain ⟨A5, c5, rfl, _, _, r5⟩ := own_form hv
    exact ⟨A5, c5, rfl, r5, by rw [← hpt, ptexts_len], hb.trans (hb'.mono hb.size)⟩
  have hlast : Hid (∀ W k A5 c5, Below w.heap.size w W → k = s.length → Reads W W.heap.size 1 A5 k (scells s) → Calls Try.prog 42 #[.slice A5 k c5, .slice A2 m c2] W fun e w' => e = .returned (.bool true) ∧ ∃ q, w' = W.drewN q) := by
    show ∀ W k A5 c5, _ → _ → _ → _
    intro W k A5 c5 hb hk hrr
    have := texts_any s s k m hk HM.out A5 A2 c5 c2 W _ _ hrr (R2.out W hb) (by have := HM.out; omega) hm
    rw [decide_eq_true (show s = s from rfl)] at this
    exact this
  obtain ⟨hE1, hE2⟩ := hEb
  rcases hE2 with h0 | h9
  · subst h0
    have hpb := hE1.1 rfl
    rw [hpb, if_pos rfl] at hv3
    rw [HN.out] at hv3
    obtain ⟨A4, c4, rfl, _, _, r4⟩ := own_form hv3
    rw [← HN.out] at r4 ⊢
    have hsm := sameProps_any l l n n HN.out HN.out A1 A4 c1 c4 (w3.drewN q4) _ _ (R1.out _ hb14) (show Reads (w3.drewN q4) w3.heap.size 2 A4 n (pcells l) from r4) (by omega) (by omega)
    rw [decide_eq_true (show l = l from rfl)] at hsm
    clear hv3 r4 hpb hE1 R1
    go_wp2_with fail
    refine (num12_any 0 _).mono ?_
    rintro e w5 ⟨rfl, rfl⟩
    go_wp2_with fail
    refine hsm.mono ?_
    clear hsm
    rintro e w5 ⟨rfl, q5, rfl⟩
    have hb15 := below_drewN hb13 (q4 + q5)
    go_wp2_with fail
    refine (hrest.out _ hb15).mono ?_
    clear hrest
    rintro e w6 ⟨v6, F, rfl, hvF, hb6⟩
    go_wp2_with fail
    refine (num12_any F _).mono ?_
    rintro e w7 ⟨rfl, hw⟩
    rw [hw]
    clear hw w7
    rcases hvF with ⟨hF, rfl⟩ | ⟨rfl, L, hL, A6, c6, rfl, hL8, r6⟩
    · have hd2 : (F != 0) = true := by simp [hF]
      clear hF hfin hlast
      go_wp2_with fail
      go_ret
      exact ⟨rfl, hb6⟩
    · have htx := hfin.out w6 L A6 c6 hb6 hL hL8 r6
      obtain ⟨k, hk⟩ : ∃ k, k = L.length := ⟨_, rfl⟩
      rw [← hk] at htx ⊢
      clear r6 hk hL8 hfin
      go_wp2_with fail
      refine (num12_any 0 _).mono ?_
      rintro e w7 ⟨rfl, hw⟩
      rw [hw]
      clear hw w7
      go_wp2_with fail
      refine htx.mono ?_
      clear htx
      rintro e w8 ⟨A8, c8, rfl, r8, hk8, hb8⟩
      have hls := hlast.out w8 _ A8 c8 hb8 hk8 r8
      clear r8 hk8 hlast
      go_wp2_with fail
      refine hls.mono ?_
      clear hls
      rintro e w9 ⟨rfl, q9, rfl⟩
      go_wp2_with fail
      go_ret
      exact ⟨rfl, below_drewN hb8 q9⟩
  · subst h9
    clear hv3 hE1 R1
    go_wp2_with fail
    refine (num12_any 9 _).mono ?_
    rintro e w5 ⟨rfl, rfl⟩
    go_wp2_with fail
    refine (hrest.out _ hb14).mono ?_
    clear hrest
    rintro e w6 ⟨v6, F, rfl, hvF, hb6⟩
    go_wp2_with fail
    refine (num12_any F _).mono ?_
    rintro e w7 ⟨rfl, hw⟩
    rw [hw]
    clear hw w7
    rcases hvF with ⟨hF, rfl⟩ | ⟨rfl, L, hL, A6, c6, rfl, hL8, r6⟩
    · have hd2 : (F != 0) = true := by simp [hF]
      clear hF hfin hlast
      go_wp2_with fail
      go_ret
      exact ⟨rfl, hb6⟩
    · have htx := hfin.out w6 L A6 c6 hb6 hL hL8 r6
      obtain ⟨k, hk⟩ : ∃ k, k = L.length := ⟨_, rfl⟩
      rw [← hk] at htx ⊢
      clear r6 hk hL8 hfin
      go_wp2_with fail
      refine (num12_any 0 _).mono ?_
      rintro e w7 ⟨rfl, hw⟩
      rw [hw]
      clear hw w7
      go_wp2_with fail
      refine htx.mono ?_
      clear htx
      rintro e w8 ⟨A8, c8, rfl, r8, hk8, hb8⟩
      have hls := hlast.out w8 _ A8 c8 hb8 hk8 r8
      clear r8 hk8 hlast
      go_wp2_with fail
      refine hls.mono ?_
      clear hls
      rintro e w9 ⟨rfl, q9, rfl⟩
      go_wp2_with fail
      go_ret
      exact ⟨rfl, below_drewN hb8 q9⟩
theorem ArgIn.strs {H : Type} {enc : TypeId × Value → H} {P : Program} {W : World} {t e : TypeId} {v : Value} {d : DataW H} (ht : P.underlying t = some (.slice e)) (he : P.underlying e = some .string) (hC : P.cellsOf e = 1) (hB : P.bytesOf e = 16) (h : ArgIn enc P W t v d) :
    ∃ (A : Option Addr) (l : List BS) (n c : Nat), v = .slice A n c ∧ n = l.length ∧ n ≤ c ∧ c ≤ 8796093022208 ∧ Reads W W.heap.size 1 A n (scells l) ∧ (∀ x ∈ l, x.length ≤ 140737488351232) ∧ n ≤ Rows.uptoBulk d := by
  obtain ⟨⟨base, ho⟩, ⟨p, m, hr⟩, hw⟩ := h
  obtain ⟨A, n, c, rfl⟩ := okWide_slice ht ho
  rcases Go.Deep.open_slice ht hr with ⟨hcs, hx⟩ | ⟨a, l, cc, mm, nn, D, Pl, hcs, _, hl, hm, hmm, hx, hi⟩
  · simp [Value.cells] at hcs
    obtain ⟨rfl, rfl, rfl⟩ := hcs
    exact ⟨none, [], 0, 0, rfl, rfl, Nat.le_refl _, by omega, Reads.none_, (by intro x hx; cases hx), Nat.zero_le _⟩
  · simp [Value.cells] at hcs
    obtain ⟨rfl, rfl, rfl⟩ := hcs
    simp only [Prod.mk.injEq] at hx
    have hmc : mm = c := by rw [hmm]; rfl
    have hcb : c ≤ 8796093022208 := by
      have := hw ((((List.range n).map D).length + ((List.range (mm - n)).map fun j => D (n + j)).length) * 16) (by rw [hx.1]; simp [DataW.weights, ht, hB])
      simp only [reachBytes, List.length_map, List.length_range] at this
      omega
    have hq : ∀ i, i < n → ∃ x : BS, W.cell? (a.add i) = some (.string ⟨x.toArray⟩) ∧ x.length ≤ 140737488351232 := by
      intro i hin
      obtain ⟨cs', hc, ht'⟩ := hi i (by omega)
      rw [hC] at hc
      obtain ⟨_, hcl, hat⟩ := World.cells?_some hc
      obtain ⟨s0, hs0, hd0, _⟩ := DataW.trod_string he ht'
      simp only [Prod.mk.injEq] at hd0
      have hcell := hat 0 (by omega)
      rw [add_zero, Nat.mul_one] at hcell
      have hmem := hw s0.data.toList.length (by
        rw [hx.1]
        simp only [DataW.weights, ht, List.mem_cons, List.mem_append]
        right
        left
        refine weightsAll_mem (List.mem_map.2 ⟨i, List.mem_range.2 hin, rfl⟩) ?_
        rw [hd0.1]
        simp [DataW.weights])
      refine ⟨s0.data.toList, ?_, hmem⟩
      rw [hcell]
      subst hs0
      simp
    obtain ⟨f, hf2⟩ : ∃ f : Nat → BS, ∀ i, i < n → W.cell? (a.add i) = some (.string ⟨(f i).toArray⟩) ∧ (f i).length ≤ 140737488351232 :=
      ⟨fun i => if h : i < n then Classical.choose (hq i h) else [], fun i hi => by simp only [dif_pos hi]; exact Classical.choose_spec (hq i hi)⟩
    refine ⟨some a, (List.range n).map f, n, c, rfl, by simp, hl, hcb, ⟨by rw [scells_length]; simp, fun hn => ⟨a, rfl, ?_, fun j u hu => ?_⟩⟩, ?_, ?_⟩
    · have := World.block_lt_of_cell? W _ (hf2 0 hn).1
      rwa [block_of_add] at this
    · unfold scells at hu
      rw [List.getElem?_map, List.getElem?_map] at hu
      obtain ⟨x, hx1, rfl⟩ := Option.map_eq_some_iff.1 hu
      obtain ⟨y, hy1, rfl⟩ := Option.map_eq_some_iff.1 hx1
      obtain ⟨hj, hy2⟩ := List.getElem?_eq_some_iff.1 hy1
      rw [List.getElem_range] at hy2
      subst hy2
      exact (hf2 j (by simpa using hj)).1
    · intro x hx2
      obtain ⟨i, hi, rfl⟩ := List.mem_map.1 hx2
      exact (hf2 i (List.mem_range.1 hi)).2
    · rw [hx.1]
      simp only [Rows.uptoBulk]
      have := bulkAll_mem (L := (List.range n).map D) (fun x hx2 => by
        obtain ⟨i, hin, rfl⟩ := List.mem_map.1 hx2
        obtain ⟨cs', hc, ht'⟩ := hi i (by have := List.mem_range.1 hin; omega)
        obtain ⟨s0, hs0, hd0, _⟩ := DataW.trod_string he ht'
        simp only [Prod.mk.injEq] at hd0
        rw [hd0.1]
        simp [Rows.uptoBulk])
      simp at this
      omega
end Go.Proofs.Ythfjfkjlgdnohaa
