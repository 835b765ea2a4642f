/-
  token.Parse and the page's Untoken, by their contracts.
-/
import Derived.Test.YtjdebhemoeojiaaDoorTkNum
namespace Go.Proofs.YtjdebhemoeojiaaDoor
open Go.RowKit

def untokR (x : BS × Int × Int × Int) : Value := .tuple #[.string ⟨x.1.toArray⟩, .int .i64 x.2.1, .int .i64 x.2.2.1, .int .i64 x.2.2.2]
theorem tnumR_any (s : ByteArray) (w : World) (hs : s.size ≤ 4000000000) : Calls Tryd.prog 52 #[.string s] w (RNum s.data.toList w) := by
  refine (tnum_any s w hs).mono ?_
  rintro e w1 ⟨rfl, hb⟩
  cases h : numO s.data.toList with
  | none => exact ⟨0, by rw [numV_none h, h]; rfl, (fun m hm => (by rw [h] at hm; cases hm)), hb⟩
  | some n => exact ⟨n, by rw [numV_some h, h]; rfl, (fun m hm => (by rw [h] at hm; injection hm with hm; rw [hm])), hb⟩
theorem split58_any (s : ByteArray) (w : World) (hs : s.size ≤ 4000000000) (hm : HasMax w) :
    Calls Tryd.prog 50 #[.string s, .string ⟨#[58]⟩] w fun e w' => ∃ A c, e = .returned (.slice A (partsT s.data.toList).length c) ∧ Reads w' w'.heap.size 1 A (partsT s.data.toList).length (scells (partsT s.data.toList)) ∧ Below w.heap.size w w' := by
  obtain ⟨m, hm⟩ := hm
  refine (Tryd.strings_Split s ⟨#[58]⟩ m w (by omega) hm (Nat.le_refl _)).mono ?_
  rintro e w1 ⟨rfl, rfl⟩
  have h1 := splitB_lenT s
  have h2 := splitB_partsT s
  obtain ⟨L, hL⟩ : ∃ L, L = Lib.splitB ⟨#[58]⟩ 0 (Lib.countB s ⟨#[58]⟩) s := ⟨_, rfl⟩
  rw [← hL] at h1 h2 ⊢
  rw [← h1, ← h2, List.length_map]
  refine ⟨_, _, rfl, ?_, (Below.refl _ _).alloc (Nat.le_refl _) _⟩
  have h3 : scells (L.map (·.data.toList)) = ((L.map Value.string).toArray).toList := by
    unfold scells
    rw [List.map_map]
    refine List.map_congr_left (fun x _ => ?_)
    show Value.string ⟨x.data.toList.toArray⟩ = _
    rw [Array.toArray_toList]
  rw [h3]
  exact (Reads.lit w (L.map Value.string).toArray 9 (by simp)).more (by simp)
theorem parts58_any (s : ByteArray) (w : World) (hs : s.size ≤ 4000000000) :
    Calls Tryd.prog 53 #[.string s, .int .u8 58] w fun e w' => ∃ A c, e = .returned (.slice A (partsT s.data.toList).length c) ∧ Reads w' w'.heap.size 1 A (partsT s.data.toList).length (scells (partsT s.data.toList)) ∧ Below w.heap.size w w' := by
  refine (partsT_any s w hs).mono ?_
  rintro e w1 ⟨v, rfl, ho, hb⟩
  obtain ⟨A, c, rfl, _, _, hr⟩ := own_form ho
  exact ⟨A, c, rfl, hr, hb⟩
set_option maxRecDepth 100000 in
set_option maxHeartbeats 2000000 in
theorem tparse_any (s : ByteArray) (w : World) (hs : s.size ≤ 4000000000) (hmx : HasMax w) :
    Calls Tryd.prog 21 #[.string s] w fun e w' => e = .returned (untokR (untokV s.data.toList)) ∧ Below w.heap.size w w' := by
  have hsp := split58_any s w hs hmx
  have hsmall := partsT_small s.data.toList
  have hsz := Lib.size_eq s
  have hPa : Hid (∀ (x : BS) (W : World), Below w.heap.size w W → x.length ≤ 4000000000 → Calls Tryd.prog 51 #[.string ⟨x.toArray⟩] W fun e W' => e = .returned (.bool (pathB x)) ∧ Below W.heap.size W W') := fun x W hb hx => path_any ⟨x.toArray⟩ W (by show x.length ≤ _; exact hx) (hmx.below hb)
  have hNu : Hid (∀ (x : BS) (W : World), x.length ≤ 4000000000 → Calls Tryd.prog 52 #[.string ⟨x.toArray⟩] W (RNum x W)) := fun x W hx => tnumR_any ⟨x.toArray⟩ W (by show x.length ≤ _; exact hx)
  obtain ⟨P, hP⟩ : ∃ P, P = partsT s.data.toList := ⟨_, rfl⟩
  obtain ⟨V, hV⟩ : ∃ V, V = untokV s.data.toList := ⟨_, rfl⟩
  have hVP : V = untokP P := by rw [hV, hP]; rfl
  rw [← hP] at hsp hsmall
  rw [← hV]
  obtain ⟨n, hn⟩ : ∃ n, n = P.length := ⟨_, rfl⟩
  rw [← hn] at hsp
  have hsmall : ∀ x ∈ P, x.length ≤ 4000000000 := fun x hx => by have := hsmall x hx; omega
  clear hP hV hs hsz
  by_cases h3 : n = 3
  · obtain ⟨p, a, g, rfl⟩ : ∃ p a g, P = [p, a, g] := by
      match P, hn.symm.trans h3 with
      | [p, a, g], _ => exact ⟨p, a, g, rfl⟩
    subst h3
    clear hn
    have hVP : V = if p = [] ∨ pathB p = false then ([], 0, 0, 33) else untok2 p (numO a) (numO g) := hVP
    have hpl := hsmall p (by simp)
    have hpa := hPa.out p
    obtain ⟨oa, hoa⟩ : ∃ o, o = numO a := ⟨_, rfl⟩
    obtain ⟨og, hog⟩ : ∃ o, o = numO g := ⟨_, rfl⟩
    obtain ⟨ba, hba⟩ : ∃ b, b = oa.isSome := ⟨_, rfl⟩
    obtain ⟨bg, hbg⟩ : ∃ b, b = og.isSome := ⟨_, rfl⟩
    have hna : Hid (∀ W, Calls Tryd.prog 52 #[.string ⟨a.toArray⟩] W fun e w' => ∃ z : Int, e = .returned (.tuple #[.int .i64 z, .bool ba]) ∧ (∀ m, oa = some m → z = (m : Int)) ∧ Below W.heap.size W w') := by
      show ∀ W, _
      intro W
      rw [hba, hoa]
      exact hNu.out a W (hsmall a (by simp))
    have hng : Hid (∀ W, Calls Tryd.prog 52 #[.string ⟨g.toArray⟩] W fun e w' => ∃ z : Int, e = .returned (.tuple #[.int .i64 z, .bool bg]) ∧ (∀ m, og = some m → z = (m : Int)) ∧ Below W.heap.size W w') := by
      show ∀ W, _
      intro W
      rw [hbg, hog]
      exact hNu.out g W (hsmall g (by simp))
    rw [← hoa, ← hog] at hVP
    have HBA := Lib.hid hba
    have HBG := Lib.hid hbg
    clear hoa hog hba hbg
    clear hsmall hPa hNu
    go_enter Tryd.func21, Tryd.ntmps21
    go_wp2_with fail
    refine hsp.mono ?_
    clear hsp
    rintro e w1 ⟨A, c, rfl, hr, hb1⟩
    obtain ⟨ad, rfl, hadB, hcs⟩ := hr.2 (by omega)
    have HC : Hid (∀ W, Below w1.heap.size w1 W → W.cell? ad = some (.string ⟨p.toArray⟩) ∧ W.cell? ⟨ad.block, ad.off + 1, none⟩ = some (.string ⟨a.toArray⟩) ∧ W.cell? ⟨ad.block, ad.off + 2, none⟩ = some (.string ⟨g.toArray⟩)) := by
      show ∀ W, _ → _
      intro W hb
      obtain ⟨ad', e', _, hcs⟩ := (hr.below hb).2 (by omega)
      injection e' with e'
      subst e'
      have c0 := hcs 0 (.string ⟨p.toArray⟩) rfl
      rw [add_zero] at c0
      exact ⟨c0, hcs 1 (.string ⟨a.toArray⟩) rfl, hcs 2 (.string ⟨g.toArray⟩) rfl⟩
    have HB1 := Lib.hid hb1
    obtain ⟨q0, q1, q2⟩ := HC.out _ (Below.refl _ _)
    clear hr hcs hb1
    by_cases hp : p = []
    · have HE : Hid (V = ([], 0, 0, 33)) := by show _ = _; rw [hVP, if_pos (.inl hp)]
      subst hp
      clear hVP
      go_wp2_with fail
      refine bodyPost_ret (v := .tuple #[.string ⟨#[]⟩, .int .i64 0, .int .i64 0, .int .i64 33]) (by simp [results, Tryd.results21, go_sem]) rfl ⟨by rw [HE.out]; rfl, HB1.out⟩

    · have hpe : (⟨p.toArray⟩ : ByteArray).toList.isEmpty = false := by
        rw [toList_data]
        cases p with
        | nil => exact absurd rfl hp
        | cons _ _ => rfl
      have hpe2 : p.isEmpty = false := by
        cases p with
        | nil => exact absurd rfl hp
        | cons _ _ => rfl
      have hc := hpa w1 HB1.out hpl
      obtain ⟨pb, hpb⟩ : ∃ b, b = pathB p := ⟨_, rfl⟩
      rw [← hpb] at hc hVP
      have HVP := Lib.hid hVP
      have HP := Lib.hid hp
      clear hVP hpb hp hpa
      cases pb with
      | false =>
        have HE : Hid (V = ([], 0, 0, 33)) := by show _ = _; rw [HVP.out, if_pos (.inr rfl)]
        go_wp2_with fail
        refine hc.mono ?_
        clear hc q0 q1 q2
        rintro e w2 ⟨rfl, hb2⟩
        obtain ⟨q0, q1, q2⟩ := HC.out _ hb2
        have HB2 := Lib.hid (HB1.out.trans (hb2.mono HB1.out.size))
        clear hb2
        go_wp2_with fail
        refine bodyPost_ret (v := .tuple #[.string ⟨#[]⟩, .int .i64 0, .int .i64 0, .int .i64 33]) (by simp [results, Tryd.results21, go_sem]) rfl ⟨by rw [HE.out]; rfl, HB2.out⟩

      | true =>
        have HVQ : Hid (V = untok2 p oa og) := by
          show _ = _
          rw [HVP.out, if_neg (by rintro (h | h); exact HP.out h; cases h)]
        go_wp2_with fail
        refine hc.mono ?_
        clear hc q0 q1 q2
        rintro e w2 ⟨rfl, hb2⟩
        have HB2 := Lib.hid hb2
        obtain ⟨q0, q1, q2⟩ := HC.out _ hb2
        clear hb2 hpe hpe2
        go_wp2_with fail
        refine (hna.out _).mono ?_
        clear q0 q1 q2
        rintro e w3 ⟨z1, rfl, hz1, hb3⟩
        have HB3 := Lib.hid (HB2.out.trans (hb3.mono HB2.out.size))
        obtain ⟨q0, q1, q2⟩ := HC.out _ HB3.out
        have HZ1 := Lib.hid hz1
        clear hb3 hz1
        go_wp2_with fail
        refine (hng.out _).mono ?_
        clear q0 q1 q2
        rintro e w4 ⟨z2, rfl, hz2, hb4⟩
        have HB4 := Lib.hid (HB3.out.trans (hb4.mono HB3.out.size))
        obtain ⟨q0, q1, q2⟩ := HC.out _ HB4.out
        have HZ2 := Lib.hid hz2
        have HBW := Lib.hid (HB1.out.trans (HB4.out.mono HB1.out.size))
        clear hb4 hz2
        clear hna hng
        cases oa with
        | none =>
          have HE : Hid (V = ([], 0, 0, 33)) := by show _ = _; rw [HVQ.out]; rfl
          obtain rfl : ba = false := HBA.out
          go_wp2_with fail
          refine bodyPost_ret (v := .tuple #[.string ⟨#[]⟩, .int .i64 0, .int .i64 0, .int .i64 33]) (by simp [results, Tryd.results21, go_sem]) rfl ⟨by rw [HE.out]; rfl, HBW.out⟩

        | some xa =>
          cases og with
          | none =>
            have HE : Hid (V = ([], 0, 0, 33)) := by show _ = _; rw [HVQ.out]; rfl
            obtain rfl : ba = true := HBA.out
            obtain rfl : bg = false := HBG.out
            go_wp2_with fail
            refine bodyPost_ret (v := .tuple #[.string ⟨#[]⟩, .int .i64 0, .int .i64 0, .int .i64 33]) (by simp [results, Tryd.results21, go_sem]) rfl ⟨by rw [HE.out]; rfl, HBW.out⟩

          | some xg =>
            have HE : Hid (V = (p, z1, z2, 0)) := by show _ = _; rw [HVQ.out, HZ1.out _ rfl, HZ2.out _ rfl]; rfl
            obtain rfl : ba = true := HBA.out
            obtain rfl : bg = true := HBG.out
            go_wp2_with fail
            refine bodyPost_ret (v := .tuple #[.string ⟨p.toArray⟩, .int .i64 z1, .int .i64 z2, .int .i64 0]) (by simp [results, Tryd.results21, go_sem]) rfl ⟨by rw [HE.out]; rfl, HBW.out⟩
  · have HE : Hid (V = ([], 0, 0, 33)) := by
      show _ = _
      rw [hVP]
      exact untokP_odd (by rw [← hn]; exact h3)
    have hn3 : ((n : Int) != 3) = true := by simp; omega
    have hn4 : ((n : Int) == 3) = false := by simp; omega
    have hn5 : ¬ (n : Int) = 3 := by omega
    clear hn hVP hsmall h3 hPa hNu
    go_enter Tryd.func21, Tryd.ntmps21
    go_wp2_with fail
    refine hsp.mono ?_
    clear hsp
    rintro e w1 ⟨A, c, rfl, hr, hb1⟩
    have HB1 := Lib.hid hb1
    clear hr hb1
    go_wp2_with fail
    refine bodyPost_ret (v := .tuple #[.string ⟨#[]⟩, .int .i64 0, .int .i64 0, .int .i64 33]) (by simp [results, Tryd.results21, go_sem]) rfl ⟨by rw [HE.out]; rfl, HB1.out⟩

set_option maxRecDepth 100000 in
set_option maxHeartbeats 2000000 in
theorem untoken_any (s : ByteArray) (w : World) (hs : s.size ≤ 4000000000) :
    Calls Tryd.prog 22 #[.string s] w fun e w' => e = .returned (untokR (untokV s.data.toList)) ∧ Below w.heap.size w w' := by
  have hsp := parts58_any s w hs
  have hsmall := partsT_small s.data.toList
  have hsz := Lib.size_eq s
  have hPa : Hid (∀ (x : BS) (W : World), Below w.heap.size w W → x.length ≤ 4000000000 → Calls Tryd.prog 54 #[.string ⟨x.toArray⟩] W fun e W' => e = .returned (.bool (pathB x)) ∧ Below W.heap.size W W') := fun x W hb hx => refPath_any ⟨x.toArray⟩ W (by show x.length ≤ _; exact hx)
  have hNu : Hid (∀ (x : BS) (W : World), x.length ≤ 4000000000 → Calls Tryd.prog 55 #[.string ⟨x.toArray⟩] W (RNum x W)) := fun x W hx => rnum_any ⟨x.toArray⟩ W (by show x.length ≤ _; exact hx)
  obtain ⟨P, hP⟩ : ∃ P, P = partsT s.data.toList := ⟨_, rfl⟩
  obtain ⟨V, hV⟩ : ∃ V, V = untokV s.data.toList := ⟨_, rfl⟩
  have hVP : V = untokP P := by rw [hV, hP]; rfl
  rw [← hP] at hsp hsmall
  rw [← hV]
  obtain ⟨n, hn⟩ : ∃ n, n = P.length := ⟨_, rfl⟩
  rw [← hn] at hsp
  have hsmall : ∀ x ∈ P, x.length ≤ 4000000000 := fun x hx => by have := hsmall x hx; omega
  clear hP hV hs hsz
  by_cases h3 : n = 3
  · obtain ⟨p, a, g, rfl⟩ : ∃ p a g, P = [p, a, g] := by
      match P, hn.symm.trans h3 with
      | [p, a, g], _ => exact ⟨p, a, g, rfl⟩
    subst h3
    clear hn
    have hVP : V = if p = [] ∨ pathB p = false then ([], 0, 0, 33) else untok2 p (numO a) (numO g) := hVP
    have hpl := hsmall p (by simp)
    have hpa := hPa.out p
    obtain ⟨oa, hoa⟩ : ∃ o, o = numO a := ⟨_, rfl⟩
    obtain ⟨og, hog⟩ : ∃ o, o = numO g := ⟨_, rfl⟩
    obtain ⟨ba, hba⟩ : ∃ b, b = oa.isSome := ⟨_, rfl⟩
    obtain ⟨bg, hbg⟩ : ∃ b, b = og.isSome := ⟨_, rfl⟩
    have hna : Hid (∀ W, Calls Tryd.prog 55 #[.string ⟨a.toArray⟩] W fun e w' => ∃ z : Int, e = .returned (.tuple #[.int .i64 z, .bool ba]) ∧ (∀ m, oa = some m → z = (m : Int)) ∧ Below W.heap.size W w') := by
      show ∀ W, _
      intro W
      rw [hba, hoa]
      exact hNu.out a W (hsmall a (by simp))
    have hng : Hid (∀ W, Calls Tryd.prog 55 #[.string ⟨g.toArray⟩] W fun e w' => ∃ z : Int, e = .returned (.tuple #[.int .i64 z, .bool bg]) ∧ (∀ m, og = some m → z = (m : Int)) ∧ Below W.heap.size W w') := by
      show ∀ W, _
      intro W
      rw [hbg, hog]
      exact hNu.out g W (hsmall g (by simp))
    rw [← hoa, ← hog] at hVP
    have HBA := Lib.hid hba
    have HBG := Lib.hid hbg
    clear hoa hog hba hbg
    clear hsmall hPa hNu
    go_enter Tryd.func22, Tryd.ntmps22
    go_wp2_with fail
    refine hsp.mono ?_
    clear hsp
    rintro e w1 ⟨A, c, rfl, hr, hb1⟩
    obtain ⟨ad, rfl, hadB, hcs⟩ := hr.2 (by omega)
    have HC : Hid (∀ W, Below w1.heap.size w1 W → W.cell? ad = some (.string ⟨p.toArray⟩) ∧ W.cell? ⟨ad.block, ad.off + 1, none⟩ = some (.string ⟨a.toArray⟩) ∧ W.cell? ⟨ad.block, ad.off + 2, none⟩ = some (.string ⟨g.toArray⟩)) := by
      show ∀ W, _ → _
      intro W hb
      obtain ⟨ad', e', _, hcs⟩ := (hr.below hb).2 (by omega)
      injection e' with e'
      subst e'
      have c0 := hcs 0 (.string ⟨p.toArray⟩) rfl
      rw [add_zero] at c0
      exact ⟨c0, hcs 1 (.string ⟨a.toArray⟩) rfl, hcs 2 (.string ⟨g.toArray⟩) rfl⟩
    have HB1 := Lib.hid hb1
    obtain ⟨q0, q1, q2⟩ := HC.out _ (Below.refl _ _)
    clear hr hcs hb1
    by_cases hp : p = []
    · have HE : Hid (V = ([], 0, 0, 33)) := by show _ = _; rw [hVP, if_pos (.inl hp)]
      subst hp
      clear hVP
      go_wp2_with fail
      refine bodyPost_ret (v := .tuple #[.string ⟨#[]⟩, .int .i64 0, .int .i64 0, .int .i64 33]) (by simp [results, Tryd.results22, go_sem]) rfl ⟨by rw [HE.out]; rfl, HB1.out⟩

    · have hpe : (⟨p.toArray⟩ : ByteArray).toList.isEmpty = false := by
        rw [toList_data]
        cases p with
        | nil => exact absurd rfl hp
        | cons _ _ => rfl
      have hpe2 : p.isEmpty = false := by
        cases p with
        | nil => exact absurd rfl hp
        | cons _ _ => rfl
      have hc := hpa w1 HB1.out hpl
      obtain ⟨pb, hpb⟩ : ∃ b, b = pathB p := ⟨_, rfl⟩
      rw [← hpb] at hc hVP
      have HVP := Lib.hid hVP
      have HP := Lib.hid hp
      clear hVP hpb hp hpa
      cases pb with
      | false =>
        have HE : Hid (V = ([], 0, 0, 33)) := by show _ = _; rw [HVP.out, if_pos (.inr rfl)]
        go_wp2_with fail
        refine hc.mono ?_
        clear hc q0 q1 q2
        rintro e w2 ⟨rfl, hb2⟩
        obtain ⟨q0, q1, q2⟩ := HC.out _ hb2
        have HB2 := Lib.hid (HB1.out.trans (hb2.mono HB1.out.size))
        clear hb2
        go_wp2_with fail
        refine bodyPost_ret (v := .tuple #[.string ⟨#[]⟩, .int .i64 0, .int .i64 0, .int .i64 33]) (by simp [results, Tryd.results22, go_sem]) rfl ⟨by rw [HE.out]; rfl, HB2.out⟩

      | true =>
        have HVQ : Hid (V = untok2 p oa og) := by
          show _ = _
          rw [HVP.out, if_neg (by rintro (h | h); exact HP.out h; cases h)]
        go_wp2_with fail
        refine hc.mono ?_
        clear hc q0 q1 q2
        rintro e w2 ⟨rfl, hb2⟩
        have HB2 := Lib.hid hb2
        obtain ⟨q0, q1, q2⟩ := HC.out _ hb2
        clear hb2 hpe hpe2
        go_wp2_with fail
        refine (hna.out _).mono ?_
        clear q0 q1 q2
        rintro e w3 ⟨z1, rfl, hz1, hb3⟩
        have HB3 := Lib.hid (HB2.out.trans (hb3.mono HB2.out.size))
        obtain ⟨q0, q1, q2⟩ := HC.out _ HB3.out
        have HZ1 := Lib.hid hz1
        clear hb3 hz1
        go_wp2_with fail
        refine (hng.out _).mono ?_
        clear q0 q1 q2
        rintro e w4 ⟨z2, rfl, hz2, hb4⟩
        have HB4 := Lib.hid (HB3.out.trans (hb4.mono HB3.out.size))
        obtain ⟨q0, q1, q2⟩ := HC.out _ HB4.out
        have HZ2 := Lib.hid hz2
        have HBW := Lib.hid (HB1.out.trans (HB4.out.mono HB1.out.size))
        clear hb4 hz2
        clear hna hng
        cases oa with
        | none =>
          have HE : Hid (V = ([], 0, 0, 33)) := by show _ = _; rw [HVQ.out]; rfl
          obtain rfl : ba = false := HBA.out
          go_wp2_with fail
          refine bodyPost_ret (v := .tuple #[.string ⟨#[]⟩, .int .i64 0, .int .i64 0, .int .i64 33]) (by simp [results, Tryd.results22, go_sem]) rfl ⟨by rw [HE.out]; rfl, HBW.out⟩

        | some xa =>
          cases og with
          | none =>
            have HE : Hid (V = ([], 0, 0, 33)) := by show _ = _; rw [HVQ.out]; rfl
            obtain rfl : ba = true := HBA.out
            obtain rfl : bg = false := HBG.out
            go_wp2_with fail
            refine bodyPost_ret (v := .tuple #[.string ⟨#[]⟩, .int .i64 0, .int .i64 0, .int .i64 33]) (by simp [results, Tryd.results22, go_sem]) rfl ⟨by rw [HE.out]; rfl, HBW.out⟩

          | some xg =>
            have HE : Hid (V = (p, z1, z2, 0)) := by show _ = _; rw [HVQ.out, HZ1.out _ rfl, HZ2.out _ rfl]; rfl
            obtain rfl : ba = true := HBA.out
            obtain rfl : bg = true := HBG.out
            go_wp2_with fail
            refine bodyPost_ret (v := .tuple #[.string ⟨p.toArray⟩, .int .i64 z1, .int .i64 z2, .int .i64 0]) (by simp [results, Tryd.results22, go_sem]) rfl ⟨by rw [HE.out]; rfl, HBW.out⟩
  · have HE : Hid (V = ([], 0, 0, 33)) := by
      show _ = _
      rw [hVP]
      exact untokP_odd (by rw [← hn]; exact h3)
    have hn3 : ((n : Int) != 3) = true := by simp; omega
    have hn4 : ((n : Int) == 3) = false := by simp; omega
    have hn5 : ¬ (n : Int) = 3 := by omega
    clear hn hVP hsmall h3 hPa hNu
    go_enter Tryd.func22, Tryd.ntmps22
    go_wp2_with fail
    refine hsp.mono ?_
    clear hsp
    rintro e w1 ⟨A, c, rfl, hr, hb1⟩
    have HB1 := Lib.hid hb1
    clear hr hb1
    go_wp2_with fail
    refine bodyPost_ret (v := .tuple #[.string ⟨#[]⟩, .int .i64 0, .int .i64 0, .int .i64 33]) (by simp [results, Tryd.results22, go_sem]) rfl ⟨by rw [HE.out]; rfl, HB1.out⟩

end Go.Proofs.YtjdebhemoeojiaaDoor
