/-
  PropsForce, walked; an argument that is a list of properties.
-/
import Derived.Test.YthfjfkjlgdnohaaPrForce
import Derived.Test.YthfjfkjlgdnohaaPrArg
namespace Go.Proofs.Ythfjfkjlgdnohaa
open Go.RowKit Go.Maps

set_option maxRecDepth 100000 in
set_option maxHeartbeats 1000000 in
theorem propsForce_any (a b : PL) (nm : BS) (n m : Nat) (hna : n = a.length) (hmb : m = b.length) (A1 A2 : Option Addr) (c1 c2 : Nat) (w : World) (hr1 : Reads w w.heap.size 2 A1 n (pcells a)) (hr2 : Reads w w.heap.size 2 A2 m (pcells b)) (h1 : strOk a) (h2 : strOk b) (hn : n ≤ 5000000000000) (hm : m ≤ 5000000000000) :
    LawCalls Try.prog 11 #[.slice A1 n c1, .slice A2 m c2, .string ⟨nm.toArray⟩] w := by
  have ho := fun W (hb : Below w.heap.size w W) => over2_any a b n m hna hmb A1 A2 c1 c2 W w.heap.size hb.size (hr1.below hb) (hr2.below hb) h1 h2 hn hm
  have hE : Hid (overE [a, b] = 0 → propsB a = true ∧ propsB b = true) := by
    show _ → _
    intro h
    unfold overE at h
    split at h
    · rename_i h3
      simpa using h3
    · cases h
  have hLen : Hid (overE [a, b] = 0 → (allP (a ++ b)).length ≤ 8) := by
    show _ → _
    intro h
    unfold overE at h
    split at h
    · split at h
      · cases h
      · rename_i h5
        simpa using h5
    · cases h
  have hF : Hid (overE [a, b] = 0 → getP (allP (a ++ b)) nm = (getP b nm).or (getP a nm)) := by
    show _ → _
    intro h
    obtain ⟨h3, h4⟩ := hE.out h
    rw [allP_over a b (propsB_sort b h4), allP_self a (propsB_sort a h3)]
  obtain ⟨E, hEE⟩ : ∃ E, E = overE [a, b] := ⟨_, rfl⟩
  obtain ⟨F, hFF⟩ : ∃ F, F = allP (a ++ b) := ⟨_, rfl⟩
  rw [← hEE] at hE hF hLen
  rw [← hFF] at hF hLen
  simp only [← hEE, ← hFF] at ho
  have g1 := fun W (hb : Below w.heap.size w W) => get_any a nm n hna A1 c1 W _ (hr1.below hb) hb.size hn
  have g2 := fun W (hb : Below w.heap.size w W) => get_any b nm m hmb A2 c2 W _ (hr2.below hb) hb.size hm
  have HO := Lib.hid ho
  have G1 := Lib.hid g1
  have G2 := Lib.hid g2
  clear hEE hFF ho g1 g2 hr1 hr2 hna hmb h1 h2
  show Calls _ _ _ _ _
  go_enter Try.func11, Try.ntmps11
  go_wp2_with fail
  refine (alive12_any _).mono ?_
  rintro e w1 ⟨rfl, hb1⟩
  go_wp2_with fail
  refine (HO.out _ hb1).mono ?_
  clear HO
  rintro e w2 ⟨v, rfl, hv, hb2⟩
  have hb12 := hb1.trans (hb2.mono hb1.size)
  by_cases h0 : E = 0
  · subst h0
    rw [if_pos rfl] at hv
    obtain ⟨A', k, rfl, hk1, hk2, hr⟩ := own_form hv
    obtain ⟨q, hq⟩ : ∃ q, q = F.length := ⟨_, rfl⟩
    have hq5 : q ≤ 8 := by have := hLen.out rfl; omega
    have g3 := get_any F nm q hq A' k w2 _ (by rw [hq]; exact hr) (Nat.le_refl _) (by omega)
    rw [← hq] at hk1 ⊢
    have hG := hF.out rfl
    obtain ⟨ga, hga⟩ : ∃ x, x = getP a nm := ⟨_, rfl⟩
    obtain ⟨gb, hgb⟩ : ∃ x, x = getP b nm := ⟨_, rfl⟩
    have ea : getV a nm = .tuple #[.string ⟨(ga.getD []).toArray⟩, .bool ga.isSome] := by unfold getV; rw [hga]
    have eb : getV b nm = .tuple #[.string ⟨(gb.getD []).toArray⟩, .bool gb.isSome] := by unfold getV; rw [hgb]
    have ef : getV F nm = .tuple #[.string ⟨((gb.or ga).getD []).toArray⟩, .bool (gb.or ga).isSome] := by unfold getV; rw [hG, hgb, hga]
    rw [ef] at g3
    have G1' := Lib.hid (fun W hb => by have := G1.out W hb; rw [ea] at this; exact this)
    have G2' := Lib.hid (fun W hb => by have := G2.out W hb; rw [eb] at this; exact this)
    clear hG hga hgb ea eb ef G1 G2 hv hE hF hLen hr hq hb1 hb2
    have hb3 := fun W (h : Below w2.heap.size w2 W) => hb12.trans (h.mono hb12.size)
    go_wp2_with fail
    refine (num12_any 0 _).mono ?_
    rintro e w3 ⟨rfl, rfl⟩
    go_wp2_with fail
    refine g3.mono ?_
    clear g3
    rintro e w4 ⟨rfl, hb4⟩
    have hb14 := hb3 _ hb4
    clear hb3 hb4
    cases gb with
    | some vb =>
      simp only [Option.or, Option.getD_some, Option.isSome_some] at G2' ⊢
      go_wp2_with fail
      refine (G2'.out _ hb14).mono ?_
      rintro e w5 ⟨rfl, hb5⟩
      clear G2' G1'
      go_wp2_with fail
      go_ret
      exact ⟨by simp, hb14.trans (hb5.mono hb14.size)⟩
    | none =>
      simp only [Option.or, Option.getD_none, Option.isSome_none] at G2' ⊢
      go_wp2_with fail
      refine (G2'.out _ hb14).mono ?_
      rintro e w5 ⟨rfl, hb5⟩
      have hb15 := hb14.trans (hb5.mono hb14.size)
      clear G2'
      go_wp2_with fail
      refine (G1'.out _ hb15).mono ?_
      rintro e w6 ⟨rfl, hb6⟩
      have hb16 := hb15.trans (hb6.mono hb15.size)
      clear G1'
      go_wp2_with fail
      go_ret
      exact ⟨by simp, hb16⟩
  · rw [if_neg h0] at hv
    subst hv
    have hd : (E != 0) = true := by simp [h0]
    clear h0 hE hF hLen G1 G2 hb1 hb2
    go_wp2_with fail
    refine (num12_any E _).mono ?_
    rintro e w3 ⟨rfl, rfl⟩
    go_wp2_with fail
    go_ret
    exact ⟨rfl, hb12⟩
end Go.Proofs.Ythfjfkjlgdnohaa
