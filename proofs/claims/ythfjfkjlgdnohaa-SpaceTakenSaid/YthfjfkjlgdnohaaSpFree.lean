/-
  space.Free, space.Take, by their contracts.
-/
import Derived.Test.YthfjfkjlgdnohaaSpCheck
namespace Go.Proofs.Ythfjfkjlgdnohaa
open Go.RowKit Go.Maps

theorem upTo_take (T : Int) (k : Nat) (h : (k : Int) + 2 < T) : (upTo T).take (k + 1) = (upTo T).take k ++ [(k : Int) + 2] := by
  have hk : k < (upTo T).length := by rw [length_upTo]; omega
  rw [List.take_succ_eq_append_getElem hk]
  have e : (upTo T)[k] = (k : Int) + 2 := by simp [upTo]
  rw [e]
set_option maxRecDepth 100000 in
set_option maxHeartbeats 1000000 in
theorem free_any (T : Int) (l : List Int) (n : Nat) (hnl : n = l.length) (A : Option Addr) (c : Nat) (w : World) (B : Nat) (hr : Reads w B 1 A n (ints l)) (hB : B ≤ w.heap.size) (hwf : wfZ l) (hn : n ≤ 17592186044000) :
    Calls Try.prog 29 #[.int .i64 T, .slice A n c] w fun e w' => ∃ v, e = .returned (.tuple #[v, .int .i64 (usedE T l)]) ∧
      (if usedE T l = 0 then w'.ownsRow w.heap.size 3 1 v (freeL T l).length (ints (freeL T l)) ∧ (v = .slice none 0 0 ↔ freeL T l = []) else v = .slice none 0 0) ∧ Below w.heap.size w w' := by
  have hck := spCheck_any T l n hnl A c w B hr hB hwf hn
  obtain ⟨E, hE0⟩ : ∃ E, E = usedE T l := ⟨_, rfl⟩
  rw [← hE0] at hck ⊢
  by_cases hE : E = 0
  · have hT := (usedE_zero T l).1 (by rw [← hE0, hE])
    obtain ⟨⟨hT1, hT2⟩, _, _⟩ := hT
    have hmm := @run_makeMap Try.prog
    have HN := Lib.hid hnl
    have HW := Lib.hid hwf
    subst hE
    clear hnl hE0 hwf
    go_enter Try.func29, Try.ntmps29
    go_wp2_with fail
    refine hck.mono ?_
    clear hck
    rintro e w0 ⟨rfl, hb0⟩
    have hs0 := hb0.size
    go_wp2_with fail
    go_loopw [8] (fun i wr => ∃ k : Nat, (k : Int) + 2 ≤ T ∧ i = .int .i64 ((k : Int) + 2) ∧ wr.ownsMap Try.prog 3 (plainElem Try.prog 4) w0.heap.size k (metD ((upTo T).take k)) ∧ Below w0.heap.size w0 wr)
      (fun i _ => (T - intOf i).toNat)
    case atStart =>
      refine ⟨0, by omega, rfl, ?_, (Below.refl _ _).alloc (Nat.le_refl _) _⟩
      exact World.ownsMap_made _ _ _ _
    case round =>
      obtain ⟨k, hk, rfl, hown, hbw⟩ := hrel
      by_cases hlt : (k : Int) + 2 < T
      · have hkey : keyOf Try.prog 3 (.int .i64 ((k : Int) + 2)) = some (.int .i64 ((k : Int) + 2)) := keyOf_int_mk Try.underlying3 (WalkArith.wf_i64 (by omega))
        have hD : Hid (metD ((upTo T).take (k + 1)) = (metD ((upTo T).take k)).put (.int .i64 ((k : Int) + 2)) (.lit (.bool true))) := by
          show _ = _
          rw [upTo_take T k hlt]
          exact metD_snoc _ _
        have hmx : k < maxLen := by unfold maxLen; omega
        obtain ⟨M, hM⟩ : ∃ M, M = (upTo T).take k := ⟨_, rfl⟩
        rw [← hM] at hown hD
        clear hM hr
        go_wp2_with (first
          | (at_mapUpdate; refine wpList_mapUpdate_own _ rfl _ _ _ 105 rfl 3 4 Try.lawI Try.underlying105 _ w0.heap.size _ _ rfl hown hmx _ _ _ rfl rfl hkey _ [] (plainElem_bool Try.underlying4 true) ?_)
          | go_in)
        intro w1 hown3 hgrow
        have R1 := hbw.grown hgrow hbw.size (fun j hj => by cases hj; exact Nat.le_refl _)
        clear hgrow hown
        go_wp2_with fail
        go_roundw
        case rel => exact ⟨k + 1, by omega, by go_num, by rw [hD.out]; exact hown3, R1⟩
        case measure => simp [intOf]; omega
      · have hkT : (k : Int) + 2 = T := by omega
        have hmem : ∀ x : Int, has (metD ((upTo T).take k)) (.int .i64 x) = true ↔ x ∈ upTo T := fun x => by
          rw [has_metD, List.take_of_length_le (by rw [length_upTo]; omega)]
        obtain ⟨D0, hD0⟩ : ∃ D, D = metD ((upTo T).take k) := ⟨_, rfl⟩
        rw [← hD0] at hown hmem
        have HM := Lib.hid hmem
        have HT := Lib.hid hkT
        clear hD0 hmem hkT hk
        go_wp2_with fail
        go_loopw [27] (fun i wr2 => ∃ (j : Nat) (D : DataW Unit), j ≤ n ∧ i = .int .i64 (j : Int) ∧ wr2.ownsMap Try.prog 3 (plainElem Try.prog 4) w0.heap.size k D ∧ Hid (∀ x : Int, has D (.int .i64 x) = true ↔ x ∈ upTo T ∧ x ∉ l.take j) ∧ Below w0.heap.size w0 wr2)
          (fun i _ => n - (intOf i).toNat)
        case atStart => exact ⟨0, D0, Nat.zero_le _, rfl, hown, (show ∀ x, _ by intro x; rw [HM.out]; simp), hbw⟩
        case round =>
          clear hown
          obtain ⟨j, D, hj, rfl, hown, hD, hbw2⟩ := hrel
          by_cases hlt2 : j < n
          · have hji : (j : Int) < (n : Int) := by omega
            have hjl : j < l.length := by have := HN.out; omega
            obtain ⟨ad2, u2, rfl, _, hxu2, hcell2⟩ := ((hr.below (hb0.mono hB)).below (hbw2.mono (by omega))).at_ hlt2
            obtain ⟨x, hx⟩ : ∃ x, x = l[j]'hjl := ⟨_, rfl⟩
            have hux : u2 = .int .i64 x := by
              unfold ints at hxu2
              rw [List.getElem?_map, List.getElem?_eq_getElem hjl] at hxu2
              rw [hx]
              exact (Option.some.inj hxu2).symm
            subst hux
            have hxw : (Lit.int .i64 x).wf = true := HW.out x (by rw [hx]; exact List.getElem_mem _)
            have htk := List.take_succ_eq_append_getElem hjl
            rw [← hx] at htk
            have hkey : keyOf Try.prog 3 (.int .i64 x) = some (.int .i64 x) := keyOf_int_mk Try.underlying3 hxw
            have hD' : Hid (∀ y : Int, has (D.del (.int .i64 x)) (.int .i64 y) = true ↔ y ∈ upTo T ∧ y ∉ l.take (j + 1)) := by
              show ∀ y, _
              intro y
              rw [htk, List.mem_append, List.mem_singleton]
              by_cases hy : y = x
              · subst hy
                rw [has_del_same]
                simp
              · rw [has_del_other (by simpa using hy), hD.out]
                simp [hy]
            clear hx htk hxu2 hxw hr
            go_wp2_with (first
              | (at_delete; refine wpList_delete_own _ rfl _ _ 105 3 rfl 4 Try.lawI Try.underlying105 _ w0.heap.size _ D rfl hown _ _ rfl hkey ?_; intro w1 hown1 hturn1)
              | go_in)
            have R1 := hbw2.grown hturn1.grown hbw2.size (fun j hj => by cases hj; exact Nat.le_refl _)
            clear hturn1 hown hcell2
            go_wp2_with fail
            go_roundw
            case rel => exact ⟨j + 1, _, by omega, by go_num, hown1, hD', R1⟩
            case measure => simp [intOf]; omega
          · have hjn : j = n := by omega
            have hmem : ∀ x : Int, has D (.int .i64 x) = true ↔ x ∈ freeL T l := by
              intro x
              rw [hD.out, mem_free, mem_upTo, List.take_of_length_le (by have := HN.out; omega)]
            have hS : Hid (sortU (freeL T l) = freeL T l) := (sortU_of (asc_free T l) (fun _ => Iff.rfl)).symm
            have hsz := hown.size_le
            have hk1 := fun W => keysI_any (some w0.heap.size) W
            have hk2 := sortedI_any w0.heap.size _ _ _ wr hown (by have := HT.out; omega) (freeL T l) hmem
            rw [hS.out] at hk2
            clear hr hsz hmem hjn
            go_wp2_with fail
            refine (hk1 _).mono ?_
            rintro e w1 ⟨rfl, rfl⟩
            go_wp2_with fail
            refine hk2.mono ?_
            rintro e w2 ⟨v, rfl, hrow, hnil, hb⟩
            have hrow := own_mono hrow (Nat.le_trans hs0 hbw2.size)
            have hb2 := hb0.trans ((hbw2.trans (hb.mono hbw2.size)).mono hs0)
            have HO := Lib.hid (And.intro hrow hnil)
            clear hrow hnil hk1 hk2 hown hb
            go_wp2_with fail
            go_ret2
            exact ⟨v, rfl, HO.out, hb2⟩
  · have HE : Hid (E ≠ 0) := hE
    have hd : (E != 0) = true := by simp [hE]
    have hd2 : (E == 0) = false := by simp [hE]
    clear hr hnl hwf hE0 hE
    go_enter Try.func29, Try.ntmps29
    go_wp2_with fail
    refine hck.mono ?_
    clear hck
    rintro e w0 ⟨rfl, hb0⟩
    go_wp2_with fail
    go_ret2
    exact ⟨.slice none 0 0, rfl, rfl, hb0⟩

def takeE (T : Int) (l : List Int) (m : Int) : Int := if usedE T l = 0 then (if m < 0 then 4 else if ((freeL T l).length : Int) < m then 17 else 0) else usedE T l
set_option maxRecDepth 100000 in
theorem clipI_any (A : Option Addr) (n c : Nat) (w : World) (h : n ≤ c) (hA : A = none → n = 0) : Calls Try.prog 72 #[.slice A n c] w fun e w' => e = .returned (.slice A n n) ∧ w' = w := by
  cases A with
  | none =>
    obtain rfl := hA rfl
    go_enter Try.func72, Try.ntmps72
    go_wp2_with fail
    go_ret
    exact ⟨rfl, rfl⟩
  | some a =>
    have hi : (n : Int) ≤ (c : Int) := by omega
    clear hA
    go_enter Try.func72, Try.ntmps72
    go_wp2_with fail
    go_ret
    exact ⟨rfl, rfl⟩
theorem ints_take (l : List Int) (k : Nat) : ints (l.take k) = (ints l).take k := by simp [ints]
def TakePost (w : World) (F : List Int) (R m : Int) (e : Ending) (w' : World) : Prop := ∃ v, e = .returned (.tuple #[v, .int .i64 R]) ∧
  (if R = 0 then ∃ (A' : Option Addr) (k : Nat), (k : Int) = m ∧ k ≤ F.length ∧ v = .slice A' k k ∧ Reads w' w'.heap.size 1 A' k (ints (F.take k)) else v = .slice none 0 0) ∧ Below w.heap.size w w'
set_option maxRecDepth 100000 in
set_option maxHeartbeats 1000000 in
theorem take_any (T : Int) (l : List Int) (m : Int) (n : Nat) (hnl : n = l.length) (A : Option Addr) (c : Nat) (w : World) (B : Nat) (hr : Reads w B 1 A n (ints l)) (hB : B ≤ w.heap.size) (hwf : wfZ l) (hn : n ≤ 17592186044000) :
    Calls Try.prog 31 #[.int .i64 T, .slice A n c, .int .i64 m] w (TakePost w (freeL T l) (takeE T l m) m) := by
  have hf := free_any T l n hnl A c w B hr hB hwf hn
  obtain ⟨E, hE⟩ : ∃ E, E = usedE T l := ⟨_, rfl⟩
  have hT : Hid (takeE T l m = if E = 0 then (if m < 0 then 4 else if ((freeL T l).length : Int) < m then 17 else 0) else E) := by rw [hE]; exact rfl
  have hlen : E = 0 → (freeL T l).length ≤ 8192 := by
    intro h
    have h1 := (usedE_zero T l).1 (by rw [← hE, h])
    have h2 := (List.length_filter_le (fun n => !l.contains n) (upTo T))
    have h3 := length_upTo T
    unfold freeL
    omega
  rw [← hE] at hf
  obtain ⟨F, hF⟩ : ∃ F, F = freeL T l := ⟨_, rfl⟩
  rw [← hF] at hf hlen hT ⊢
  obtain ⟨R, hR⟩ : ∃ R, R = takeE T l m := ⟨_, rfl⟩
  rw [← hR] at hT ⊢
  clear hE hF hR hr hnl hwf
  go_enter Try.func31, Try.ntmps31
  go_wp2_with fail
  refine hf.mono ?_
  clear hf
  rintro e w1 ⟨v, rfl, hv, hb1⟩
  by_cases hE0 : E = 0
  · subst hE0
    have hl := hlen rfl
    rw [if_pos rfl] at hv
    obtain ⟨A2, c2, rfl, h1, h2, hr2⟩ := own_form hv.1
    have hA : A2 = none → F.length = 0 := fun e => by
      subst e
      rcases Nat.eq_zero_or_pos F.length with h | h
      · exact h
      · obtain ⟨ad, e, _⟩ := hr2.2 h; cases e
    obtain ⟨q, hq⟩ : ∃ q, q = F.length := ⟨_, rfl⟩
    have HQ := Lib.hid hq
    have HR := Lib.hid hr2
    rw [← hq] at h1 hT hl hA ⊢
    clear hv hr2 hq hlen
    by_cases hm0 : m < 0
    · have HTE : Hid (R = 4) := by show _ = _; rw [hT.out, if_pos rfl, if_pos hm0]
      go_wp2_with fail
      go_ret2
      exact ⟨.slice none 0 0, by rw [HTE.out]; rfl, by rw [if_neg (by rw [HTE.out]; decide)], hb1⟩
    · by_cases hmq : (q : Int) < m
      · have HTE : Hid (R = 17) := by show _ = _; rw [hT.out, if_pos rfl, if_neg hm0, if_pos hmq]
        go_wp2_with fail
        go_ret2
        exact ⟨.slice none 0 0, by rw [HTE.out]; rfl, by rw [if_neg (by rw [HTE.out]; decide)], hb1⟩
      · have HTE : Hid (R = 0) := by show _ = _; rw [hT.out, if_pos rfl, if_neg hm0, if_neg hmq]
        obtain ⟨k, rfl⟩ : ∃ k : Nat, m = (k : Int) := ⟨m.toNat, by omega⟩
        have hkq : k ≤ q := by omega
        have hkc : (k : Int) ≤ (c2 : Int) := by omega
        have hc := clipI_any A2 k c2 w1 (by omega) (fun e => by have := hA e; omega)
        have HP : Hid (Reads w1 w1.heap.size 1 A2 k (ints (F.take k))) := by
          have := HR.out.pre (k := k) (by rw [← HQ.out]; exact hkq)
          rw [Nat.mul_one, ← ints_take] at this
          exact this
        cases A2 with
        | none =>
          have hq0 := hA rfl
          obtain rfl : k = 0 := by omega
          clear HR hA
          go_wp2_with fail
          refine hc.mono ?_
          clear hc
          rintro e w2 ⟨rfl, rfl⟩
          go_wp2_with fail
          go_ret2
          exact ⟨_, by rw [HTE.out]; rfl, by rw [if_pos HTE.out]; exact ⟨none, 0, rfl, Nat.zero_le _, rfl, HP.out⟩, hb1⟩
        | some a =>
          clear HR hA
          go_wp2_with fail
          refine hc.mono ?_
          clear hc
          rintro e w2 ⟨rfl, rfl⟩
          go_wp2_with fail
          go_ret2
          exact ⟨_, by rw [HTE.out]; rfl, by rw [if_pos HTE.out]; exact ⟨some a, k, rfl, by rw [← HQ.out]; exact hkq, rfl, HP.out⟩, hb1⟩
  · have HTE : Hid (R = E) := by show _ = _; rw [hT.out, if_neg hE0]
    rw [if_neg hE0] at hv
    subst hv
    have HE : Hid (E ≠ 0) := hE0
    have hd : (E != 0) = true := by simp [hE0]
    have hd2 : (E == 0) = false := by simp [hE0]
    clear hE0 hlen
    go_wp2_with fail
    go_ret2
    exact ⟨.slice none 0 0, by rw [HTE.out]; rfl, by rw [if_neg (by rw [HTE.out]; exact HE.out)], hb1⟩
end Go.Proofs.Ythfjfkjlgdnohaa
