/-
  The reference's Props, SameProps: by their contracts.
-/
import Derived.Test.YtbppdlhbjddhjaaGreatDoorRefNm
import Derived.Test.YtbppdlhbjddhjaaGreatDoorPrLaw
namespace Go.Proofs.YtbppdlhbjddhjaaGreatDoor
open Go.RowKit

theorem quietN {P : Program} {f : FuncId} {args : Array Value} {w : World} {p m : Nat} {v : Value} (h : Calls P f args (w.drewN (p + m)) fun e w' => e = .returned v ∧ w' = w.drewN (p + m)) :
    Calls P f args (w.drewN (p + m)) fun e w'' => e = .returned v ∧ ∃ n, w'' = w.drewN (p + n) := h.mono fun _ _ ⟨h1, h2⟩ => ⟨h1, m, h2⟩
set_option maxRecDepth 100000 in
set_option maxHeartbeats 2000000 in
theorem refProps_any (l : PL) (n : Nat) (hnl : n = l.length) (A : Option Addr) (c : Nat) (w : World) (B : Nat) (hr : Reads w B 2 A n (pcells l)) (hn : n ≤ 5000000000000) (hv : ∀ x ∈ l, x.1.length ≤ 140737488351232 ∧ x.2.length ≤ 140737488351232) :
    Calls Tryz.prog 122 #[.slice A n c] w fun e w' => e = .returned (.int .i64 (propsE l)) ∧ ∃ q, w' = w.drewN q := by
  have HN := Lib.hid hnl
  obtain ⟨E, hE⟩ : ∃ E, E = propsE l := ⟨_, rfl⟩
  have hPE : Hid (∀ b, propsFrom none l = b → E = if b = true ∧ n ≤ 8 then 0 else 9) := by
    show ∀ b, _ → _
    rintro b rfl
    rw [hE]
    unfold propsE propsB
    rw [← hnl]
    by_cases h8 : n ≤ 8
    · simp [h8]
    · simp [h8]
  rw [← hE]
  clear hnl hE
  go_enter Tryz.func122, Tryz.ntmps122
  go_wp2_with fail
  go_loopw [3] (fun j wr => ∃ k : Nat, k ≤ n ∧ j = .int .i64 (k : Int) ∧ Hid (propsFrom none l = propsFrom (prevP l k) (l.drop k)) ∧ ∃ p, wr = w.drewN p) (fun j _ => n - (intOf j).toNat)
  case atStart => exact ⟨0, Nat.zero_le _, rfl, rfl, 0, rfl⟩
  case round =>
    obtain ⟨k, hk, rfl, hok, p, rfl⟩ := hrel
    by_cases hlt : k < n
    · obtain ⟨ad, rfl, hadB, c0, c1⟩ := hr.prop HN.out hlt
      have hki : (k : Int) < (n : Int) := by omega
      have hkl : k < l.length := by have := HN.out; omega
      obtain ⟨x, hx⟩ : ∃ x, x = l[k]'hkl := ⟨_, rfl⟩
      have hxl := hv x (by rw [hx]; exact List.getElem_mem _)
      rw [← hx] at c0 c1
      have hdr := List.drop_eq_getElem_cons hkl
      rw [← hx] at hdr
      have HX := Lib.hid hx
      have HDR := Lib.hid hdr
      obtain ⟨xn, xv⟩ := x
      simp only [strV] at c0 c1 hxl
      have hbad : Hid ((nameB xn = false ∨ valB xv = false ∨ (∃ y, prevP l k = some y ∧ Op.bytesLess y xn = false)) → E = 9) := by
        show _ → _
        intro h
        rw [hPE.out false]
        · rfl
        rw [hok.out, HDR.out, propsFrom_cons]
        rcases h with h | h | ⟨y, hy, h⟩
        · rw [h]; rfl
        · rw [h]; simp
        · rw [hy]; simp [h]
      have hgood : Hid (nameB xn = true → valB xv = true → (∀ y, prevP l k = some y → Op.bytesLess y xn = true) → propsFrom none l = propsFrom (prevP l (k + 1)) (l.drop (k + 1))) := by
        show _ → _ → _ → _
        intro h1 h2 h3
        rw [hok.out, HDR.out]
        have hp : prevP l (k + 1) = some xn := by
          show (l[k]?).map (·.1) = _
          rw [List.getElem?_eq_getElem hkl, ← HX.out]
          rfl
        rw [hp, propsFrom_cons, h1, h2]
        cases hq : prevP l k with
        | none => rfl
        | some y => simp [h3 y hq]
      have hN : ∀ m, Calls Tryz.prog 69 #[.string ⟨xn.toArray⟩] (w.drewN (p + m)) fun e W' => e = .returned (.bool (nameB xn)) ∧ ∃ n, W' = w.drewN (p + n) := fun m => quietN (refName_any xn _ hxl.1)
      have hV : ∀ m, Calls Tryz.prog 156 #[.string ⟨xv.toArray⟩] (w.drewN (p + m)) fun e W' => e = .returned (.bool (valB xv)) ∧ ∃ n, W' = w.drewN (p + n) := fun m => quietN (refValue_any xv _ hxl.2)
      clear hx hdr hok hxl hv
      obtain ⟨bn, hbn0⟩ : ∃ b, b = nameB xn := ⟨_, rfl⟩
      obtain ⟨bv, hbv0⟩ : ∃ b, b = valB xv := ⟨_, rfl⟩
      rw [← hbn0] at hbad hgood hN
      rw [← hbv0] at hbad hgood hV
      clear hbn0 hbv0
      cases bn with
      | false =>
        have HB := Lib.hid (hbad.out (.inl rfl))
        clear hr hbad hgood hV
        go_wp2_with fail
        go_big_quiet ((go_at_call 69; exact hN _))
        clear hN
        go_wp2_with fail
        go_ret
        exact ⟨by rw [HB.out]; rfl, _, World.drewN_drewN _ _ _⟩
      | true =>
        cases bv with
        | false =>
          have HB := Lib.hid (hbad.out (.inr (.inl rfl)))
          clear hr hbad hgood
          go_wp2_with fail
          go_big_quiet (first | (go_at_call 69; exact hN _) | (go_at_call 156; exact hV _))
          clear hN hV
          go_wp2_with fail
          go_ret
          exact ⟨by rw [HB.out]; rfl, _, World.drewN_drewN _ _ _⟩
        | true =>
          rcases Nat.eq_zero_or_pos k with h0 | h0
          · have HG := Lib.hid (hgood.out rfl rfl (fun y hy => by subst h0; cases hy))
            have d4 : decide ((0 : Int) < (k : Int)) = false := by simp; omega
            have d4' : decide (0 < k) = false := by simp; omega
            clear h0 hr hbad hgood
            go_wp2_with fail
            go_big_quiet (first | (go_at_call 69; exact hN _) | (go_at_call 156; exact hV _))
            clear hN hV
            go_wp2_with fail
            go_roundw
            case rel => exact ⟨k + 1, by omega, by go_num, HG, _, rfl⟩
            case measure => simp [intOf]; omega
          · have d4 : decide ((0 : Int) < (k : Int)) = true := by simp; omega
            have d4' : decide (0 < k) = true := by simp; omega
            have hk1l : k - 1 < l.length := by omega
            obtain ⟨y, hy⟩ : ∃ y, y = (l[k - 1]'hk1l).1 := ⟨_, rfl⟩
            have hpv : prevP l k = some y := by
              obtain ⟨j, rfl⟩ : ∃ j, k = j + 1 := ⟨k - 1, by omega⟩
              show (l[j]?).map (·.1) = _
              have hj : j < l.length := by simpa using hk1l
              rw [List.getElem?_eq_getElem hj, hy]
              rfl
            obtain ⟨ad2, e2, -, c2, -⟩ := (hr.prop HN.out (k := k - 1) (by omega))
            injection e2 with e2
            subst e2
            rw [← hy] at c2
            simp only [strV] at c2
            have i1 : (1 : Int) ≤ (k : Int) := by omega
            have i2 : (k : Int) - 1 < (n : Int) := by omega
            have i3 : IntKind.i64.wrap ((k : Int) - 1) = (k : Int) - 1 := IntWalk.i64_in _ (by omega)
            have i4 : ((k : Int) - 1).toNat = k - 1 := by omega
            have hleq := leqS 9 xn y
            cases hcmp : Op.bytesLess y xn with
            | true =>
              have HG := Lib.hid (hgood.out rfl rfl (fun y' hy' => by rw [hpv] at hy'; cases hy'; exact hcmp))
              have f1 : (Op.bytesLess xn y || xn == y) = false := by
                rw [Bool.or_eq_false_iff]
                refine ⟨?_, by simpa using (bl_ne hcmp).symm⟩
                rw [← Bool.not_eq_true]
                intro h
                have := bl_trans hcmp h
                rw [bl_irrefl] at this
                cases this
              rw [f1] at hleq
              clear hr hbad hgood h0 hpv hy hcmp f1
              go_wp2_with fail
              go_big_quiet (first | (go_at_call 69; exact hN _) | (go_at_call 156; exact hV _))
              clear hN hV hleq
              go_wp2_with fail
              go_roundw
              case rel => exact ⟨k + 1, by omega, by go_num, HG, _, rfl⟩
              case measure => simp [intOf]; omega
            | false =>
              have HB := Lib.hid (hbad.out (.inr (.inr ⟨y, hpv, hcmp⟩)))
              have f1 : (Op.bytesLess xn y || xn == y) = true := by
                by_cases e : xn = y
                · simp [e]
                · rw [bl_tri y xn hcmp (fun h => e h.symm)]; rfl
              rw [f1] at hleq
              clear hr hbad hgood h0 hpv hy hcmp f1
              go_wp2_with fail
              go_big_quiet (first | (go_at_call 69; exact hN _) | (go_at_call 156; exact hV _))
              clear hN hV hleq
              go_wp2_with fail
              go_ret
              exact ⟨by rw [HB.out]; rfl, _, World.drewN_drewN _ _ _⟩
    · have hkn : k = n := by omega
      have hF : Hid (E = if n ≤ 8 then 0 else 9) := by
        show _ = _
        rw [hPE.out true]
        · simp
        rw [hok.out, List.drop_of_length_le (by rw [hkn, HN.out]; exact Nat.le_refl _)]
        rfl
      clear hok hr hkn hPE
      by_cases h8 : n ≤ 8
      · have hi8 : ¬ (8 : Int) < (n : Int) := by omega
        have HV : Hid (E = 0) := by show _ = _; rw [hF.out, if_pos h8]
        clear hF
        go_wp2_with fail
        go_ret
        exact ⟨by rw [HV.out]; rfl, p, rfl⟩
      · have hi8 : (8 : Int) < (n : Int) := by omega
        have HV : Hid (E = 9) := by show _ = _; rw [hF.out, if_neg h8]
        clear hF
        go_wp2_with fail
        go_ret
        exact ⟨by rw [HV.out]; rfl, p, rfl⟩
set_option maxRecDepth 100000 in
set_option maxHeartbeats 1000000 in
theorem sameProps_any (a b : PL) (n m : Nat) (hna : n = a.length) (hmb : m = b.length) (A1 A2 : Option Addr) (c1 c2 : Nat) (w : World) (B1 B2 : Nat) (hr1 : Reads w B1 2 A1 n (pcells a)) (hr2 : Reads w B2 2 A2 m (pcells b)) (hn : n ≤ 5000000000000) (hm : m ≤ 5000000000000) :
    Calls Tryz.prog 91 #[.slice A1 n c1, .slice A2 m c2] w fun e w' => e = .returned (.bool (decide (a = b))) ∧ ∃ q, w' = w.drewN q := by
  have HN := Lib.hid hna
  have HM := Lib.hid hmb
  clear hna hmb
  by_cases hnm : n = m
  · subst hnm
    go_enter Tryz.func91, Tryz.ntmps91
    go_wp2_with fail
    go_loopw [5] (fun i wr => ∃ k : Nat, k ≤ n ∧ i = .int .i64 (k : Int) ∧ Hid (a.take k = b.take k) ∧ ∃ q, wr = w.drewN q) (fun i _ => n - (intOf i).toNat)
    case atStart => exact ⟨0, Nat.zero_le _, rfl, (show a.take 0 = b.take 0 by simp), 0, rfl⟩
    case round =>
      obtain ⟨k, hk, rfl, hok, q, rfl⟩ := hrel
      by_cases hlt : k < n
      · have hki : (k : Int) < (n : Int) := by omega
        have hka : k < a.length := by have := HN.out; omega
        have hkb : k < b.length := by have := HM.out; omega
        obtain ⟨ad1, rfl, _, hc1, hc1'⟩ := hr1.prop HN.out hlt
        obtain ⟨ad2, rfl, _, hc2, hc2'⟩ := hr2.prop HM.out hlt
        obtain ⟨x, hx⟩ : ∃ x, x = a[k]'hka := ⟨_, rfl⟩
        obtain ⟨y, hy⟩ : ∃ y, y = b[k]'hkb := ⟨_, rfl⟩
        rw [← hx] at hc1 hc1'
        rw [← hy] at hc2 hc2'
        have t1 := List.take_succ_eq_append_getElem hka
        have t2 := List.take_succ_eq_append_getElem hkb
        rw [← hx] at t1
        rw [← hy] at t2
        have T1 := Lib.hid t1
        have T2 := Lib.hid t2
        have X1 := Lib.hid hx
        have X2 := Lib.hid hy
        obtain ⟨xn, xv⟩ := x
        obtain ⟨yn, yv⟩ := y
        simp only [strV] at hc1 hc1' hc2 hc2'
        clear hx hy t1 t2 hr1 hr2
        by_cases hxy : xn = yn ∧ xv = yv
        · obtain ⟨rfl, rfl⟩ := hxy
          go_wp2_with fail
          go_region
          go_wp2_with fail
          go_roundw
          case rel =>
            refine ⟨k + 1, by omega, by go_num, ?_, q + 1, rfl⟩
            show a.take (k + 1) = b.take (k + 1)
            rw [T1.out, T2.out, hok.out]
          case measure => simp [intOf]; omega
        · have HD : Hid (decide (a = b) = false) := by
            show _ = _
            refine decide_eq_false (fun e => hxy ?_)
            have : (xn, xv) = (yn, yv) := by rw [X1.out, X2.out]; simp only [e]
            exact ⟨congrArg Prod.fst this, congrArg Prod.snd this⟩
          by_cases hxn : xn = yn
          · have hxv : ¬ xv = yv := fun e => hxy ⟨hxn, e⟩
            subst hxn
            clear hxy
            go_wp2_with fail
            go_region
            go_wp2_with fail
            go_ret
            exact ⟨by rw [HD.out]; rfl, q + 1, rfl⟩
          · clear hxy
            go_wp2_with fail
            go_region
            go_wp2_with fail
            go_ret
            exact ⟨by rw [HD.out]; rfl, q + 1, rfl⟩
      · have HD : Hid (decide (a = b) = true) := by
          show _ = _
          refine decide_eq_true ?_
          have := hok.out
          rwa [List.take_of_length_le (by have := HN.out; omega), List.take_of_length_le (by have := HM.out; omega)] at this
        clear hr1 hr2
        go_wp2_with fail
        go_ret
        exact ⟨by rw [HD.out]; rfl, q, rfl⟩
  · have hd : ((n : Int) != (m : Int)) = true := by simp; omega
    have HD : Hid (decide (a = b) = false) := by
      show _ = _
      refine decide_eq_false (fun e => hnm ?_)
      rw [HN.out, HM.out, e]
    clear hnm hr1 hr2
    go_enter Tryz.func91, Tryz.ntmps91
    go_wp2_with fail
    go_ret
    exact ⟨by rw [HD.out]; rfl, 0, rfl⟩
end Go.Proofs.YtbppdlhbjddhjaaGreatDoor
