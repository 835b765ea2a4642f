/-
  perms.Of, May, right, by their contracts.
-/
import Derived.Test.YtodikfhaghpkhaaDoorPmCheck
import Derived.Test.YtodikfhaghpkhaaDoorPmLaw2
namespace Go.Proofs.YtodikfhaghpkhaaDoor
open Go.RowKit

set_option maxRecDepth 100000 in
set_option maxHeartbeats 2000000 in
theorem ofG_any (l : GL) (u pl : BS) (n : Nat) (hnl : n = l.length) (A : Option Addr) (c : Nat) (w : World) (B : Nat) (hr : Reads w B 3 A n (gcells l)) (hB : B ≤ w.heap.size) (hn : n ≤ 5000000000000) (hv : lenG l) (hpl : pl.length ≤ 4000000000) (hmx : HasMax w) :
    Calls Tryd.prog 15 #[.slice A n c, .string ⟨u.toArray⟩, .string ⟨pl.toArray⟩] w fun e w' => e = .returned (.int .i64 (ofG l u pl)) ∧ Below w.heap.size w w' := by
  have HN := Lib.hid hnl
  clear hnl
  by_cases hu : u = []
  · subst hu
    have HV : Hid (ofG l [] pl = 255) := by show _ = _; unfold ofG; rw [if_pos rfl]
    clear hr hv
    go_enter Tryd.func15, Tryd.ntmps15
    go_wp2_with fail
    go_ret
    exact ⟨by rw [HV.out]; rfl, Below.refl _ _⟩
  have HV : Hid (ofG l u pl = l.foldl (ofF u pl) 0) := by show _ = _; unfold ofG; rw [if_neg hu]
  have hu1 : (u == []) = false := by simpa using hu
  have hu2 : u.isEmpty = false := by cases u <;> simp_all
  go_enter Tryd.func15, Tryd.ntmps15
  go_wp2_with fail
  go_loopw [7, 14] (fun r j wr => ∃ (k : Nat) (z : Int), k ≤ n ∧ j = .int .i64 (k : Int) ∧ r = .int .i64 z ∧ Hid ((l.take k).foldl (ofF u pl) 0 = z) ∧ Below w.heap.size w wr) (fun _ j _ => n - (intOf j).toNat)
  case atStart => exact ⟨0, 0, Nat.zero_le _, rfl, rfl, rfl, Below.refl _ _⟩
  case round =>
    obtain ⟨k, z, hk, rfl, rfl, hok, hbw⟩ := hrel
    by_cases hlt : k < n
    · have hrw := hr.below (hbw.mono hB)
      obtain ⟨ad, rfl, hadB, c0, c1, c2⟩ := hrw.el3 HN.out hlt
      have hki : (k : Int) < (n : Int) := by omega
      have hkl : k < l.length := by have := HN.out; omega
      obtain ⟨x, hx⟩ : ∃ x, x = l[k]'hkl := ⟨_, rfl⟩
      have hxl := hv x (by rw [hx]; exact List.getElem_mem _)
      rw [← hx] at c0 c1 c2
      have htk := List.take_succ_eq_append_getElem hkl
      rw [← hx] at htk
      have HT : Hid ((l.take (k + 1)).foldl (ofF u pl) 0 = ofF u pl z x) := by show _ = _; rw [htk, List.foldl_append, hok.out]; rfl
      obtain ⟨xu, xp, xz⟩ := x
      simp only at c0 c1 c2 hxl
      have hb1 := hbw.alloc hbw.size (.cells #[.string ⟨xu.toArray⟩, .string ⟨xp.toArray⟩, .int .i64 xz] 45)
      have hm1 := hmx.below hb1
      have hN : ∀ W, Calls Tryd.prog 35 #[.string ⟨u.toArray⟩] W fun e W' => e = .returned (.bool (nameB u)) ∧ Below W.heap.size W W' := fun W => name_any ⟨u.toArray⟩ W
      have hU : ∀ W, HasMax W → Calls Tryd.prog 48 #[.string ⟨pl.toArray⟩, .string ⟨xp.toArray⟩] W fun e W' => e = .returned (.bool (underB pl xp)) ∧ Below W.heap.size W W' := fun W hm => under_any ⟨pl.toArray⟩ ⟨xp.toArray⟩ W (by show pl.length ≤ _; exact hpl) (by show xp.length ≤ _; exact hxl.2) hm
      have hF : ofF u pl z (xu, xp, xz) = if (xu == u && nameB u && underB pl xp) = true then bits .or .i64 z xz else z := rfl
      clear hx htk hxl hrw
      by_cases hxu : xu = u
      · subst hxu
        obtain ⟨bn, hbn0⟩ : ∃ b, b = nameB xu := ⟨_, rfl⟩
        rw [← hbn0] at hN hF
        clear hbn0
        cases bn with
        | false =>
          have HO : Hid ((l.take (k + 1)).foldl (ofF xu pl) 0 = z) := by show _ = _; rw [HT.out, hF]; simp
          clear hF hU hr
          go_wp2_with fail
          refine (hN _).mono ?_
          clear hN
          rintro e w1 ⟨rfl, hb2⟩
          have hb3 := hb1.trans (hb2.mono hb1.size)
          clear hb1 hb2
          go_wp2_with fail
          go_roundw
          case rel => exact ⟨k + 1, z, by omega, by go_num, rfl, HO, hb3⟩
          case measure => simp [intOf]; omega
        | true =>
          obtain ⟨bp, hbp0⟩ : ∃ b, b = underB pl xp := ⟨_, rfl⟩
          rw [← hbp0] at hU hF
          clear hbp0
          cases bp with
          | false =>
            have HO : Hid ((l.take (k + 1)).foldl (ofF xu pl) 0 = z) := by show _ = _; rw [HT.out, hF]; simp
            clear hF hr
            go_wp2_with fail
            refine (hN _).mono ?_
            clear hN
            rintro e w1 ⟨rfl, hb2⟩
            have hb3 := hb1.trans (hb2.mono hb1.size)
            have k1 := (hb2.cell (p := ⟨wr.heap.size, 1, none⟩) (by simp)).trans ((Blk.new wr 45 #[.string ⟨xu.toArray⟩, .string ⟨xp.toArray⟩, .int .i64 xz]).cell 1)
            have hm2 := hmx.below hb3
            clear hb1 hb2
            simp only [List.getElem?_toArray, List.getElem?_cons_succ, List.getElem?_cons_zero] at k1
            go_wp2_with fail
            refine (hU _ hm2).mono ?_
            clear hU
            rintro e w2 ⟨rfl, hb4⟩
            have hb5 := hb3.trans (hb4.mono hb3.size)
            clear hb3 hb4 k1
            go_wp2_with fail
            go_roundw
            case rel => exact ⟨k + 1, z, by omega, by go_num, rfl, HO, hb5⟩
            case measure => simp [intOf]; omega
          | true =>
            have HO : Hid ((l.take (k + 1)).foldl (ofF xu pl) 0 = bits .or .i64 z xz) := by show _ = _; rw [HT.out, hF]; simp
            clear hF hr
            go_wp2_with fail
            refine (hN _).mono ?_
            clear hN
            rintro e w1 ⟨rfl, hb2⟩
            have hb3 := hb1.trans (hb2.mono hb1.size)
            have k1 := (hb2.cell (p := ⟨wr.heap.size, 1, none⟩) (by simp)).trans ((Blk.new wr 45 #[.string ⟨xu.toArray⟩, .string ⟨xp.toArray⟩, .int .i64 xz]).cell 1)
            have k2 := (hb2.cell (p := ⟨wr.heap.size, 2, none⟩) (by simp)).trans ((Blk.new wr 45 #[.string ⟨xu.toArray⟩, .string ⟨xp.toArray⟩, .int .i64 xz]).cell 2)
            simp only [List.getElem?_toArray, List.getElem?_cons_succ, List.getElem?_cons_zero] at k1 k2
            have hs1 : wr.heap.size < w1.heap.size := by have := hb2.size; simp at this; omega
            have hm2 := hmx.below hb3
            clear hb1 hb2
            go_wp2_with fail
            refine (hU _ hm2).mono ?_
            clear hU
            rintro e w2 ⟨rfl, hb4⟩
            have hb5 := hb3.trans (hb4.mono hb3.size)
            have k3 := (hb4.cell (p := ⟨wr.heap.size, 2, none⟩) hs1).trans k2
            clear hb3 hb4 k1 k2
            go_wp2_with fail
            go_roundw
            case rel => exact ⟨k + 1, _, by omega, by go_num, rfl, HO, hb5⟩
            case measure => simp [intOf]; omega
      · have hd : (xu == u) = false := by simpa using hxu
        have HO : Hid ((l.take (k + 1)).foldl (ofF u pl) 0 = z) := by show _ = _; rw [HT.out, hF, hd]; simp
        clear hF hU hN hxu hr
        go_wp2_with fail
        go_roundw
        case rel => exact ⟨k + 1, z, by omega, by go_num, rfl, HO, hb1⟩
        case measure => simp [intOf]; omega
    · have hkn : k = n := by omega
      have HE : Hid (ofG l u pl = z) := by
        show _ = _
        rw [HV.out, ← hok.out, List.take_of_length_le (by have := HN.out; omega)]
      clear hr hkn
      go_wp2_with fail
      go_ret
      exact ⟨by rw [HE.out]; rfl, hbw⟩
def mayG (l : GL) (u pl : BS) (need : Int) : Bool := decide (0 ≤ need) && decide (need ≤ 255) && decide (bits .and .i64 (ofG l u pl) need = need)
set_option maxRecDepth 100000 in
set_option maxHeartbeats 1000000 in
theorem mayG_any (l : GL) (u pl : BS) (need : Int) (n : Nat) (hnl : n = l.length) (A : Option Addr) (c : Nat) (w : World) (B : Nat) (hr : Reads w B 3 A n (gcells l)) (hB : B ≤ w.heap.size) (hn : n ≤ 5000000000000) (hv : lenG l) (hpl : pl.length ≤ 4000000000) (hmx : HasMax w) :
    Calls Tryd.prog 17 #[.slice A n c, .string ⟨u.toArray⟩, .string ⟨pl.toArray⟩, .int .i64 need] w fun e w' => e = .returned (.bool (mayG l u pl need)) ∧ Below w.heap.size w w' := by
  have hof := ofG_any l u pl n hnl A c w B hr hB hn hv hpl hmx
  have HM : Hid (mayG l u pl need = (decide (0 ≤ need) && decide (need ≤ 255) && decide (bits .and .i64 (ofG l u pl) need = need))) := rfl
  obtain ⟨z, hz⟩ : ∃ z, z = ofG l u pl := ⟨_, rfl⟩
  rw [← hz] at hof HM
  clear hz hr hnl
  by_cases h0 : 0 ≤ need
  · by_cases h1 : need ≤ 255
    · have HM2 : Hid (mayG l u pl need = decide (bits .and .i64 z need = need)) := by show _ = _; rw [HM.out, decide_eq_true h0, decide_eq_true h1]; rfl
      go_enter Tryd.func17, Tryd.ntmps17
      go_wp2_with fail
      refine hof.mono ?_
      clear hof
      rintro e w1 ⟨rfl, hb⟩
      go_wp2_with fail
      all_goals go_ret
      all_goals refine ⟨congrArg Ending.returned (congrArg Value.bool ?_), hb⟩
      all_goals rw [HM2.out, Bool.eq_iff_iff]
      all_goals simp
    · have HM2 : Hid (mayG l u pl need = false) := by show _ = _; rw [HM.out, decide_eq_false h1]; simp
      clear hof
      go_enter Tryd.func17, Tryd.ntmps17
      go_wp2_with fail
      go_ret
      exact ⟨by rw [HM2.out]; rfl, Below.refl _ _⟩
  · have HM2 : Hid (mayG l u pl need = false) := by show _ = _; rw [HM.out, decide_eq_false h0]; simp
    clear hof
    go_enter Tryd.func17, Tryd.ntmps17
    go_wp2_with fail
    go_ret
    exact ⟨by rw [HM2.out]; rfl, Below.refl _ _⟩
set_option maxRecDepth 100000 in
set_option maxHeartbeats 1000000 in
theorem rightG_any (l : GL) (u p : BS) (r : Int) (n : Nat) (hnl : n = l.length) (A : Option Addr) (c : Nat) (w : World) (B : Nat) (hr : Reads w B 3 A n (gcells l)) (hB : B ≤ w.heap.size) (hn : n ≤ 5000000000000) (hv : lenG l) (hp : p.length ≤ 4000000000) (hmx : HasMax w) :
    Calls Tryd.prog 43 #[.slice A n c, .string ⟨u.toArray⟩, .string ⟨p.toArray⟩, .int .i64 r] w fun e w' => e = .returned (.int .i64 (rightE l u p r)) ∧ Below w.heap.size w w' := by
  have hck := checkG_any l n hnl A c w B hr hB hn hv hmx
  have hN : ∀ W, Calls Tryd.prog 35 #[.string ⟨u.toArray⟩] W fun e W' => e = .returned (.bool (nameB u)) ∧ Below W.heap.size W W' := fun W => name_any ⟨u.toArray⟩ W
  have hV : ∀ W, HasMax W → Calls Tryd.prog 74 #[.string ⟨p.toArray⟩] W fun e W' => e = .returned (.bool (pathB p)) ∧ Below W.heap.size W W' := fun W hm => path_any ⟨p.toArray⟩ W (by show p.length ≤ _; exact hp) hm
  have HR : Hid (rightE l u p r = if grantsE l = 0 then (if (nameB u && pathB p) = true then (if 1 ≤ r ∧ r ≤ 255 then 0 else 4) else 31) else 9) := by
    show _ = _
    unfold rightE grantsE
    by_cases h : grantsB l = true
    · simp [h]
    · simp [h]
  have hge : grantsE l = 0 ∨ grantsE l = 9 := by unfold grantsE; split <;> simp
  obtain ⟨E, hE⟩ : ∃ E, E = grantsE l := ⟨_, rfl⟩
  obtain ⟨bn, hbn⟩ : ∃ b, b = nameB u := ⟨_, rfl⟩
  obtain ⟨bp, hbp⟩ : ∃ b, b = pathB p := ⟨_, rfl⟩
  obtain ⟨V, hV0⟩ : ∃ V, V = rightE l u p r := ⟨_, rfl⟩
  rw [← hE] at hck HR hge
  rw [← hbn] at hN HR
  rw [← hbp] at hV HR
  rw [← hV0] at HR ⊢
  clear hE hbn hbp hV0 hr hnl hv
  rcases hge with rfl | rfl
  · cases bn with
    | false =>
      have HX : Hid (V = 31) := by show _ = _; rw [HR.out]; rfl
      go_enter Tryd.func43, Tryd.ntmps43
      go_wp2_with fail
      refine hck.mono ?_
      clear hck
      rintro e w1 ⟨rfl, hb1⟩
      go_wp2_with fail
      refine (hN w1).mono ?_
      rintro e w2 ⟨rfl, hb2⟩
      have hb := hb1.trans (hb2.mono hb1.size)
      go_wp2_with fail
      go_ret
      exact ⟨by rw [HX.out]; rfl, hb⟩
    | true =>
      cases bp with
      | false =>
        have HX : Hid (V = 31) := by show _ = _; rw [HR.out]; rfl
        go_enter Tryd.func43, Tryd.ntmps43
        go_wp2_with fail
        refine hck.mono ?_
        clear hck
        rintro e w1 ⟨rfl, hb1⟩
        go_wp2_with fail
        refine (hN w1).mono ?_
        rintro e w2 ⟨rfl, hb2⟩
        have hb := hb1.trans (hb2.mono hb1.size)
        have hm2 := hmx.below hb
        clear hb1 hb2
        go_wp2_with fail
        refine (hV w2 hm2).mono ?_
        rintro e w3 ⟨rfl, hb3⟩
        have hb4 := hb.trans (hb3.mono hb.size)
        go_wp2_with fail
        go_ret
        exact ⟨by rw [HX.out]; rfl, hb4⟩
      | true =>
        have HX : Hid (V = if 1 ≤ r ∧ r ≤ 255 then 0 else 4) := by show _ = _; rw [HR.out]; rfl
        by_cases h1 : 1 ≤ r
        · by_cases h2 : r ≤ 255
          · have HX2 : Hid (V = 0) := by show _ = _; rw [HX.out, if_pos ⟨h1, h2⟩]
            go_enter Tryd.func43, Tryd.ntmps43
            go_wp2_with fail
            refine hck.mono ?_
            clear hck
            rintro e w1 ⟨rfl, hb1⟩
            go_wp2_with fail
            refine (hN w1).mono ?_
            rintro e w2 ⟨rfl, hb2⟩
            have hb := hb1.trans (hb2.mono hb1.size)
            have hm2 := hmx.below hb
            clear hb1 hb2
            go_wp2_with fail
            refine (hV w2 hm2).mono ?_
            rintro e w3 ⟨rfl, hb3⟩
            have hb4 := hb.trans (hb3.mono hb.size)
            go_wp2_with fail
            go_ret
            exact ⟨by rw [HX2.out]; rfl, hb4⟩
          · have HX2 : Hid (V = 4) := by show _ = _; rw [HX.out, if_neg (fun h => h2 h.2)]
            go_enter Tryd.func43, Tryd.ntmps43
            go_wp2_with fail
            refine hck.mono ?_
            clear hck
            rintro e w1 ⟨rfl, hb1⟩
            go_wp2_with fail
            refine (hN w1).mono ?_
            rintro e w2 ⟨rfl, hb2⟩
            have hb := hb1.trans (hb2.mono hb1.size)
            have hm2 := hmx.below hb
            clear hb1 hb2
            go_wp2_with fail
            refine (hV w2 hm2).mono ?_
            rintro e w3 ⟨rfl, hb3⟩
            have hb4 := hb.trans (hb3.mono hb.size)
            go_wp2_with fail
            go_ret
            exact ⟨by rw [HX2.out]; rfl, hb4⟩
        · have HX2 : Hid (V = 4) := by show _ = _; rw [HX.out, if_neg (fun h => h1 h.1)]
          go_enter Tryd.func43, Tryd.ntmps43
          go_wp2_with fail
          refine hck.mono ?_
          clear hck
          rintro e w1 ⟨rfl, hb1⟩
          go_wp2_with fail
          refine (hN w1).mono ?_
          rintro e w2 ⟨rfl, hb2⟩
          have hb := hb1.trans (hb2.mono hb1.size)
          have hm2 := hmx.below hb
          clear hb1 hb2
          go_wp2_with fail
          refine (hV w2 hm2).mono ?_
          rintro e w3 ⟨rfl, hb3⟩
          have hb4 := hb.trans (hb3.mono hb.size)
          go_wp2_with fail
          go_ret
          exact ⟨by rw [HX2.out]; rfl, hb4⟩
  · have HX : Hid (V = 9) := by show _ = _; rw [HR.out]; rfl
    go_enter Tryd.func43, Tryd.ntmps43
    go_wp2_with fail
    refine hck.mono ?_
    clear hck
    rintro e w1 ⟨rfl, hb1⟩
    go_wp2_with fail
    go_ret
    exact ⟨by rw [HX.out]; rfl, hb1⟩
end Go.Proofs.YtodikfhaghpkhaaDoor
