/-
  The page's Grants, by its contract (for tenants).
-/
import Derived.Test.YtbppdlhbjddhjaaGreatDoorPmCheck
import Derived.Test.YtbppdlhbjddhjaaGreatDoorRfPth
import Derived.Test.YtbppdlhbjddhjaaGreatDoorRefNm
namespace Go.Proofs.YtbppdlhbjddhjaaGreatDoor
open Go.RowKit

set_option maxRecDepth 100000 in
set_option maxHeartbeats 4000000 in
theorem refGrants_any (l : GL) (n : Nat) (hnl : n = l.length) (A : Option Addr) (c : Nat) (w : World) (B : Nat) (hr : Reads w B 3 A n (gcells l)) (hB : B ≤ w.heap.size) (hn : n ≤ 5000000000000) (hv : lenG l) :
    Calls Tryz.prog 72 #[.slice A n c] w fun e w' => e = .returned (.int .i64 (grantsE l)) ∧ Below w.heap.size w w' := by
  have HN := Lib.hid hnl
  obtain ⟨E, hE⟩ : ∃ E, E = grantsE l := ⟨_, rfl⟩
  have hPE : Hid (∀ b, grantsFrom none l = b → E = if b = true ∧ n ≤ 16 then 0 else 9) := by
    show ∀ b, _ → _
    rintro b rfl
    rw [hE]
    unfold grantsE grantsB
    rw [← hnl]
    by_cases h8 : n ≤ 16
    · simp [h8]
    · simp [h8]
  rw [← hE]
  clear hnl hE
  go_enter Tryz.func72, Tryz.ntmps72
  go_wp2_with fail
  go_loopw [3] (fun j wr => ∃ k : Nat, k ≤ n ∧ j = .int .i64 (k : Int) ∧ Hid (grantsFrom none l = grantsFrom (prevG l k) (l.drop k)) ∧ Below w.heap.size w wr) (fun j _ => n - (intOf j).toNat)
  case atStart => exact ⟨0, Nat.zero_le _, rfl, rfl, Below.refl _ _⟩
  case round =>
    obtain ⟨k, hk, rfl, hok, hbw⟩ := hrel
    by_cases hlt : k < n
    · have hrw := hr.below (hbw.mono hB)
      obtain ⟨ad, rfl, hadB, c0, c1, c2⟩ := hrw.el3 HN.out hlt
      have hki : (k : Int) < (n : Int) := by omega
      have hkl : k < l.length := by have := HN.out; omega
      obtain ⟨x, hx⟩ : ∃ x, x = l[k]'hkl := ⟨_, rfl⟩
      have hxl := hv x (by rw [hx]; exact List.getElem_mem _)
      rw [← hx] at c0 c1 c2
      have hdr := List.drop_eq_getElem_cons hkl
      rw [← hx] at hdr
      have HX := Lib.hid hx
      have HDR := Lib.hid hdr
      obtain ⟨xu, xp, xz⟩ := x
      simp only at c0 c1 c2 hxl
      have hb1 := hbw.alloc hbw.size (.cells #[.string ⟨xu.toArray⟩, .string ⟨xp.toArray⟩, .int .i64 xz] 78)
      have hbad : Hid ((nameB xu = false ∨ pathB xp = false ∨ xz < 1 ∨ 255 < xz ∨ (∃ y, prevG l k = some y ∧ ¬ cmpG y.1 y.2.1 xu xp < 0)) → E = 9) := by
        show _ → _
        intro h
        rw [hPE.out false]
        · rfl
        rw [hok.out, HDR.out, grantsFrom_cons]
        unfold grantB
        rcases h with h | h | h | h | ⟨y, hy, h⟩
        · simp only [h]; rfl
        · simp only [h]; simp
        · simp only [decide_eq_false (show ¬ 1 ≤ xz by omega)]; simp
        · simp only [decide_eq_false (show ¬ xz ≤ 255 by omega)]; simp
        · rw [hy]; simp only [decide_eq_false h]; simp
      have hgood : Hid (nameB xu = true → pathB xp = true → 1 ≤ xz → xz ≤ 255 → (∀ y, prevG l k = some y → cmpG y.1 y.2.1 xu xp < 0) → grantsFrom none l = grantsFrom (prevG l (k + 1)) (l.drop (k + 1))) := by
        show _ → _ → _ → _ → _ → _
        intro h1 h2 h4 h5 h3
        rw [hok.out, HDR.out]
        have hp : prevG l (k + 1) = some (xu, xp, xz) := by
          show l[k]? = _
          rw [List.getElem?_eq_getElem hkl, ← HX.out]
        rw [hp, grantsFrom_cons]
        unfold grantB
        simp only [h1, h2, decide_eq_true h4, decide_eq_true h5]
        cases hq : prevG l k with
        | none => rfl
        | some y => simp only [decide_eq_true (h3 y hq)]; rfl
      have hN : ∀ W, Calls Tryz.prog 69 #[.string ⟨xu.toArray⟩] W fun e W' => e = .returned (.bool (nameB xu)) ∧ W' = W := fun W => refName_s ⟨xu.toArray⟩ W (by show xu.length ≤ _; omega)
      have hV : ∀ W, Calls Tryz.prog 63 #[.string ⟨xp.toArray⟩] W fun e W' => e = .returned (.bool (pathB xp)) ∧ Below W.heap.size W W' := fun W => refPath_any ⟨xp.toArray⟩ W (by show xp.length ≤ _; exact hxl.2)
      have hwlt : wr.heap.size < (wr.alloc (.cells #[.string ⟨xu.toArray⟩, .string ⟨xp.toArray⟩, .int .i64 xz] 78)).heap.size := by simp
      have k0 := (Blk.new wr 78 #[.string ⟨xu.toArray⟩, .string ⟨xp.toArray⟩, .int .i64 xz]).cell 0
      have k1 := (Blk.new wr 78 #[.string ⟨xu.toArray⟩, .string ⟨xp.toArray⟩, .int .i64 xz]).cell 1
      have k2 := (Blk.new wr 78 #[.string ⟨xu.toArray⟩, .string ⟨xp.toArray⟩, .int .i64 xz]).cell 2
      have hbsz := hbw.size
      have hS := Lib.hid (fun (W' : World) (hB' : Below (wr.alloc (.cells #[.string ⟨xu.toArray⟩, .string ⟨xp.toArray⟩, .int .i64 xz] 78)).heap.size (wr.alloc (.cells #[.string ⟨xu.toArray⟩, .string ⟨xp.toArray⟩, .int .i64 xz] 78)) W') =>
        (⟨(hB'.cell (p := ⟨wr.heap.size, 0, none⟩) hwlt).trans k0, (hB'.cell (p := ⟨wr.heap.size, 1, none⟩) hwlt).trans k1, (hB'.cell (p := ⟨wr.heap.size, 2, none⟩) hwlt).trans k2, hr.below ((hbw.alloc hbw.size (.cells #[.string ⟨xu.toArray⟩, .string ⟨xp.toArray⟩, .int .i64 xz] 78)).trans (hB'.mono (Nat.le_trans hbsz (Nat.le_of_lt hwlt))) |>.mono hB)⟩ :
          W'.cell? ⟨wr.heap.size, 0, none⟩ = some (.string ⟨xu.toArray⟩) ∧ W'.cell? ⟨wr.heap.size, 1, none⟩ = some (.string ⟨xp.toArray⟩) ∧ W'.cell? ⟨wr.heap.size, 2, none⟩ = some (.int .i64 xz) ∧ Reads W' B 3 (some ad) n (gcells l)))
      clear hx hdr hok hxl hv k0 k1 k2
      obtain ⟨bn, hbn0⟩ : ∃ b, b = nameB xu := ⟨_, rfl⟩
      obtain ⟨bp, hbp0⟩ : ∃ b, b = pathB xp := ⟨_, rfl⟩
      rw [← hbn0] at hbad hgood hN
      rw [← hbp0] at hbad hgood hV
      clear hbn0 hbp0
      cases bn with
      | false =>
        have HB := Lib.hid (hbad.out (.inl rfl))
        clear hr hrw hbad hgood hV hS
        go_wp2_with fail
        refine (hN _).mono ?_
        rintro e w4 ⟨rfl, rfl⟩
        go_wp2_with fail
        go_ret
        exact ⟨by rw [HB.out]; rfl, hb1⟩
      | true =>
        cases bp with
        | false =>
          have HB := Lib.hid (hbad.out (.inr (.inl rfl)))
          clear hr hrw hbad hgood
          go_wp2_with fail
          refine (hN _).mono ?_
          rintro e w4 ⟨rfl, rfl⟩
          go_wp2_with fail
          refine (hV _).mono ?_
          rintro e w5 ⟨rfl, hb5⟩
          have hbf := hb1.trans (hb5.mono hb1.size)
          obtain ⟨q0, q1, q2, hprev⟩ := hS.out _ hb5
          clear hS hb5 hb1
          clear hprev
          go_wp2_with fail
          go_ret
          exact ⟨by rw [HB.out]; rfl, hbf⟩
        | true =>
          by_cases z1 : xz < 1
          · have HB := Lib.hid (hbad.out (.inr (.inr (.inl z1))))
            clear hr hrw hbad hgood
            go_wp2_with fail
            refine (hN _).mono ?_
            rintro e w4 ⟨rfl, rfl⟩
            go_wp2_with fail
            refine (hV _).mono ?_
            rintro e w5 ⟨rfl, hb5⟩
            have hbf := hb1.trans (hb5.mono hb1.size)
            obtain ⟨q0, q1, q2, hprev⟩ := hS.out _ hb5
            clear hS hb5 hb1
            clear hprev
            go_wp2_with fail
            go_ret
            exact ⟨by rw [HB.out]; rfl, hbf⟩
          by_cases z2 : 255 < xz
          · have HB := Lib.hid (hbad.out (.inr (.inr (.inr (.inl z2)))))
            clear hr hrw hbad hgood
            go_wp2_with fail
            refine (hN _).mono ?_
            rintro e w4 ⟨rfl, rfl⟩
            go_wp2_with fail
            refine (hV _).mono ?_
            rintro e w5 ⟨rfl, hb5⟩
            have hbf := hb1.trans (hb5.mono hb1.size)
            obtain ⟨q0, q1, q2, hprev⟩ := hS.out _ hb5
            clear hS hb5 hb1
            clear hprev
            go_wp2_with fail
            go_ret
            exact ⟨by rw [HB.out]; rfl, hbf⟩
          rcases Nat.eq_zero_or_pos k with h0 | h0
          · have HG := Lib.hid (hgood.out rfl rfl (by omega) (by omega) (fun y hy => by subst h0; cases hy))
            have d4 : decide ((0 : Int) < (k : Int)) = false := by simp; omega
            have d4' : decide (0 < k) = false := by simp; omega
            clear h0 hr hrw hbad hgood
            go_wp2_with fail
            refine (hN _).mono ?_
            rintro e w4 ⟨rfl, rfl⟩
            go_wp2_with fail
            refine (hV _).mono ?_
            rintro e w5 ⟨rfl, hb5⟩
            have hbf := hb1.trans (hb5.mono hb1.size)
            obtain ⟨q0, q1, q2, hprev⟩ := hS.out _ hb5
            clear hS hb5 hb1
            clear hprev
            go_wp2_with fail
            go_big_quiet (fail)
            go_wp2_with fail
            go_roundw
            case rel => exact ⟨k + 1, by omega, by go_num, HG, below_drewN hbf _⟩
            case measure => simp [intOf]; omega
          · have d4 : decide ((0 : Int) < (k : Int)) = true := by simp; omega
            have d4' : decide (0 < k) = true := by simp; omega
            have hk1l : k - 1 < l.length := by omega
            obtain ⟨y, hy⟩ : ∃ y, y = l[k - 1]'hk1l := ⟨_, rfl⟩
            have hpv : prevG l k = some y := by
              obtain ⟨j, rfl⟩ : ∃ j, k = j + 1 := ⟨k - 1, by omega⟩
              show l[j]? = _
              have hj : j < l.length := by simpa using hk1l
              rw [List.getElem?_eq_getElem hj, hy]
              rfl
            have i1 : (1 : Int) ≤ (k : Int) := by omega
            have i2 : (k : Int) - 1 < (n : Int) := by omega
            have i3 : IntKind.i64.wrap ((k : Int) - 1) = (k : Int) - 1 := IntWalk.i64_in _ (by omega)
            have i4 : ((k : Int) - 1).toNat = k - 1 := by omega
            have HP : Hid (∀ W', Reads W' B 3 (some ad) n (gcells l) → W'.cell? (ad.add ((k - 1) * 3)) = some (.string ⟨y.1.toArray⟩) ∧ W'.cell? ⟨(ad.add ((k - 1) * 3)).block, (ad.add ((k - 1) * 3)).off + 1, none⟩ = some (.string ⟨y.2.1.toArray⟩)) := by
              show ∀ W', _ → _
              intro W' hr'
              obtain ⟨ad2, e2, -, p0, p1, -⟩ := (hr'.el3 HN.out (i := k - 1) (by omega))
              injection e2 with e2
              subst e2
              rw [← hy] at p0 p1
              exact ⟨p0, p1⟩
            obtain ⟨yu, yp, yz⟩ := y
            simp only at HP
            have hgt := gtrS 9 yu xu
            have hge := geqS 9 yp xp
            have hbadO := fun (h : ¬ cmpG yu yp xu xp < 0) => hbad.out (.inr (.inr (.inr (.inr ⟨_, hpv, h⟩))))
            have hgoodO := fun (h : cmpG yu yp xu xp < 0) => hgood.out rfl rfl (by omega) (by omega) (fun y' hy' => by rw [hpv] at hy'; cases hy'; exact h)
            clear hbad hgood h0 hpv hy hr hrw
            by_cases hyx : yu = xu
            · subst hyx
              rw [show (Op.bytesLess yu yu || yu == yu) = true by simp] at hgt
              by_cases hpp : Op.bytesLess yp xp = true
              · have HG := Lib.hid (hgoodO ((cmpG_neg _ _ _ _).2 (.inr ⟨rfl, hpp⟩)))
                rw [hpp] at hge
                clear hbadO hgoodO hpp
                go_wp2_with fail
                refine (hN _).mono ?_
                rintro e w4 ⟨rfl, rfl⟩
                go_wp2_with fail
                refine (hV _).mono ?_
                rintro e w5 ⟨rfl, hb5⟩
                have hbf := hb1.trans (hb5.mono hb1.size)
                obtain ⟨q0, q1, q2, hprev⟩ := hS.out _ hb5
                clear hS hb5 hb1
                obtain ⟨p0, p1⟩ := HP.out _ hprev
                clear hprev
                go_wp2_with fail
                go_big_quiet (fail)
                clear hgt hge
                go_wp2_with fail
                go_roundw
                case rel => exact ⟨k + 1, by omega, by go_num, HG, below_drewN hbf _⟩
                case measure => simp [intOf]; omega
              · have HB := Lib.hid (hbadO (fun h => by
                  rcases (cmpG_neg _ _ _ _).1 h with h | h
                  · rw [bl_irrefl] at h; cases h
                  · exact hpp h.2))
                rw [show Op.bytesLess yp xp = false by simpa using hpp] at hge
                clear hbadO hgoodO hpp
                go_wp2_with fail
                refine (hN _).mono ?_
                rintro e w4 ⟨rfl, rfl⟩
                go_wp2_with fail
                refine (hV _).mono ?_
                rintro e w5 ⟨rfl, hb5⟩
                have hbf := hb1.trans (hb5.mono hb1.size)
                obtain ⟨q0, q1, q2, hprev⟩ := hS.out _ hb5
                clear hS hb5 hb1
                obtain ⟨p0, p1⟩ := HP.out _ hprev
                clear hprev
                go_wp2_with fail
                go_big_quiet (fail)
                clear hgt hge
                go_wp2_with fail
                go_ret
                exact ⟨by rw [HB.out]; rfl, below_drewN hbf _⟩
            · have hne : (yu == xu) = false := by simpa using hyx
              by_cases hbl : Op.bytesLess yu xu = true
              · have HG := Lib.hid (hgoodO ((cmpG_neg _ _ _ _).2 (.inl hbl)))
                rw [show (Op.bytesLess yu xu || yu == xu) = true by rw [hbl]; rfl] at hgt
                clear hbadO hgoodO hbl hge
                go_wp2_with fail
                refine (hN _).mono ?_
                rintro e w4 ⟨rfl, rfl⟩
                go_wp2_with fail
                refine (hV _).mono ?_
                rintro e w5 ⟨rfl, hb5⟩
                have hbf := hb1.trans (hb5.mono hb1.size)
                obtain ⟨q0, q1, q2, hprev⟩ := hS.out _ hb5
                clear hS hb5 hb1
                obtain ⟨p0, p1⟩ := HP.out _ hprev
                clear hprev
                go_wp2_with fail
                go_big_quiet (fail)
                clear hgt
                go_wp2_with fail
                go_roundw
                case rel => exact ⟨k + 1, by omega, by go_num, HG, below_drewN hbf _⟩
                case measure => simp [intOf]; omega
              · have HB := Lib.hid (hbadO (fun h => by
                  rcases (cmpG_neg _ _ _ _).1 h with h | h
                  · exact hbl h
                  · exact hyx h.1))
                rw [show (Op.bytesLess yu xu || yu == xu) = false by rw [hne, show Op.bytesLess yu xu = false by simpa using hbl]; rfl] at hgt
                clear hbadO hgoodO hbl hge
                go_wp2_with fail
                refine (hN _).mono ?_
                rintro e w4 ⟨rfl, rfl⟩
                go_wp2_with fail
                refine (hV _).mono ?_
                rintro e w5 ⟨rfl, hb5⟩
                have hbf := hb1.trans (hb5.mono hb1.size)
                obtain ⟨q0, q1, q2, hprev⟩ := hS.out _ hb5
                clear hS hb5 hb1
                obtain ⟨p0, p1⟩ := HP.out _ hprev
                clear hprev
                go_wp2_with fail
                go_big_quiet (fail)
                clear hgt
                go_wp2_with fail
                go_ret
                exact ⟨by rw [HB.out]; rfl, below_drewN hbf _⟩
    · have hkn : k = n := by omega
      have hF : Hid (E = if n ≤ 16 then 0 else 9) := by
        show _ = _
        rw [hPE.out true]
        · simp
        rw [hok.out, List.drop_of_length_le (by rw [hkn, HN.out]; exact Nat.le_refl _)]
        rfl
      clear hok hr hkn hPE
      by_cases h8 : n ≤ 16
      · have hi8 : ¬ (16 : Int) < (n : Int) := by omega
        have HV : Hid (E = 0) := by show _ = _; rw [hF.out, if_pos h8]
        clear hF
        go_wp2_with fail
        go_ret
        exact ⟨by rw [HV.out]; rfl, hbw⟩
      · have hi8 : (16 : Int) < (n : Int) := by omega
        have HV : Hid (E = 9) := by show _ = _; rw [hF.out, if_neg h8]
        clear hF
        go_wp2_with fail
        go_ret
        exact ⟨by rw [HV.out]; rfl, hbw⟩
end Go.Proofs.YtbppdlhbjddhjaaGreatDoor
