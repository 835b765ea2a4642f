/-
  The page's Grants and SameGrants, by their contracts; the walk of the law PermsTakes.
-/
import Derived.Test.YtodikfhaghpkhaaDoorPmGives
namespace Go.Proofs.YtodikfhaghpkhaaDoor
open Go.RowKit

set_option maxRecDepth 100000 in
set_option maxHeartbeats 1000000 in
theorem sameG_any (a b : GL) (n m : Nat) (hna : n = a.length) (hmb : m = b.length) (A1 A2 : Option Addr) (c1 c2 : Nat) (w : World) (B1 B2 : Nat) (hr1 : Reads w B1 3 A1 n (gcells a)) (hr2 : Reads w B2 3 A2 m (gcells b)) (hn : n ≤ 5000000000000) (hm : m ≤ 5000000000000) :
    Calls Tryd.prog 19 #[.slice A1 n c1, .slice A2 m c2] w fun e w' => e = .returned (.bool (decide (a = b))) ∧ ∃ q, w' = w.drewN q := by
  have HN := Lib.hid hna
  have HM := Lib.hid hmb
  clear hna hmb
  by_cases hnm : n = m
  · subst hnm
    go_enter Tryd.func19, Tryd.ntmps19
    go_wp2_with fail
    go_loopw [5] (fun i wr => ∃ k : Nat, k ≤ n ∧ i = .int .i64 (k : Int) ∧ Hid (a.take k = b.take k) ∧ ∃ q, wr = w.drewN q) (fun i _ => n - (intOf i).toNat)
    case atStart => exact ⟨0, Nat.zero_le _, rfl, (show a.take 0 = b.take 0 by simp), 0, rfl⟩
    case round =>
      obtain ⟨k, hk, rfl, hok, q, rfl⟩ := hrel
      by_cases hlt : k < n
      · have hki : (k : Int) < (n : Int) := by omega
        have hka : k < a.length := by have := HN.out; omega
        have hkb : k < b.length := by have := HM.out; omega
        obtain ⟨ad1, rfl, _, hc1, hc1', hc1''⟩ := hr1.el3 HN.out hlt
        obtain ⟨ad2, rfl, _, hc2, hc2', hc2''⟩ := hr2.el3 HM.out hlt
        obtain ⟨x, hx⟩ : ∃ x, x = a[k]'hka := ⟨_, rfl⟩
        obtain ⟨y, hy⟩ : ∃ y, y = b[k]'hkb := ⟨_, rfl⟩
        rw [← hx] at hc1 hc1' hc1''
        rw [← hy] at hc2 hc2' hc2''
        have t1 := List.take_succ_eq_append_getElem hka
        have t2 := List.take_succ_eq_append_getElem hkb
        rw [← hx] at t1
        rw [← hy] at t2
        have T1 := Lib.hid t1
        have T2 := Lib.hid t2
        have X1 := Lib.hid hx
        have X2 := Lib.hid hy
        obtain ⟨xu, xp, xz⟩ := x
        obtain ⟨yu, yp, yz⟩ := y
        simp only at hc1 hc1' hc1'' hc2 hc2' hc2''
        clear hx hy t1 t2 hr1 hr2
        have HD : Hid (¬ (xu = yu ∧ xp = yp ∧ xz = yz) → decide (a = b) = false) := by
          show _ → _
          intro hxy
          refine decide_eq_false (fun e => hxy ?_)
          have : (xu, xp, xz) = (yu, yp, yz) := by rw [X1.out, X2.out]; simp only [e]
          injection this with e1 e2
          injection e2 with e2 e3
          exact ⟨e1, e2, e3⟩
        by_cases e1 : xu = yu
        · subst e1
          by_cases e2 : xp = yp
          · subst e2
            by_cases e3 : xz = yz
            · subst e3
              go_wp2_with fail
              go_region
              go_wp2_with fail
              go_roundw
              case rel =>
                refine ⟨k + 1, by omega, by go_num, ?_, q + 1, rfl⟩
                show a.take (k + 1) = b.take (k + 1)
                rw [T1.out, T2.out, hok.out]
              case measure => simp [intOf]; omega
            · replace HD := Lib.hid (HD.out (fun h => e3 h.2.2))
              go_wp2_with fail
              go_region
              go_wp2_with fail
              go_ret
              exact ⟨by rw [HD.out]; rfl, q + 1, rfl⟩
          · replace HD := Lib.hid (HD.out (fun h => e2 h.2.1))
            go_wp2_with fail
            go_region
            go_wp2_with fail
            go_ret
            exact ⟨by rw [HD.out]; rfl, q + 1, rfl⟩
        · replace HD := Lib.hid (HD.out (fun h => e1 h.1))
          go_wp2_with fail
          go_region
          go_wp2_with fail
          go_ret
          exact ⟨by rw [HD.out]; rfl, q + 1, rfl⟩
      · have HD : Hid (decide (a = b) = true) := by
          show _ = _
          refine decide_eq_true ?_
          have := hok.out
          rwa [List.take_of_length_le (by have := HN.out; omega), List.take_of_length_le (by have := HM.out; omega)] at this
        clear hr1 hr2
        go_wp2_with fail
        go_ret
        exact ⟨by rw [HD.out]; rfl, q, rfl⟩
  · have hd : ((n : Int) != (m : Int)) = true := by simp; omega
    have HD : Hid (decide (a = b) = false) := by
      show _ = _
      refine decide_eq_false (fun e => hnm ?_)
      rw [HN.out, HM.out, e]
    clear hnm hr1 hr2
    go_enter Tryd.func19, Tryd.ntmps19
    go_wp2_with fail
    go_ret
    exact ⟨by rw [HD.out]; rfl, 0, rfl⟩
set_option maxRecDepth 100000 in
set_option maxHeartbeats 4000000 in
theorem refGrants_any (l : GL) (n : Nat) (hnl : n = l.length) (A : Option Addr) (c : Nat) (w : World) (B : Nat) (hr : Reads w B 3 A n (gcells l)) (hB : B ≤ w.heap.size) (hn : n ≤ 5000000000000) (hv : lenG l) :
    Calls Tryd.prog 20 #[.slice A n c] w fun e w' => e = .returned (.int .i64 (grantsE l)) ∧ Below w.heap.size w w' := by
  have HN := Lib.hid hnl
  obtain ⟨E, hE⟩ : ∃ E, E = grantsE l := ⟨_, rfl⟩
  have hPE : Hid (∀ b, grantsFrom none l = b → E = if b = true ∧ n ≤ 16 then 0 else 9) := by
    show ∀ b, _ → _
    rintro b rfl
    rw [hE]
    unfold grantsE grantsB
    rw [← hnl]
    by_cases h8 : n ≤ 16
    · simp [h8]
    · simp [h8]
  rw [← hE]
  clear hnl hE
  go_enter Tryd.func20, Tryd.ntmps20
  go_wp2_with fail
  go_loopw [3] (fun j wr => ∃ k : Nat, k ≤ n ∧ j = .int .i64 (k : Int) ∧ Hid (grantsFrom none l = grantsFrom (prevG l k) (l.drop k)) ∧ Below w.heap.size w wr) (fun j _ => n - (intOf j).toNat)
  case atStart => exact ⟨0, Nat.zero_le _, rfl, rfl, Below.refl _ _⟩
  case round =>
    obtain ⟨k, hk, rfl, hok, hbw⟩ := hrel
    by_cases hlt : k < n
    · have hrw := hr.below (hbw.mono hB)
      obtain ⟨ad, rfl, hadB, c0, c1, c2⟩ := hrw.el3 HN.out hlt
      have hki : (k : Int) < (n : Int) := by omega
      have hkl : k < l.length := by have := HN.out; omega
      obtain ⟨x, hx⟩ : ∃ x, x = l[k]'hkl := ⟨_, rfl⟩
      have hxl := hv x (by rw [hx]; exact List.getElem_mem _)
      rw [← hx] at c0 c1 c2
      have hdr := List.drop_eq_getElem_cons hkl
      rw [← hx] at hdr
      have HX := Lib.hid hx
      have HDR := Lib.hid hdr
      obtain ⟨xu, xp, xz⟩ := x
      simp only at c0 c1 c2 hxl
      have hb1 := hbw.alloc hbw.size (.cells #[.string ⟨xu.toArray⟩, .string ⟨xp.toArray⟩, .int .i64 xz] 45)
      have hbad : Hid ((nameB xu = false ∨ pathB xp = false ∨ xz < 1 ∨ 255 < xz ∨ (∃ y, prevG l k = some y ∧ ¬ cmpG y.1 y.2.1 xu xp < 0)) → E = 9) := by
        show _ → _
        intro h
        rw [hPE.out false]
        · rfl
        rw [hok.out, HDR.out, grantsFrom_cons]
        unfold grantB
        rcases h with h | h | h | h | ⟨y, hy, h⟩
        · simp only [h]; rfl
        · simp only [h]; simp
        · simp only [decide_eq_false (show ¬ 1 ≤ xz by omega)]; simp
        · simp only [decide_eq_false (show ¬ xz ≤ 255 by omega)]; simp
        · rw [hy]; simp only [decide_eq_false h]; simp
      have hgood : Hid (nameB xu = true → pathB xp = true → 1 ≤ xz → xz ≤ 255 → (∀ y, prevG l k = some y → cmpG y.1 y.2.1 xu xp < 0) → grantsFrom none l = grantsFrom (prevG l (k + 1)) (l.drop (k + 1))) := by
        show _ → _ → _ → _ → _ → _
        intro h1 h2 h4 h5 h3
        rw [hok.out, HDR.out]
        have hp : prevG l (k + 1) = some (xu, xp, xz) := by
          show l[k]? = _
          rw [List.getElem?_eq_getElem hkl, ← HX.out]
        rw [hp, grantsFrom_cons]
        unfold grantB
        simp only [h1, h2, decide_eq_true h4, decide_eq_true h5]
        cases hq : prevG l k with
        | none => rfl
        | some y => simp only [decide_eq_true (h3 y hq)]; rfl
      have hN : ∀ W, Calls Tryd.prog 29 #[.string ⟨xu.toArray⟩] W fun e W' => e = .returned (.bool (nameB xu)) ∧ W' = W := fun W => refName_s ⟨xu.toArray⟩ W (by show xu.length ≤ _; omega)
      have hV : ∀ W, Calls Tryd.prog 51 #[.string ⟨xp.toArray⟩] W fun e W' => e = .returned (.bool (pathB xp)) ∧ Below W.heap.size W W' := fun W => refPath_any ⟨xp.toArray⟩ W (by show xp.length ≤ _; exact hxl.2)
      have hwlt : wr.heap.size < (wr.alloc (.cells #[.string ⟨xu.toArray⟩, .string ⟨xp.toArray⟩, .int .i64 xz] 45)).heap.size := by simp
      have k0 := (Blk.new wr 45 #[.string ⟨xu.toArray⟩, .string ⟨xp.toArray⟩, .int .i64 xz]).cell 0
      have k1 := (Blk.new wr 45 #[.string ⟨xu.toArray⟩, .string ⟨xp.toArray⟩, .int .i64 xz]).cell 1
      have k2 := (Blk.new wr 45 #[.string ⟨xu.toArray⟩, .string ⟨xp.toArray⟩, .int .i64 xz]).cell 2
      have hbsz := hbw.size
      have hS := Lib.hid (fun (W' : World) (hB' : Below (wr.alloc (.cells #[.string ⟨xu.toArray⟩, .string ⟨xp.toArray⟩, .int .i64 xz] 45)).heap.size (wr.alloc (.cells #[.string ⟨xu.toArray⟩, .string ⟨xp.toArray⟩, .int .i64 xz] 45)) W') =>
        (⟨(hB'.cell (p := ⟨wr.heap.size, 0, none⟩) hwlt).trans k0, (hB'.cell (p := ⟨wr.heap.size, 1, none⟩) hwlt).trans k1, (hB'.cell (p := ⟨wr.heap.size, 2, none⟩) hwlt).trans k2, hr.below ((hbw.alloc hbw.size (.cells #[.string ⟨xu.toArray⟩, .string ⟨xp.toArray⟩, .int .i64 xz] 45)).trans (hB'.mono (Nat.le_trans hbsz (Nat.le_of_lt hwlt))) |>.mono hB)⟩ :
          W'.cell? ⟨wr.heap.size, 0, none⟩ = some (.string ⟨xu.toArray⟩) ∧ W'.cell? ⟨wr.heap.size, 1, none⟩ = some (.string ⟨xp.toArray⟩) ∧ W'.cell? ⟨wr.heap.size, 2, none⟩ = some (.int .i64 xz) ∧ Reads W' B 3 (some ad) n (gcells l)))
      clear hx hdr hok hxl hv k0 k1 k2
      obtain ⟨bn, hbn0⟩ : ∃ b, b = nameB xu := ⟨_, rfl⟩
      obtain ⟨bp, hbp0⟩ : ∃ b, b = pathB xp := ⟨_, rfl⟩
      rw [← hbn0] at hbad hgood hN
      rw [← hbp0] at hbad hgood hV
      clear hbn0 hbp0
      cases bn with
      | false =>
        have HB := Lib.hid (hbad.out (.inl rfl))
        clear hr hrw hbad hgood hV hS
        go_wp2_with fail
        refine (hN _).mono ?_
        rintro e w4 ⟨rfl, rfl⟩
        go_wp2_with fail
        go_ret
        exact ⟨by rw [HB.out]; rfl, hb1⟩
      | true =>
        cases bp with
        | false =>
          have HB := Lib.hid (hbad.out (.inr (.inl rfl)))
          clear hr hrw hbad hgood
          go_wp2_with fail
          refine (hN _).mono ?_
          rintro e w4 ⟨rfl, rfl⟩
          go_wp2_with fail
          refine (hV _).mono ?_
          rintro e w5 ⟨rfl, hb5⟩
          have hbf := hb1.trans (hb5.mono hb1.size)
          obtain ⟨q0, q1, q2, hprev⟩ := hS.out _ hb5
          clear hS hb5 hb1
          clear hprev
          go_wp2_with fail
          go_ret
          exact ⟨by rw [HB.out]; rfl, hbf⟩
        | true =>
          by_cases z1 : xz < 1
          · have HB := Lib.hid (hbad.out (.inr (.inr (.inl z1))))
            clear hr hrw hbad hgood
            go_wp2_with fail
            refine (hN _).mono ?_
            rintro e w4 ⟨rfl, rfl⟩
            go_wp2_with fail
            refine (hV _).mono ?_
            rintro e w5 ⟨rfl, hb5⟩
            have hbf := hb1.trans (hb5.mono hb1.size)
            obtain ⟨q0, q1, q2, hprev⟩ := hS.out _ hb5
            clear hS hb5 hb1
            clear hprev
            go_wp2_with fail
            go_ret
            exact ⟨by rw [HB.out]; rfl, hbf⟩
          by_cases z2 : 255 < xz
          · have HB := Lib.hid (hbad.out (.inr (.inr (.inr (.inl z2)))))
            clear hr hrw hbad hgood
            go_wp2_with fail
            refine (hN _).mono ?_
            rintro e w4 ⟨rfl, rfl⟩
            go_wp2_with fail
            refine (hV _).mono ?_
            rintro e w5 ⟨rfl, hb5⟩
            have hbf := hb1.trans (hb5.mono hb1.size)
            obtain ⟨q0, q1, q2, hprev⟩ := hS.out _ hb5
            clear hS hb5 hb1
            clear hprev
            go_wp2_with fail
            go_ret
            exact ⟨by rw [HB.out]; rfl, hbf⟩
          rcases Nat.eq_zero_or_pos k with h0 | h0
          · have HG := Lib.hid (hgood.out rfl rfl (by omega) (by omega) (fun y hy => by subst h0; cases hy))
            have d4 : decide ((0 : Int) < (k : Int)) = false := by simp; omega
            have d4' : decide (0 < k) = false := by simp; omega
            clear h0 hr hrw hbad hgood
            go_wp2_with fail
            refine (hN _).mono ?_
            rintro e w4 ⟨rfl, rfl⟩
            go_wp2_with fail
            refine (hV _).mono ?_
            rintro e w5 ⟨rfl, hb5⟩
            have hbf := hb1.trans (hb5.mono hb1.size)
            obtain ⟨q0, q1, q2, hprev⟩ := hS.out _ hb5
            clear hS hb5 hb1
            clear hprev
            go_wp2_with fail
            go_big_quiet (fail)
            go_wp2_with fail
            go_roundw
            case rel => exact ⟨k + 1, by omega, by go_num, HG, below_drewN hbf _⟩
            case measure => simp [intOf]; omega
          · have d4 : decide ((0 : Int) < (k : Int)) = true := by simp; omega
            have d4' : decide (0 < k) = true := by simp; omega
            have hk1l : k - 1 < l.length := by omega
            obtain ⟨y, hy⟩ : ∃ y, y = l[k - 1]'hk1l := ⟨_, rfl⟩
            have hpv : prevG l k = some y := by
              obtain ⟨j, rfl⟩ : ∃ j, k = j + 1 := ⟨k - 1, by omega⟩
              show l[j]? = _
              have hj : j < l.length := by simpa using hk1l
              rw [List.getElem?_eq_getElem hj, hy]
              rfl
            have i1 : (1 : Int) ≤ (k : Int) := by omega
            have i2 : (k : Int) - 1 < (n : Int) := by omega
            have i3 : IntKind.i64.wrap ((k : Int) - 1) = (k : Int) - 1 := IntWalk.i64_in _ (by omega)
            have i4 : ((k : Int) - 1).toNat = k - 1 := by omega
            have HP : Hid (∀ W', Reads W' B 3 (some ad) n (gcells l) → W'.cell? (ad.add ((k - 1) * 3)) = some (.string ⟨y.1.toArray⟩) ∧ W'.cell? ⟨(ad.add ((k - 1) * 3)).block, (ad.add ((k - 1) * 3)).off + 1, none⟩ = some (.string ⟨y.2.1.toArray⟩)) := by
              show ∀ W', _ → _
              intro W' hr'
              obtain ⟨ad2, e2, -, p0, p1, -⟩ := (hr'.el3 HN.out (i := k - 1) (by omega))
              injection e2 with e2
              subst e2
              rw [← hy] at p0 p1
              exact ⟨p0, p1⟩
            obtain ⟨yu, yp, yz⟩ := y
            simp only at HP
            have hgt := gtrS 9 yu xu
            have hge := geqS 9 yp xp
            have hbadO := fun (h : ¬ cmpG yu yp xu xp < 0) => hbad.out (.inr (.inr (.inr (.inr ⟨_, hpv, h⟩))))
            have hgoodO := fun (h : cmpG yu yp xu xp < 0) => hgood.out rfl rfl (by omega) (by omega) (fun y' hy' => by rw [hpv] at hy'; cases hy'; exact h)
            clear hbad hgood h0 hpv hy hr hrw
            by_cases hyx : yu = xu
            · subst hyx
              rw [show (Op.bytesLess yu yu || yu == yu) = true by simp] at hgt
              by_cases hpp : Op.bytesLess yp xp = true
              · have HG := Lib.hid (hgoodO ((cmpG_neg _ _ _ _).2 (.inr ⟨rfl, hpp⟩)))
                rw [hpp] at hge
                clear hbadO hgoodO hpp
                go_wp2_with fail
                refine (hN _).mono ?_
                rintro e w4 ⟨rfl, rfl⟩
                go_wp2_with fail
                refine (hV _).mono ?_
                rintro e w5 ⟨rfl, hb5⟩
                have hbf := hb1.trans (hb5.mono hb1.size)
                obtain ⟨q0, q1, q2, hprev⟩ := hS.out _ hb5
                clear hS hb5 hb1
                obtain ⟨p0, p1⟩ := HP.out _ hprev
                clear hprev
                go_wp2_with fail
                go_big_quiet (fail)
                clear hgt hge
                go_wp2_with fail
                go_roundw
                case rel => exact ⟨k + 1, by omega, by go_num, HG, below_drewN hbf _⟩
                case measure => simp [intOf]; omega
              · have HB := Lib.hid (hbadO (fun h => by
                  rcases (cmpG_neg _ _ _ _).1 h with h | h
                  · rw [bl_irrefl] at h; cases h
                  · exact hpp h.2))
                rw [show Op.bytesLess yp xp = false by simpa using hpp] at hge
                clear hbadO hgoodO hpp
                go_wp2_with fail
                refine (hN _).mono ?_
                rintro e w4 ⟨rfl, rfl⟩
                go_wp2_with fail
                refine (hV _).mono ?_
                rintro e w5 ⟨rfl, hb5⟩
                have hbf := hb1.trans (hb5.mono hb1.size)
                obtain ⟨q0, q1, q2, hprev⟩ := hS.out _ hb5
                clear hS hb5 hb1
                obtain ⟨p0, p1⟩ := HP.out _ hprev
                clear hprev
                go_wp2_with fail
                go_big_quiet (fail)
                clear hgt hge
                go_wp2_with fail
                go_ret
                exact ⟨by rw [HB.out]; rfl, below_drewN hbf _⟩
            · have hne : (yu == xu) = false := by simpa using hyx
              by_cases hbl : Op.bytesLess yu xu = true
              · have HG := Lib.hid (hgoodO ((cmpG_neg _ _ _ _).2 (.inl hbl)))
                rw [show (Op.bytesLess yu xu || yu == xu) = true by rw [hbl]; rfl] at hgt
                clear hbadO hgoodO hbl hge
                go_wp2_with fail
                refine (hN _).mono ?_
                rintro e w4 ⟨rfl, rfl⟩
                go_wp2_with fail
                refine (hV _).mono ?_
                rintro e w5 ⟨rfl, hb5⟩
                have hbf := hb1.trans (hb5.mono hb1.size)
                obtain ⟨q0, q1, q2, hprev⟩ := hS.out _ hb5
                clear hS hb5 hb1
                obtain ⟨p0, p1⟩ := HP.out _ hprev
                clear hprev
                go_wp2_with fail
                go_big_quiet (fail)
                clear hgt
                go_wp2_with fail
                go_roundw
                case rel => exact ⟨k + 1, by omega, by go_num, HG, below_drewN hbf _⟩
                case measure => simp [intOf]; omega
              · have HB := Lib.hid (hbadO (fun h => by
                  rcases (cmpG_neg _ _ _ _).1 h with h | h
                  · exact hbl h
                  · exact hyx h.1))
                rw [show (Op.bytesLess yu xu || yu == xu) = false by rw [hne, show Op.bytesLess yu xu = false by simpa using hbl]; rfl] at hgt
                clear hbadO hgoodO hbl hge
                go_wp2_with fail
                refine (hN _).mono ?_
                rintro e w4 ⟨rfl, rfl⟩
                go_wp2_with fail
                refine (hV _).mono ?_
                rintro e w5 ⟨rfl, hb5⟩
                have hbf := hb1.trans (hb5.mono hb1.size)
                obtain ⟨q0, q1, q2, hprev⟩ := hS.out _ hb5
                clear hS hb5 hb1
                obtain ⟨p0, p1⟩ := HP.out _ hprev
                clear hprev
                go_wp2_with fail
                go_big_quiet (fail)
                clear hgt
                go_wp2_with fail
                go_ret
                exact ⟨by rw [HB.out]; rfl, below_drewN hbf _⟩
    · have hkn : k = n := by omega
      have hF : Hid (E = if n ≤ 16 then 0 else 9) := by
        show _ = _
        rw [hPE.out true]
        · simp
        rw [hok.out, List.drop_of_length_le (by rw [hkn, HN.out]; exact Nat.le_refl _)]
        rfl
      clear hok hr hkn hPE
      by_cases h8 : n ≤ 16
      · have hi8 : ¬ (16 : Int) < (n : Int) := by omega
        have HV : Hid (E = 0) := by show _ = _; rw [hF.out, if_pos h8]
        clear hF
        go_wp2_with fail
        go_ret
        exact ⟨by rw [HV.out]; rfl, hbw⟩
      · have hi8 : (16 : Int) < (n : Int) := by omega
        have HV : Hid (E = 9) := by show _ = _; rw [hF.out, if_neg h8]
        clear hF
        go_wp2_with fail
        go_ret
        exact ⟨by rw [HV.out]; rfl, hbw⟩
theorem deny_nil (u q : BS) (r : Int) : denyE [] u q r ≠ 0 := by
  unfold denyE
  split
  · have : atF (cfG u q) [] = false := rfl
    rw [this]
    decide
  · assumption
set_option maxRecDepth 100000 in
set_option maxHeartbeats 2000000 in
theorem permsTakes_any (l : GL) (u q : BS) (r : Int) (n : Nat) (hnl : n = l.length) (A : Option Addr) (c : Nat) (w : World) (hr : Reads w w.heap.size 3 A n (gcells l)) (hn : n ≤ 1000000000000) (hv : lenG l) (hq : q.length ≤ 4000000000) (hmx : HasMax w) :
    Calls Tryd.prog 6 #[.slice A n c, .string ⟨u.toArray⟩, .string ⟨q.toArray⟩, .int .i64 r] w fun e w' => e = .returned (.bool true) ∧ Below w.heap.size w w' := by
  have hal := Lib.hid (fun w' (hb : Below w.heap.size w w') => allowG_any l u q r n hnl A c w' w.heap.size (hr.below hb) hb.size hn hv hq (hmx.below hb))
  have hdn := Lib.hid (fun w' (hb : Below w.heap.size w w') => denyG_any [] u q r 0 rfl none 0 w' 0 Reads.none_ (Nat.zero_le _) (by omega) (fun x hx => by cases hx) hq (hmx.below hb))
  have hsm := Lib.hid (fun w' (hb : Below w.heap.size w w') A' c' B' (hr' : Reads w' B' 3 A' l.length (gcells l)) => sameG_any l l l.length n rfl hnl A' A c' c w' B' w.heap.size hr' (hr.below hb) (by omega) (by omega))
  have HNL := Lib.hid hnl
  clear hnl
  go_enter Tryd.func6, Tryd.ntmps6
  go_wp2_with fail
  refine (alive13_any _ hmx).mono ?_
  rintro e w1 ⟨rfl, hb1⟩
  go_wp2_with fail
  go_loopw [9] (fun j wr => ∃ k : Nat, k ≤ n ∧ j = .int .i64 (k : Int) ∧ Hid (∀ x ∈ l.take k, (x.1 == u && x.2.1 == q) = false) ∧ Below w.heap.size w wr) (fun j _ => n - (intOf j).toNat)
  case atStart => exact ⟨0, Nat.zero_le _, rfl, (fun x hx => by simp at hx), hb1⟩
  case round =>
    clear hb1
    obtain ⟨k, hk, rfl, hok, hbw⟩ := hrel
    by_cases hlt : k < n
    · have hrw := hr.below hbw
      obtain ⟨ad, rfl, hadB, c0, c1, -⟩ := hrw.el3 HNL.out hlt
      have hki : (k : Int) < (n : Int) := by omega
      have hkl : k < l.length := by have := HNL.out; omega
      obtain ⟨x, hx⟩ : ∃ x, x = l[k]'hkl := ⟨_, rfl⟩
      rw [← hx] at c0 c1
      have htk := List.take_succ_eq_append_getElem hkl
      rw [← hx] at htk
      have HT : Hid ((x.1 == u && x.2.1 == q) = false → ∀ y ∈ l.take (k + 1), (y.1 == u && y.2.1 == q) = false) := by
        show _ → _
        intro h y hy
        rw [htk] at hy
        rcases List.mem_append.1 hy with hy | hy
        · exact hok.out y hy
        · rw [List.mem_singleton] at hy; rw [hy]; exact h
      obtain ⟨xu, xp, xz⟩ := x
      simp only at c0 c1 HT
      clear hx htk hrw hok hr hal hdn hsm
      by_cases e1 : xu = u
      · subst e1
        by_cases e2 : xp = q
        · subst e2
          clear HT
          go_wp2_with fail
          go_ret
          exact ⟨rfl, hbw⟩
        · have e2b : (xp == q) = false := by simpa using e2
          have HG := Lib.hid (HT.out (by rw [e2b]; simp))
          clear HT
          go_wp2_with fail
          go_roundw
          case rel => exact ⟨k + 1, by omega, by go_num, HG, hbw⟩
          case measure => simp [intOf]; omega
      · have e1b : (xu == u) = false := by simpa using e1
        have HG := Lib.hid (HT.out (by rw [e1b]; rfl))
        clear HT
        go_wp2_with fail
        go_roundw
        case rel => exact ⟨k + 1, by omega, by go_num, HG, hbw⟩
        case measure => simp [intOf]; omega
    · have hno : l.any (fun x => x.1 == u && x.2.1 == q) = false := by
        rw [List.any_eq_false]
        intro x hx
        rw [hok.out x (by rw [List.take_of_length_le (by have := HNL.out; omega)]; exact hx)]
        simp
      clear hok
      obtain ⟨E, hE⟩ : ∃ E, E = allowE l u q r := ⟨_, rfl⟩
      rw [← hE] at hal
      by_cases h0 : E = 0
      · subst h0
        have hE1 : rightE l u q r = 0 := by
          unfold allowE at hE
          split at hE
          · assumption
          · exact absurd hE.symm ‹_›
        obtain ⟨hgl, hu, hp, hr1, hr2⟩ := rightE_zero l u q r hE1
        obtain ⟨d1, d2⟩ := allow_deny l u q r hE.symm hno
        have hgr := allow_ok l u q r hE.symm
        have hlen := ((grantsB_iff _).1 hgr).1
        have hlv : lenG (allowL l u q r) := allowL_len l u q r hv (by have := nameB_len _ hu; omega) hq
        have hden := Lib.hid (fun A' c' w' B' (hr' : Reads w' B' 3 A' (allowL l u q r).length (gcells (allowL l u q r))) (hB' : B' ≤ w'.heap.size) (hm' : HasMax w') => denyG_any (allowL l u q r) u q r (allowL l u q r).length rfl A' c' w' B' hr' hB' (by omega) hlv hq hm')
        have hgc := Lib.hid (fun A' c' w' B' (hr' : Reads w' B' 3 A' (allowL l u q r).length (gcells (allowL l u q r))) (hB' : B' ≤ w'.heap.size) => refGrants_any (allowL l u q r) (allowL l u q r).length rfl A' c' w' B' hr' hB' (by omega) hlv)
        rw [show grantsE (allowL l u q r) = 0 by unfold grantsE; rw [if_pos hgr]] at hgc
        rw [d1, d2] at hden
        obtain ⟨F, hF⟩ : ∃ F, F = allowL l u q r := ⟨_, rfl⟩
        rw [← hF] at hal hden hgc
        clear d1 d2 hgr hlen hlv hF hE hE1 hgl hu hp hr1 hr2 hno hr hv hq hdn
        go_wp2_with fail
        refine (hal.out _ hbw).mono ?_
        clear hal
        rintro e w2 ⟨v, rfl, hown, hb2⟩
        rw [if_pos rfl] at hown
        obtain ⟨A1, c1, rfl, _, _, hrF⟩ := own_form hown
        have hbb := hbw.trans (hb2.mono hbw.size)
        clear hown hb2
        have hcl := hden.out A1 c1 w2 _ hrF (Nat.le_refl _) (hmx.below hbb)
        have HRF := Lib.hid hrF
        clear hrF hden
        go_wp2_with fail
        refine hcl.mono ?_
        clear hcl
        rintro e w3 ⟨v, rfl, hown, hb3⟩
        rw [if_pos rfl] at hown
        obtain ⟨A2, c2, rfl, _, _, hrK⟩ := own_form hown
        have hbb3 := hbb.trans (hb3.mono hbb.size)
        have HRK := Lib.hid hrK
        have HRF3 := Lib.hid (HRF.out.below hb3)
        have hsz3 := hb3.size
        clear hown hrK HRF hb3 hbb
        go_wp2_with fail
        refine (num13_any _ _).mono ?_
        rintro e w4 ⟨rfl, rfl⟩
        go_wp2_with fail
        refine (num13_any _ _).mono ?_
        rintro e w5 ⟨rfl, rfl⟩
        go_wp2_with fail
        refine (hsm.out _ hbb3 _ _ _ HRK.out).mono ?_
        rintro e w6 ⟨rfl, p6, rfl⟩
        simp only [decide_true]
        go_wp2_with fail
        refine (hgc.out _ _ _ _ (HRF3.out.drewN _) hsz3).mono ?_
        rintro e w7 ⟨rfl, hb7⟩
        have hbf := (below_drewN hbb3 p6).trans (hb7.mono hbb3.size)
        clear hgc
        go_wp2_with fail
        go_ret
        exact ⟨rfl, hbf⟩
      · obtain ⟨E2, hE2⟩ : ∃ E2, E2 = denyE [] u q r := ⟨_, rfl⟩
        have hE20 : ¬ E2 = 0 := by rw [hE2]; exact deny_nil u q r
        rw [← hE2] at hdn
        have h0b : (E == 0) = false := by simpa using h0
        clear hE hE2 hr hv hno hsm
        go_wp2_with fail
        refine (hal.out _ hbw).mono ?_
        clear hal
        rintro e w2 ⟨v, rfl, hv, hb2⟩
        rw [if_neg h0] at hv
        subst hv
        have hbb := hbw.trans (hb2.mono hbw.size)
        clear hb2
        go_wp2_with fail
        refine (hdn.out _ hbb).mono ?_
        clear hdn
        rintro e w3 ⟨v, rfl, hv, hb3⟩
        rw [if_neg hE20] at hv
        subst hv
        have hbb3 := hbb.trans (hb3.mono hbb.size)
        clear hb3
        go_wp2_with fail
        refine (num13_any _ _).mono ?_
        rintro e w4 ⟨rfl, rfl⟩
        go_wp2_with fail
        go_ret
        exact ⟨rfl, hbb3⟩
end Go.Proofs.YtodikfhaghpkhaaDoor
