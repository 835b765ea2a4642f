/-
  slices.BinarySearchFunc at elements of 5 cells, a struct of as many being looked for, by its contract. (mksearchb.py)
-/
import Derived.Test.YtjdebhemoeojiaaDoorCells
import Derived.Test.YtjdebhemoeojiaaDoorCls
import Derived.Test.YtjdebhemoeojiaaDoorPredK
import Derived.Test.YtjdebhemoeojiaaDoorRows
import Derived.Handy
namespace Go.Proofs.YtjdebhemoeojiaaDoor
open Go.RowKit

set_option maxRecDepth 100000 in
set_option maxHeartbeats 2000000 in
theorem searchT_any {α : Type} (f0 f1 f2 f3 f4 : α → Value) (cf : α → Int) (l : List α) (hl : SignAsc cf l) (n : Nat) (hnl : n = l.length) (A : Option Addr) (c : Nat) (tu ti : List UInt8) (th : Int) (tA : Option Addr) (tn tc : Nat) (tb : Bool) (w : World) (B : Nat)
    (hr : Reads w B 5 A n (cellsK (fun x => [f0 x, f1 x, f2 x, f3 x, f4 x]) l)) (hB : B ≤ w.heap.size) (hn : n ≤ 5000000000000)
    (hcmp : ∀ x W, Below w.heap.size w W → Calls Tryd.prog 36 #[.agg #[f0 x, f1 x, f2 x, f3 x, f4 x], .agg #[.string ⟨tu.toArray⟩, .int .i64 th, .string ⟨ti.toArray⟩, .slice tA tn tc, .bool tb]] W fun e W' => e = .returned (.int .i64 (cf x)) ∧ Below W.heap.size W W') :
    Calls Tryd.prog 35 #[.slice A n c, .agg #[.string ⟨tu.toArray⟩, .int .i64 th, .string ⟨ti.toArray⟩, .slice tA tn tc, .bool tb], .func (.func 36) #[] #[]] w fun e w' => e = .returned (.tuple #[.int .i64 (posF cf l), .bool (atF cf l)]) ∧ Below w.heap.size w w' := by
  have HN := Lib.hid hnl
  have HL := Lib.hid hl
  have HC := Lib.hid hcmp
  have hb0 := (Below.refl w.heap.size w).alloc (Nat.le_refl _) (.cells #[.string ⟨tu.toArray⟩, .int .i64 th, .string ⟨ti.toArray⟩, .slice tA tn tc, .bool tb] 33)
  have hbk := Blk.new w 33 #[.string ⟨tu.toArray⟩, .int .i64 th, .string ⟨ti.toArray⟩, .slice tA tn tc, .bool tb]
  obtain ⟨w1, hw1⟩ : ∃ w1, w1 = w.alloc (.cells #[.string ⟨tu.toArray⟩, .int .i64 th, .string ⟨ti.toArray⟩, .slice tA tn tc, .bool tb] 33) := ⟨_, rfl⟩
  rw [← hw1] at hb0 hbk
  have hsz1 : w1.heap.size = w.heap.size + 1 := by rw [hw1]; show (w.heap.push _).size = _; rw [Array.size_push]
  have HW := Lib.hid hw1
  have hbox : Hid (∀ wr, Below w1.heap.size w1 wr → ∀ (i : Nat) (v : Value), (#[.string ⟨tu.toArray⟩, .int .i64 th, .string ⟨ti.toArray⟩, .slice tA tn tc, .bool tb] : Array Value)[i]? = some v → wr.cell? ⟨w.heap.size, i, none⟩ = some v) := by
    show ∀ wr, _ → _
    intro wr hbw i v hv
    rw [(hbk.below hbw (by omega)).cell i]
    exact hv
  have HB0 := Lib.hid hb0
  clear hnl hl hcmp hw1 hbk hb0
  go_enter Tryd.func35, Tryd.ntmps35
  go_wp2_with fail
  rw [← HW.out]
  go_loopw [9, 10] (fun i j wr => ∃ a b : Nat, a ≤ b ∧ b ≤ n ∧ i = .int .i64 (a : Int) ∧ j = .int .i64 (b : Int) ∧ Hid ((∀ (k : Nat) (x : α), k < a → l[k]? = some x → cf x < 0) ∧ ∀ (k : Nat) (x : α), b ≤ k → l[k]? = some x → 0 ≤ cf x) ∧ Below w1.heap.size w1 wr) (fun i j _ => (intOf j).toNat - (intOf i).toNat)
  case atStart => exact ⟨0, n, Nat.zero_le _, Nat.le_refl _, rfl, rfl, ⟨fun k x hk _ => by omega, fun k x hk hx => by have := (List.getElem?_eq_some_iff.1 hx).1; have := HN.out; omega⟩, Below.refl _ _⟩
  case round =>
    obtain ⟨a, b, hab, hbn, rfl, rfl, hI, hbw⟩ := hrel
    have hbww : Below w.heap.size w wr := HB0.out.trans (hbw.mono (by omega))
    have hszr := hbw.size
    by_cases hlt : a < b
    · obtain ⟨h, hh⟩ : ∃ h, h = (a + b) / 2 := ⟨_, rfl⟩
      have hha : a ≤ h := by omega
      have hhb : h < b := by omega
      have hlI : (a : Int) < (b : Int) := by omega
      have hrw := hr.below (hbww.mono hB)
      obtain ⟨ad, rfl, hadB, c0, c1, c2, c3, c4⟩ := hrw.el5 HN.out (show h < n by omega)
      obtain ⟨x, hx⟩ : ∃ x, x = l[h]'(by have := HN.out; omega) := ⟨_, rfl⟩
      rw [← hx] at c0 c1 c2 c3 c4
      have HX := Lib.hid (show l[h]? = some x by rw [hx]; exact List.getElem?_eq_getElem _)
      have HH := Lib.hid hh
      have hcx := Lib.hid (fun W (hcW : Below wr.heap.size wr W) => HC.out x W (hbww.trans (hcW.mono (by omega))))
      obtain ⟨z, hz⟩ : ∃ z, z = cf x := ⟨_, rfl⟩
      rw [← hz] at hcx
      have HZ := Lib.hid hz
      have hlte : (ad.add (h * 5)).block < wr.heap.size := by rw [block_of_add]; omega
      have hltb : w.heap.size < wr.heap.size := by omega
      rw [hh] at c0 c1 c2 c3 c4 hlte
      have hS := Lib.hid (fun (W' : World) (hBB : Below wr.heap.size wr W') => (⟨(hBB.cell (p := (ad.add (((a + b) / 2) * 5))) hlte).trans c0, (hBB.cell (p := ⟨(ad.add (((a + b) / 2) * 5)).block, (ad.add (((a + b) / 2) * 5)).off + 1, none⟩) hlte).trans c1, (hBB.cell (p := ⟨(ad.add (((a + b) / 2) * 5)).block, (ad.add (((a + b) / 2) * 5)).off + 2, none⟩) hlte).trans c2, (hBB.cell (p := ⟨(ad.add (((a + b) / 2) * 5)).block, (ad.add (((a + b) / 2) * 5)).off + 3, none⟩) hlte).trans c3, (hBB.cell (p := ⟨(ad.add (((a + b) / 2) * 5)).block, (ad.add (((a + b) / 2) * 5)).off + 4, none⟩) hlte).trans c4, (hBB.cell (p := ⟨w.heap.size, 0, none⟩) hltb).trans (hbox.out wr hbw 0 _ rfl), (hBB.cell (p := ⟨w.heap.size, 1, none⟩) hltb).trans (hbox.out wr hbw 1 _ rfl), (hBB.cell (p := ⟨w.heap.size, 2, none⟩) hltb).trans (hbox.out wr hbw 2 _ rfl), (hBB.cell (p := ⟨w.heap.size, 3, none⟩) hltb).trans (hbox.out wr hbw 3 _ rfl), (hBB.cell (p := ⟨w.heap.size, 4, none⟩) hltb).trans (hbox.out wr hbw 4 _ rfl), hBB⟩ : W'.cell? (ad.add (((a + b) / 2) * 5)) = some (f0 x) ∧ W'.cell? ⟨(ad.add (((a + b) / 2) * 5)).block, (ad.add (((a + b) / 2) * 5)).off + 1, none⟩ = some (f1 x) ∧ W'.cell? ⟨(ad.add (((a + b) / 2) * 5)).block, (ad.add (((a + b) / 2) * 5)).off + 2, none⟩ = some (f2 x) ∧ W'.cell? ⟨(ad.add (((a + b) / 2) * 5)).block, (ad.add (((a + b) / 2) * 5)).off + 3, none⟩ = some (f3 x) ∧ W'.cell? ⟨(ad.add (((a + b) / 2) * 5)).block, (ad.add (((a + b) / 2) * 5)).off + 4, none⟩ = some (f4 x) ∧ W'.cell? ⟨w.heap.size, 0, none⟩ = some (.string ⟨tu.toArray⟩) ∧ W'.cell? ⟨w.heap.size, 1, none⟩ = some (.int .i64 th) ∧ W'.cell? ⟨w.heap.size, 2, none⟩ = some (.string ⟨ti.toArray⟩) ∧ W'.cell? ⟨w.heap.size, 3, none⟩ = some (.slice tA tn tc) ∧ W'.cell? ⟨w.heap.size, 4, none⟩ = some (.bool tb) ∧ Below wr.heap.size wr W'))
      clear hx hr hrw hz hlte hltb hh c0 c1 c2 c3 c4
      have hin0 : (0 : Int) ≤ ((a : Int) + (b : Int)) / 2 := by omega
      have hin : ((a : Int) + (b : Int)) / 2 < (n : Int) := by omega
      have hin2 : (((a : Int) + (b : Int)) / 2).toNat = (a + b) / 2 := by omega
      by_cases hz0 : z < 0
      · go_wp2_with fail
        refine wpC_region (fun W' => W'.cell? (ad.add (((a + b) / 2) * 5)) = some (f0 x) ∧ W'.cell? ⟨(ad.add (((a + b) / 2) * 5)).block, (ad.add (((a + b) / 2) * 5)).off + 1, none⟩ = some (f1 x) ∧ W'.cell? ⟨(ad.add (((a + b) / 2) * 5)).block, (ad.add (((a + b) / 2) * 5)).off + 2, none⟩ = some (f2 x) ∧ W'.cell? ⟨(ad.add (((a + b) / 2) * 5)).block, (ad.add (((a + b) / 2) * 5)).off + 3, none⟩ = some (f3 x) ∧ W'.cell? ⟨(ad.add (((a + b) / 2) * 5)).block, (ad.add (((a + b) / 2) * 5)).off + 4, none⟩ = some (f4 x) ∧ W'.cell? ⟨w.heap.size, 0, none⟩ = some (.string ⟨tu.toArray⟩) ∧ W'.cell? ⟨w.heap.size, 1, none⟩ = some (.int .i64 th) ∧ W'.cell? ⟨w.heap.size, 2, none⟩ = some (.string ⟨ti.toArray⟩) ∧ W'.cell? ⟨w.heap.size, 3, none⟩ = some (.slice tA tn tc) ∧ W'.cell? ⟨w.heap.size, 4, none⟩ = some (.bool tb) ∧ Below wr.heap.size wr W') (by kernel_rfl) (by kernel_rfl) (hS.out _ (Below.refl wr.heap.size wr).drew) (fun OPS D QQ HO hD hD2 hQQ => ?_)
        clear HO
        have HD := Lib.hid hD
        have HD2 := Lib.hid hD2
        have HQQ := Lib.hid hQQ
        clear hD hD2 hQQ
        refine wpC_read (v := ?_) rfl (fun W hW => ?_) ?_
        rotate_left
        · clear hW; go_simp; try (with_reducible rfl)
        try simp only [Act.put, List.setIfInBounds_toArray, List.set_cons_zero, List.set_cons_succ]
        refine wpC_read (v := ?_) rfl (fun W hW => ?_) ?_
        rotate_left
        · clear hW; go_simp; try (with_reducible rfl)
        try simp only [Act.put, List.setIfInBounds_toArray, List.set_cons_zero, List.set_cons_succ]
        refine wpC_read (v := ?_) rfl (fun W hW => ?_) ?_
        rotate_left
        · clear hW; go_simp; try (with_reducible rfl)
        try simp only [Act.put, List.setIfInBounds_toArray, List.set_cons_zero, List.set_cons_succ]
        refine wpC_read (v := ?_) rfl (fun W hW => ?_) ?_
        rotate_left
        · clear hW; go_simp; try (with_reducible rfl)
        try simp only [Act.put, List.setIfInBounds_toArray, List.set_cons_zero, List.set_cons_succ]
        refine wpC_read (v := ?_) rfl (fun W hW => ?_) ?_
        rotate_left
        · replace hW := HD.out W hW
          obtain ⟨q0, q1, q2, q3, q4, q5, q6, q7, q8, q9, hcW⟩ := hW
          go_simp; try (with_reducible rfl)
        try simp only [Act.put, List.setIfInBounds_toArray, List.set_cons_zero, List.set_cons_succ]
        refine wpC_read (v := ?_) rfl (fun W hW => ?_) ?_
        rotate_left
        · replace hW := HD.out W hW
          obtain ⟨q0, q1, q2, q3, q4, q5, q6, q7, q8, q9, hcW⟩ := hW
          go_simp; try (with_reducible rfl)
        try simp only [Act.put, List.setIfInBounds_toArray, List.set_cons_zero, List.set_cons_succ]
        refine wpC_read (v := .int .i64 z) rfl (fun W hW => ?_) ?_
        · replace hW := HD.out W hW
          obtain ⟨q0, q1, q2, q3, q4, q5, q6, q7, q8, q9, hcW⟩ := hW
          go_simp
          refine (hcx.out _ hcW).mono ?_
          rintro e w4 ⟨rfl, hbn⟩
          exact ⟨rfl, HD2.out _ (hS.out _ (below_step hcW hbn))⟩
        try simp only [Act.put, List.setIfInBounds_toArray, List.set_cons_zero, List.set_cons_succ]
        refine wpC_read (v := ?_) rfl (fun W hW => ?_) ?_
        rotate_left
        · clear hW; go_simp; try (with_reducible rfl)
        try simp only [Act.put, List.setIfInBounds_toArray, List.set_cons_zero, List.set_cons_succ]
        refine wpQuiet_nil (HQQ.out _ (fun W hW => ?_))
        obtain ⟨q0, q1, q2, q3, q4, q5, q6, q7, q8, q9, hcW⟩ := hW
        go_wp2_with fail
        go_roundw
        case rel =>
          refine ⟨h + 1, b, by omega, hbn, by rw [HH.out]; go_num, rfl, ⟨fun k y hk hy => ?_, hI.out.2⟩, hbw.trans (hcW.mono hszr)⟩
          by_cases hkh : k = h
          · subst hkh
            have := HX.out
            rw [hy] at this
            cases this
            have := HZ.out
            omega
          · exact HL.out k h y x (by omega) hy HX.out (by have := HZ.out; omega)
        case measure => simp [intOf]; omega
      · go_wp2_with fail
        refine wpC_region (fun W' => W'.cell? (ad.add (((a + b) / 2) * 5)) = some (f0 x) ∧ W'.cell? ⟨(ad.add (((a + b) / 2) * 5)).block, (ad.add (((a + b) / 2) * 5)).off + 1, none⟩ = some (f1 x) ∧ W'.cell? ⟨(ad.add (((a + b) / 2) * 5)).block, (ad.add (((a + b) / 2) * 5)).off + 2, none⟩ = some (f2 x) ∧ W'.cell? ⟨(ad.add (((a + b) / 2) * 5)).block, (ad.add (((a + b) / 2) * 5)).off + 3, none⟩ = some (f3 x) ∧ W'.cell? ⟨(ad.add (((a + b) / 2) * 5)).block, (ad.add (((a + b) / 2) * 5)).off + 4, none⟩ = some (f4 x) ∧ W'.cell? ⟨w.heap.size, 0, none⟩ = some (.string ⟨tu.toArray⟩) ∧ W'.cell? ⟨w.heap.size, 1, none⟩ = some (.int .i64 th) ∧ W'.cell? ⟨w.heap.size, 2, none⟩ = some (.string ⟨ti.toArray⟩) ∧ W'.cell? ⟨w.heap.size, 3, none⟩ = some (.slice tA tn tc) ∧ W'.cell? ⟨w.heap.size, 4, none⟩ = some (.bool tb) ∧ Below wr.heap.size wr W') (by kernel_rfl) (by kernel_rfl) (hS.out _ (Below.refl wr.heap.size wr).drew) (fun OPS D QQ HO hD hD2 hQQ => ?_)
        clear HO
        have HD := Lib.hid hD
        have HD2 := Lib.hid hD2
        have HQQ := Lib.hid hQQ
        clear hD hD2 hQQ
        refine wpC_read (v := ?_) rfl (fun W hW => ?_) ?_
        rotate_left
        · clear hW; go_simp; try (with_reducible rfl)
        try simp only [Act.put, List.setIfInBounds_toArray, List.set_cons_zero, List.set_cons_succ]
        refine wpC_read (v := ?_) rfl (fun W hW => ?_) ?_
        rotate_left
        · clear hW; go_simp; try (with_reducible rfl)
        try simp only [Act.put, List.setIfInBounds_toArray, List.set_cons_zero, List.set_cons_succ]
        refine wpC_read (v := ?_) rfl (fun W hW => ?_) ?_
        rotate_left
        · clear hW; go_simp; try (with_reducible rfl)
        try simp only [Act.put, List.setIfInBounds_toArray, List.set_cons_zero, List.set_cons_succ]
        refine wpC_read (v := ?_) rfl (fun W hW => ?_) ?_
        rotate_left
        · clear hW; go_simp; try (with_reducible rfl)
        try simp only [Act.put, List.setIfInBounds_toArray, List.set_cons_zero, List.set_cons_succ]
        refine wpC_read (v := ?_) rfl (fun W hW => ?_) ?_
        rotate_left
        · replace hW := HD.out W hW
          obtain ⟨q0, q1, q2, q3, q4, q5, q6, q7, q8, q9, hcW⟩ := hW
          go_simp; try (with_reducible rfl)
        try simp only [Act.put, List.setIfInBounds_toArray, List.set_cons_zero, List.set_cons_succ]
        refine wpC_read (v := ?_) rfl (fun W hW => ?_) ?_
        rotate_left
        · replace hW := HD.out W hW
          obtain ⟨q0, q1, q2, q3, q4, q5, q6, q7, q8, q9, hcW⟩ := hW
          go_simp; try (with_reducible rfl)
        try simp only [Act.put, List.setIfInBounds_toArray, List.set_cons_zero, List.set_cons_succ]
        refine wpC_read (v := .int .i64 z) rfl (fun W hW => ?_) ?_
        · replace hW := HD.out W hW
          obtain ⟨q0, q1, q2, q3, q4, q5, q6, q7, q8, q9, hcW⟩ := hW
          go_simp
          refine (hcx.out _ hcW).mono ?_
          rintro e w4 ⟨rfl, hbn⟩
          exact ⟨rfl, HD2.out _ (hS.out _ (below_step hcW hbn))⟩
        try simp only [Act.put, List.setIfInBounds_toArray, List.set_cons_zero, List.set_cons_succ]
        refine wpC_read (v := ?_) rfl (fun W hW => ?_) ?_
        rotate_left
        · clear hW; go_simp; try (with_reducible rfl)
        try simp only [Act.put, List.setIfInBounds_toArray, List.set_cons_zero, List.set_cons_succ]
        refine wpQuiet_nil (HQQ.out _ (fun W hW => ?_))
        obtain ⟨q0, q1, q2, q3, q4, q5, q6, q7, q8, q9, hcW⟩ := hW
        go_wp2_with fail
        go_roundw
        case rel =>
          refine ⟨a, h, by omega, by omega, rfl, by rw [HH.out]; go_num, ⟨hI.out.1, fun k y hk hy => ?_⟩, hbw.trans (hcW.mono hszr)⟩
          by_cases hkh : k = h
          · subst hkh
            have := HX.out
            rw [hy] at this
            cases this
            have := HZ.out
            omega
          · have h1 := HL.out h k x y (by omega) HX.out hy
            have := HZ.out
            omega
        case measure => simp [intOf]; omega
    · obtain rfl : a = b := by omega
      have hpos : posF cf l = a := posF_eq cf l a (by have := HN.out; omega) hI.out.1 (fun x hx => hI.out.2 a x (Nat.le_refl _) hx)
      have hrw := hr.below (hbww.mono hB)
      by_cases han : a < n
      · obtain ⟨ad, rfl, hadB, c0, c1, c2, c3, c4⟩ := hrw.el5 HN.out han
        obtain ⟨x, hx⟩ : ∃ x, x = l[a]'(by have := HN.out; omega) := ⟨_, rfl⟩
        rw [← hx] at c0 c1 c2 c3 c4
        have hat : atF cf l = (cf x == 0) := by
          unfold atF
          rw [hpos, List.getElem?_eq_getElem (by have := HN.out; omega), ← hx]
          rfl
        have hcx := Lib.hid (fun W (hcW : Below wr.heap.size wr W) => HC.out x W (hbww.trans (hcW.mono (by omega))))
        obtain ⟨z, hz⟩ : ∃ z, z = cf x := ⟨_, rfl⟩
        rw [← hz] at hcx hat
        have HZ := Lib.hid hz
        have HPOS := Lib.hid hpos
        have HAT := Lib.hid hat
        have hlte : (ad.add (a * 5)).block < wr.heap.size := by rw [block_of_add]; omega
        have hltb : w.heap.size < wr.heap.size := by omega
        have hani : (a : Int) < (n : Int) := by omega
        have hand : decide ((a : Int) < (n : Int)) = true := by simpa using han
        have hand' : decide (a < n) = true := by simpa using han
        have hS := Lib.hid (fun (W' : World) (hBB : Below wr.heap.size wr W') => (⟨(hBB.cell (p := (ad.add (a * 5))) hlte).trans c0, (hBB.cell (p := ⟨(ad.add (a * 5)).block, (ad.add (a * 5)).off + 1, none⟩) hlte).trans c1, (hBB.cell (p := ⟨(ad.add (a * 5)).block, (ad.add (a * 5)).off + 2, none⟩) hlte).trans c2, (hBB.cell (p := ⟨(ad.add (a * 5)).block, (ad.add (a * 5)).off + 3, none⟩) hlte).trans c3, (hBB.cell (p := ⟨(ad.add (a * 5)).block, (ad.add (a * 5)).off + 4, none⟩) hlte).trans c4, (hBB.cell (p := ⟨w.heap.size, 0, none⟩) hltb).trans (hbox.out wr hbw 0 _ rfl), (hBB.cell (p := ⟨w.heap.size, 1, none⟩) hltb).trans (hbox.out wr hbw 1 _ rfl), (hBB.cell (p := ⟨w.heap.size, 2, none⟩) hltb).trans (hbox.out wr hbw 2 _ rfl), (hBB.cell (p := ⟨w.heap.size, 3, none⟩) hltb).trans (hbox.out wr hbw 3 _ rfl), (hBB.cell (p := ⟨w.heap.size, 4, none⟩) hltb).trans (hbox.out wr hbw 4 _ rfl), hBB⟩ : W'.cell? (ad.add (a * 5)) = some (f0 x) ∧ W'.cell? ⟨(ad.add (a * 5)).block, (ad.add (a * 5)).off + 1, none⟩ = some (f1 x) ∧ W'.cell? ⟨(ad.add (a * 5)).block, (ad.add (a * 5)).off + 2, none⟩ = some (f2 x) ∧ W'.cell? ⟨(ad.add (a * 5)).block, (ad.add (a * 5)).off + 3, none⟩ = some (f3 x) ∧ W'.cell? ⟨(ad.add (a * 5)).block, (ad.add (a * 5)).off + 4, none⟩ = some (f4 x) ∧ W'.cell? ⟨w.heap.size, 0, none⟩ = some (.string ⟨tu.toArray⟩) ∧ W'.cell? ⟨w.heap.size, 1, none⟩ = some (.int .i64 th) ∧ W'.cell? ⟨w.heap.size, 2, none⟩ = some (.string ⟨ti.toArray⟩) ∧ W'.cell? ⟨w.heap.size, 3, none⟩ = some (.slice tA tn tc) ∧ W'.cell? ⟨w.heap.size, 4, none⟩ = some (.bool tb) ∧ Below wr.heap.size wr W'))
        clear hx hr hrw hpos hat hz hlte hltb c0 c1 c2 c3 c4
        go_wp2_with fail
        refine wpC_region (fun W' => W'.cell? (ad.add (a * 5)) = some (f0 x) ∧ W'.cell? ⟨(ad.add (a * 5)).block, (ad.add (a * 5)).off + 1, none⟩ = some (f1 x) ∧ W'.cell? ⟨(ad.add (a * 5)).block, (ad.add (a * 5)).off + 2, none⟩ = some (f2 x) ∧ W'.cell? ⟨(ad.add (a * 5)).block, (ad.add (a * 5)).off + 3, none⟩ = some (f3 x) ∧ W'.cell? ⟨(ad.add (a * 5)).block, (ad.add (a * 5)).off + 4, none⟩ = some (f4 x) ∧ W'.cell? ⟨w.heap.size, 0, none⟩ = some (.string ⟨tu.toArray⟩) ∧ W'.cell? ⟨w.heap.size, 1, none⟩ = some (.int .i64 th) ∧ W'.cell? ⟨w.heap.size, 2, none⟩ = some (.string ⟨ti.toArray⟩) ∧ W'.cell? ⟨w.heap.size, 3, none⟩ = some (.slice tA tn tc) ∧ W'.cell? ⟨w.heap.size, 4, none⟩ = some (.bool tb) ∧ Below wr.heap.size wr W') (by kernel_rfl) (by kernel_rfl) (hS.out _ (Below.refl wr.heap.size wr).drew) (fun OPS D QQ HO hD hD2 hQQ => ?_)
        have hgo4 : Hid ((OPS[4]?).bind (·.dst) = some 39) := by show _ = _; rw [HO.out]; rfl
        clear HO
        have HD := Lib.hid hD
        have HD2 := Lib.hid hD2
        have HQQ := Lib.hid hQQ
        clear hD hD2 hQQ
        refine wpC_read (v := ?_) rfl (fun W hW => ?_) ?_
        rotate_left
        · clear hW; go_simp; try (with_reducible rfl)
        try simp only [Act.put, List.setIfInBounds_toArray, List.set_cons_zero, List.set_cons_succ]
        refine wpC_read (v := ?_) rfl (fun W hW => ?_) ?_
        rotate_left
        · clear hW; go_simp; try (with_reducible rfl)
        try simp only [Act.put, List.setIfInBounds_toArray, List.set_cons_zero, List.set_cons_succ]
        refine wpC_read (v := ?_) rfl (fun W hW => ?_) ?_
        rotate_left
        · clear hW; go_simp; try (with_reducible rfl)
        try simp only [Act.put, List.setIfInBounds_toArray, List.set_cons_zero, List.set_cons_succ]
        refine wpC_read (v := ?_) rfl (fun W hW => ?_) ?_
        rotate_left
        · clear hW; go_simp; try (with_reducible rfl)
        try simp only [Act.put, List.setIfInBounds_toArray, List.set_cons_zero, List.set_cons_succ]
        refine wpC_read (v := ?_) rfl (fun W hW => ?_) ?_
        rotate_left
        · clear hW; go_simp; try (with_reducible rfl)
        try simp only [Act.put, List.setIfInBounds_toArray, List.set_cons_zero, List.set_cons_succ]
        refine wpC_gread (v := ?_) rfl hgo4.out rfl (fun W hW => ?_) ?_
        rotate_left
        · clear hW; go_simp; try (with_reducible rfl)
        try simp only [Act.put, List.setIfInBounds_toArray, List.set_cons_zero, List.set_cons_succ]
        refine wpC_gread (v := ?_) rfl hgo4.out rfl (fun W hW => ?_) ?_
        rotate_left
        · clear hW; go_simp; try (with_reducible rfl)
        try simp only [Act.put, List.setIfInBounds_toArray, List.set_cons_zero, List.set_cons_succ]
        refine wpC_gread (v := ?_) rfl hgo4.out rfl (fun W hW => ?_) ?_
        rotate_left
        · clear hW; go_simp; try (with_reducible rfl)
        try simp only [Act.put, List.setIfInBounds_toArray, List.set_cons_zero, List.set_cons_succ]
        refine wpC_gread (v := ?_) rfl hgo4.out rfl (fun W hW => ?_) ?_
        rotate_left
        · clear hW; go_simp; try (with_reducible rfl)
        try simp only [Act.put, List.setIfInBounds_toArray, List.set_cons_zero, List.set_cons_succ]
        refine wpC_gread (v := ?_) rfl hgo4.out rfl (fun W hW => ?_) ?_
        rotate_left
        · replace hW := HD.out W hW
          obtain ⟨q0, q1, q2, q3, q4, q5, q6, q7, q8, q9, hcW⟩ := hW
          go_simp; try (with_reducible rfl)
        try simp only [Act.put, List.setIfInBounds_toArray, List.set_cons_zero, List.set_cons_succ]
        refine wpC_gread (v := ?_) rfl hgo4.out rfl (fun W hW => ?_) ?_
        rotate_left
        · replace hW := HD.out W hW
          obtain ⟨q0, q1, q2, q3, q4, q5, q6, q7, q8, q9, hcW⟩ := hW
          go_simp; try (with_reducible rfl)
        try simp only [Act.put, List.setIfInBounds_toArray, List.set_cons_zero, List.set_cons_succ]
        refine wpC_gread (v := .int .i64 z) rfl hgo4.out rfl (fun W hW => ?_) ?_
        · replace hW := HD.out W hW
          obtain ⟨q0, q1, q2, q3, q4, q5, q6, q7, q8, q9, hcW⟩ := hW
          go_simp
          refine (hcx.out _ hcW).mono ?_
          rintro e w4 ⟨rfl, hbn⟩
          exact ⟨rfl, HD2.out _ (hS.out _ (below_step hcW hbn))⟩
        try simp only [Act.put, List.setIfInBounds_toArray, List.set_cons_zero, List.set_cons_succ]
        refine wpC_gread (v := ?_) rfl hgo4.out rfl (fun W hW => ?_) ?_
        rotate_left
        · clear hW; go_simp; try (with_reducible rfl)
        try simp only [Act.put, List.setIfInBounds_toArray, List.set_cons_zero, List.set_cons_succ]
        refine wpC_read (v := ?_) rfl (fun W hW => ?_) ?_
        rotate_left
        · clear hW; go_simp; try (with_reducible rfl)
        try simp only [Act.put, List.setIfInBounds_toArray, List.set_cons_zero, List.set_cons_succ]
        refine wpC_read (v := ?_) rfl (fun W hW => ?_) ?_
        rotate_left
        · clear hW; go_simp; try (with_reducible rfl)
        try simp only [Act.put, List.setIfInBounds_toArray, List.set_cons_zero, List.set_cons_succ]
        refine wpC_read (v := ?_) rfl (fun W hW => ?_) ?_
        rotate_left
        · clear hW; go_simp; try (with_reducible rfl)
        try simp only [Act.put, List.setIfInBounds_toArray, List.set_cons_zero, List.set_cons_succ]
        refine wpQuiet_nil (HQQ.out _ (fun W hW => ?_))
        obtain ⟨q0, q1, q2, q3, q4, q5, q6, q7, q8, q9, hcW⟩ := hW
        go_wp2_with fail
        go_ret2
        exact ⟨by rw [HPOS.out, HAT.out]; rfl, hbww.trans (hcW.mono (by omega))⟩
      · have hat : atF cf l = false := by
          unfold atF
          rw [hpos, List.getElem?_eq_none (by have := HN.out; omega)]
          rfl
        have HPOS := Lib.hid hpos
        have HAT := Lib.hid hat
        have hand : decide ((a : Int) < (n : Int)) = false := by simp; omega
        have hand' : decide (a < n) = false := by simp; omega
        clear hr hrw hpos hat
        go_wp2_with fail
        go_quiet (fail)
        go_wp2_with fail
        go_ret2
        exact ⟨by rw [HPOS.out, HAT.out]; rfl, below_drewN hbww _⟩
end Go.Proofs.YtjdebhemoeojiaaDoor
