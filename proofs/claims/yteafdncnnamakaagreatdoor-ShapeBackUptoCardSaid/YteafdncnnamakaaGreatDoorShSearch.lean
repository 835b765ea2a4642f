/-
  slices.BinarySearchFunc at elements of 5 cells, by its contract.
-/
import Derived.Test.YteafdncnnamakaaGreatDoorCells
import Derived.Test.YteafdncnnamakaaGreatDoorPredK
import Derived.Test.YteafdncnnamakaaGreatDoorRows
import Derived.Handy
namespace Go.Proofs.YteafdncnnamakaaGreatDoor
open Go.RowKit

set_option maxRecDepth 100000 in
set_option maxHeartbeats 1000000 in
theorem searchSet_any {α : Type} (f0 f1 f2 f3 f4 : α → Value) (cf : α → Int) (l : List α) (hl : SignAsc cf l) (n : Nat) (hnl : n = l.length) (A : Option Addr) (c : Nat) (tgt : Value) (w : World) (B : Nat)
    (hr : Reads w B 5 A n (cellsK (fun x => [f0 x, f1 x, f2 x, f3 x, f4 x]) l)) (hB : B ≤ w.heap.size) (hn : n ≤ 5000000000000)
    (hcmp : ∀ x W, Below w.heap.size w W → Calls Tryz.prog 75 #[.agg #[f0 x, f1 x, f2 x, f3 x, f4 x], tgt] W fun e W' => e = .returned (.int .i64 (cf x)) ∧ Below W.heap.size W W') :
    Calls Tryz.prog 74 #[.slice A n c, tgt, .func (.func 75) #[] #[]] w fun e w' => e = .returned (.tuple #[.int .i64 (posF cf l), .bool (atF cf l)]) ∧ Below w.heap.size w w' := by
  have HN := Lib.hid hnl
  have HL := Lib.hid hl
  have HC := Lib.hid hcmp
  clear hnl hl hcmp
  go_enter Tryz.func74, Tryz.ntmps74
  go_wp2_with fail
  go_loopw [9, 10] (fun i j wr => ∃ a b : Nat, a ≤ b ∧ b ≤ n ∧ i = .int .i64 (a : Int) ∧ j = .int .i64 (b : Int) ∧ Hid ((∀ (k : Nat) (x : α), k < a → l[k]? = some x → cf x < 0) ∧ ∀ (k : Nat) (x : α), b ≤ k → l[k]? = some x → 0 ≤ cf x) ∧ Below w.heap.size w wr) (fun i j _ => (intOf j).toNat - (intOf i).toNat)
  case atStart => exact ⟨0, n, Nat.zero_le _, Nat.le_refl _, rfl, rfl, ⟨fun k x hk _ => by omega, fun k x hk hx => by have := (List.getElem?_eq_some_iff.1 hx).1; have := HN.out; omega⟩, Below.refl _ _⟩
  case round =>
    obtain ⟨a, b, hab, hbn, rfl, rfl, hI, hbw⟩ := hrel
    by_cases hlt : a < b
    · obtain ⟨h, hh⟩ : ∃ h, h = (a + b) / 2 := ⟨_, rfl⟩
      have hha : a ≤ h := by omega
      have hhb : h < b := by omega
      have hlI : (a : Int) < (b : Int) := by omega
      have hrw := hr.below (hbw.mono hB)
      obtain ⟨ad, rfl, hadB, c0, c1, c2, c3, c4⟩ := hrw.el5 HN.out (show h < n by omega)
      obtain ⟨x, hx⟩ : ∃ x, x = l[h]'(by have := HN.out; omega) := ⟨_, rfl⟩
      rw [← hx] at c0 c1 c2 c3 c4
      have HX := Lib.hid (show l[h]? = some x by rw [hx]; exact List.getElem?_eq_getElem _)
      have HH := Lib.hid hh
      have hcx := HC.out x wr hbw
      obtain ⟨z, hz⟩ : ∃ z, z = cf x := ⟨_, rfl⟩
      rw [← hz] at hcx
      have HZ := Lib.hid hz
      clear hx hr hz
      rw [hh] at c0 c1 c2 c3 c4
      clear hh
      go_wp2_with fail
      refine hcx.mono ?_
      clear hcx
      rintro e w1 ⟨rfl, hb1⟩
      have hbw1 := hbw.trans (hb1.mono hbw.size)
      by_cases hz0 : z < 0
      · go_wp2_with fail
        go_roundw
        case rel =>
          refine ⟨h + 1, b, by omega, hbn, by rw [HH.out]; go_num, rfl, ⟨fun k y hk hy => ?_, hI.out.2⟩, hbw1⟩
          by_cases hkh : k = h
          · subst hkh
            have := HX.out
            rw [hy] at this
            cases this
            have := HZ.out
            omega
          · exact HL.out k h y x (by omega) hy HX.out (by have := HZ.out; omega)
        case measure => simp [intOf]; omega
      · go_wp2_with fail
        go_roundw
        case rel =>
          refine ⟨a, h, by omega, by omega, rfl, by rw [HH.out]; go_num, ⟨hI.out.1, fun k y hk hy => ?_⟩, hbw1⟩
          by_cases hkh : k = h
          · subst hkh
            have := HX.out
            rw [hy] at this
            cases this
            have := HZ.out
            omega
          · have h1 := HL.out h k x y (by omega) HX.out hy
            have := HZ.out
            omega
        case measure => simp [intOf]; omega
    · obtain rfl : a = b := by omega
      have hpos : posF cf l = a := posF_eq cf l a (by have := HN.out; omega) hI.out.1 (fun x hx => hI.out.2 a x (Nat.le_refl _) hx)
      have hrw := hr.below (hbw.mono hB)
      by_cases han : a < n
      · obtain ⟨ad, rfl, hadB, c0, c1, c2, c3, c4⟩ := hrw.el5 HN.out han
        obtain ⟨x, hx⟩ : ∃ x, x = l[a]'(by have := HN.out; omega) := ⟨_, rfl⟩
        rw [← hx] at c0 c1 c2 c3 c4
        have hat : atF cf l = (cf x == 0) := by
          unfold atF
          rw [hpos, List.getElem?_eq_getElem (by have := HN.out; omega), ← hx]
          rfl
        have hcx := HC.out x wr hbw
        obtain ⟨z, hz⟩ : ∃ z, z = cf x := ⟨_, rfl⟩
        rw [← hz] at hcx hat
        have HZ := Lib.hid hz
        have HPOS := Lib.hid hpos
        have HAT := Lib.hid hat
        clear hx hr hrw hpos hat hz
        go_wp2_with fail
        refine hcx.mono ?_
        clear hcx
        rintro e w1 ⟨rfl, hb1⟩
        have hbw1 := hbw.trans (hb1.mono hbw.size)
        go_wp2_with fail
        go_ret2
        exact ⟨by rw [HPOS.out, HAT.out]; rfl, hbw1⟩
      · have hat : atF cf l = false := by
          unfold atF
          rw [hpos, List.getElem?_eq_none (by have := HN.out; omega)]
          rfl
        have HPOS := Lib.hid hpos
        have HAT := Lib.hid hat
        clear hr hrw hpos hat
        go_wp2_with fail
        go_ret2
        exact ⟨by rw [HPOS.out, HAT.out]; rfl, hbw⟩
end Go.Proofs.YteafdncnnamakaaGreatDoor
