/-
  PruneGoes: pruned, a tenant is what it is when each of those that may go is destroyed by itself: the law's walk.
-/
import Derived.Test.YtcgclpcocdappaaGreatDoorPrnLo
import Derived.Test.YtcgclpcocdappaaGreatDoorPrnFr
import Derived.Test.YtcgclpcocdappaaGreatDoorPrnLaw
import Derived.Test.YtcgclpcocdappaaGreatDoorRgStV
namespace Go.Proofs.YtcgclpcocdappaaGreatDoor
open Go.RowKit

theorem keptS_sz {s : SetC} (h : s.sz) (L : List BS) : (s.without L).sz :=
  ⟨h.path, h.org, h.body, Nat.le_trans (List.length_filter_le _ _) h.snaps, fun y hy => h.each y (List.mem_filter.1 hy).1, h.own, h.props⟩
set_option maxRecDepth 100000 in
set_option maxHeartbeats 8000000 in
theorem pruneGoes_any (t : TenR) (p : BS) (keep : Int) (w : World) (hr : t.rd w w.heap.size) (hz : t.sz) (hp : p.length ≤ 3000000000) (hmx : HasMax w) :
    Calls Tryz.prog 4 #[t.val, .string ⟨p.toArray⟩, .int .i64 keep] w fun e w' => e = .returned (.bool true) ∧ Below w.heap.size w w' := by
  have hcz := TenC.sz_of hr hz
  obtain ⟨nm, qu, nx, ⟨s1, sn, s3, sl⟩, ⟨gA, gN, gC, gL⟩, ⟨t1, tn, t3, tl⟩, ⟨l1, ln, l3, ll⟩⟩ := t
  show Calls Tryz.prog 4 #[.agg #[.string ⟨nm.toArray⟩, .int .i64 qu, .int .i64 nx, .slice s1 sn s3, .slice gA gN gC, .slice t1 tn t3, .slice l1 ln l3], .string ⟨p.toArray⟩, .int .i64 keep] w _
  have hb := ((Below.refl w.heap.size w).alloc (Nat.le_refl _) (.cells #[.string ⟨nm.toArray⟩, .int .i64 qu, .int .i64 nx, .slice s1 sn s3, .slice gA gN gC, .slice t1 tn t3, .slice l1 ln l3] 27))
  have kt := Blk.new w 27 #[.string ⟨nm.toArray⟩, .int .i64 qu, .int .i64 nx, .slice s1 sn s3, .slice gA gN gC, .slice t1 tn t3, .slice l1 ln l3]
  have hsz : (w.alloc (.cells #[.string ⟨nm.toArray⟩, .int .i64 qu, .int .i64 nx, .slice s1 sn s3, .slice gA gN gC, .slice t1 tn t3, .slice l1 ln l3] 27)).heap.size = w.heap.size + 1 := by simp
  obtain ⟨W1, hW1⟩ : ∃ W, W = (w.alloc (.cells #[.string ⟨nm.toArray⟩, .int .i64 qu, .int .i64 nx, .slice s1 sn s3, .slice gA gN gC, .slice t1 tn t3, .slice l1 ln l3] 27)) := ⟨_, rfl⟩
  rw [← hW1] at hb hsz kt
  have hKt : Hid (∀ W, Below W1.heap.size W1 W → Blk W w.heap.size 27 #[.string ⟨nm.toArray⟩, .int .i64 qu, .int .i64 nx, .slice s1 sn s3, .slice gA gN gC, .slice t1 tn t3, .slice l1 ln l3]) := fun W h => kt.below h (by omega)
  have hBW : Hid (∀ W, Below W1.heap.size W1 W → Below w.heap.size w W) := fun W h => hb.trans (h.mono (by omega))
  have hSZ : Hid (∀ W, Below W1.heap.size W1 W → w.heap.size + 1 ≤ W.heap.size) := fun W h => by have := h.size; omega
  have hW0 : Hid (Below W1.heap.size W1 W1) := Below.refl _ _
  have hrw : Hid (∀ W, Below W1.heap.size W1 W → TenR.rd W w.heap.size ⟨nm, qu, nx, ⟨s1, sn, s3, sl⟩, ⟨gA, gN, gC, gL⟩, ⟨t1, tn, t3, tl⟩, ⟨l1, ln, l3, ll⟩⟩ ∧ w.heap.size ≤ W.heap.size ∧ HasMax W) := fun W h =>
    ⟨TenR.rd.below hr (hBW.out W h), by have := hSZ.out W h; omega, hmx.below (hBW.out W h)⟩
  have hAL : Hid (∀ W, Below W1.heap.size W1 W → Calls Tryz.prog 16 #[] W fun e w' => e = .returned (.bool true) ∧ Below W.heap.size W w') := fun W h => alive39_any W (hrw.out W h).2.2
  obtain ⟨C, hC⟩ : ∃ C, C = TenR.con ⟨nm, qu, nx, ⟨s1, sn, s3, sl⟩, ⟨gA, gN, gC, gL⟩, ⟨t1, tn, t3, tl⟩, ⟨l1, ln, l3, ll⟩⟩ := ⟨_, rfl⟩
  have hHC := Lib.hid hC
  rw [← hC] at hcz
  obtain ⟨E, hE⟩ : ∃ E, E = C.E := ⟨_, rfl⟩
  have hCK : Hid (∀ W, Below W1.heap.size W1 W → Calls Tryz.prog 18 #[.agg #[.string ⟨nm.toArray⟩, .int .i64 qu, .int .i64 nx, .slice s1 sn s3, .slice gA gN gC, .slice t1 tn t3, .slice l1 ln l3]] W fun e w' => e = .returned (.int .i64 E) ∧ Below W.heap.size W w') := fun W h => by
    have h1 := rcheck14_any ⟨nm, qu, nx, ⟨s1, sn, s3, sl⟩, ⟨gA, gN, gC, gL⟩, ⟨t1, tn, t3, tl⟩, ⟨l1, ln, l3, ll⟩⟩ W w.heap.size (hrw.out W h).1 (hrw.out W h).2.1 hz
    rw [tenE_con, ← hC, ← hE] at h1
    exact h1
  have hfs : findS sl p = C.find p := by rw [hC]; exact findS_con ⟨nm, qu, nx, ⟨s1, sn, s3, sl⟩, ⟨gA, gN, gC, gL⟩, ⟨t1, tn, t3, tl⟩, ⟨l1, ln, l3, ll⟩⟩ p
  have hFI : Hid (∀ W, Below W1.heap.size W1 W → Calls Tryz.prog 10 #[.agg #[.string ⟨nm.toArray⟩, .int .i64 qu, .int .i64 nx, .slice s1 sn s3, .slice gA gN gC, .slice t1 tn t3, .slice l1 ln l3], .string ⟨p.toArray⟩] W fun e w' => e = .returned (.int .i64 (findS sl p)) ∧ Below W.heap.size W w') := fun W h =>
    refFind_any _ _ _ _ _ _ sl sn hr.sets.1 s1 s3 p W w.heap.size (hrw.out W h).1.sets.2.2 (hrw.out W h).2.1 (by have := hz.sets; simp only at this; omega)
  have hPR : Hid (∀ V, V = C.prune p keep → ∀ W, Below W1.heap.size W1 W → Calls Tryz.prog 17 #[.agg #[.string ⟨nm.toArray⟩, .int .i64 qu, .int .i64 nx, .slice s1 sn s3, .slice gA gN gC, .slice t1 tn t3, .slice l1 ln l3], .string ⟨p.toArray⟩, .int .i64 keep] W (PrunePost W V)) := fun V hV W h => by
    rw [hV, hC]
    exact prune_any ⟨nm, qu, nx, ⟨s1, sn, s3, sl⟩, ⟨gA, gN, gC, gL⟩, ⟨t1, tn, t3, tl⟩, ⟨l1, ln, l3, ll⟩⟩ p keep W w.heap.size (hrw.out W h).2.1 (hrw.out W h).1 hz (hrw.out W h).2.2
  have HCZ := Lib.hid hcz
  have HZ := Lib.hid hz
  have HP := Lib.hid hp
  have hcs : firstI (fun s : SetR => s.path == p) sl = findS sl p := rfl
  rcases C.E_two with hE0 | hE0
  rotate_left
  · rw [hE0] at hE
    subst hE
    have HPV : Hid (∀ W, Below W1.heap.size W1 W → Calls Tryz.prog 17 #[.agg #[.string ⟨nm.toArray⟩, .int .i64 qu, .int .i64 nx, .slice s1 sn s3, .slice gA gN gC, .slice t1 tn t3, .slice l1 ln l3], .string ⟨p.toArray⟩, .int .i64 keep] W (PrunePost W (9, 0, C))) := hPR.out _ (by
      unfold TenC.prune
      rw [if_pos (by rw [hE0]; decide), hE0]
      )
    clear hb hsz kt hr hz hp hmx hC hcz hfs hcs hE0 hPR hFI
    go_enter Tryz.func4, Tryz.ntmps4
    have hc := hAL.out  W1 hW0.out
    have kk := hKt.out W1 hW0.out
    obtain ⟨c0, c1, c2, c3, c4, c5, c6⟩ := (⟨kk.cell 0, kk.cell 1, kk.cell 2, kk.cell 3, kk.cell 4, kk.cell 5, kk.cell 6⟩ : _ ∧ _ ∧ _ ∧ _ ∧ _ ∧ _ ∧ _)
    simp only [List.getElem?_toArray, List.getElem?_cons_succ, List.getElem?_cons_zero] at c0 c1 c2 c3 c4 c5 c6
    clear kk
    go_wp2_with fail
    rw [← hW1]
    clear hW1
    refine hc.mono ?_
    clear hc c0 c1 c2 c3 c4 c5 c6
    rintro e w2 ⟨rfl, hb⟩
    have HW2 := Lib.hid (hW0.out.trans (hb.mono hW0.out.size))
    clear hb
    have hc := HPV.out w2 HW2.out
    have kk := hKt.out w2 HW2.out
    obtain ⟨c0, c1, c2, c3, c4, c5, c6⟩ := (⟨kk.cell 0, kk.cell 1, kk.cell 2, kk.cell 3, kk.cell 4, kk.cell 5, kk.cell 6⟩ : _ ∧ _ ∧ _ ∧ _ ∧ _ ∧ _ ∧ _)
    simp only [List.getElem?_toArray, List.getElem?_cons_succ, List.getElem?_cons_zero] at c0 c1 c2 c3 c4 c5 c6
    clear kk
    go_wp2_with fail
    refine hc.mono ?_
    clear hc c0 c1 c2 c3 c4 c5 c6
    rintro e w3 ⟨v, ni, rfl, hb, ⟨h1, rfl, rfl⟩ | ⟨h1, -⟩⟩
    rotate_left
    · exact absurd (show (9 : Int) = 0 from h1) (by decide)
    have HW3 := Lib.hid (HW2.out.trans (hb.mono HW2.out.size))
    clear hb h1
    unfold ZEROT
    have hbn := (HW3.out).alloc HW3.out.size (.cells #[.string ⟨#[]⟩, .int .i64 0, .int .i64 0, .slice none 0 0, .slice none 0 0, .slice none 0 0, .slice none 0 0] 27)
    have kbn := Blk.new w3 27 #[.string ⟨#[]⟩, .int .i64 0, .int .i64 0, .slice none 0 0, .slice none 0 0, .slice none 0 0, .slice none 0 0]
    have hsn : (w3.alloc (.cells #[.string ⟨#[]⟩, .int .i64 0, .int .i64 0, .slice none 0 0, .slice none 0 0, .slice none 0 0, .slice none 0 0] 27)).heap.size = w3.heap.size + 1 := by simp
    obtain ⟨Bz, hBz⟩ : ∃ g, g = w3.heap.size := ⟨_, rfl⟩
    obtain ⟨w4, hWn⟩ : ∃ W, W = (w3.alloc (.cells #[.string ⟨#[]⟩, .int .i64 0, .int .i64 0, .slice none 0 0, .slice none 0 0, .slice none 0 0, .slice none 0 0] 27)) := ⟨_, rfl⟩
    rw [← hWn] at hbn kbn hsn 
    have HW4 := Lib.hid hbn
    rw [← hBz] at kbn
    have hKz : Hid (∀ W, Below w4.heap.size w4 W → Blk W Bz 27 #[.string ⟨#[]⟩, .int .i64 0, .int .i64 0, .slice none 0 0, .slice none 0 0, .slice none 0 0, .slice none 0 0]) := fun W h => kbn.below h (by omega)
    have HZz := Lib.hid (show Bz = w3.heap.size ∧ w4.heap.size = w3.heap.size + 1 from ⟨hBz, hsn⟩)
    clear hbn kbn hsn 
    have hc := hCK.out w4 HW4.out
    have kk := hKt.out w4 HW4.out
    obtain ⟨c0, c1, c2, c3, c4, c5, c6⟩ := (⟨kk.cell 0, kk.cell 1, kk.cell 2, kk.cell 3, kk.cell 4, kk.cell 5, kk.cell 6⟩ : _ ∧ _ ∧ _ ∧ _ ∧ _ ∧ _ ∧ _)
    simp only [List.getElem?_toArray, List.getElem?_cons_succ, List.getElem?_cons_zero] at c0 c1 c2 c3 c4 c5 c6
    clear kk
    go_wp2_with (refine wpList_store_new w3 rfl 27 (.tmp 7) (.tmp 25) rfl 27 [.string ⟨#[]⟩, .int .i64 0, .int .i64 0, .slice none 0 0, .slice none 0 0, .slice none 0 0, .slice none 0 0] [.string ⟨#[]⟩, .int .i64 0, .int .i64 0, .slice none 0 0, .slice none 0 0, .slice none 0 0, .slice none 0 0] rfl rfl rfl (by kernel_rfl) (by simp [Value.oneCell']) ?_; rw [show ([.string ⟨#[]⟩, .int .i64 0, .int .i64 0, .slice none 0 0, .slice none 0 0, .slice none 0 0, .slice none 0 0] : List Value).toArray = #[.string ⟨#[]⟩, .int .i64 0, .int .i64 0, .slice none 0 0, .slice none 0 0, .slice none 0 0, .slice none 0 0] from rfl, ← hWn, ← hBz]; clear hWn hBz)
    refine hc.mono ?_
    clear hc c0 c1 c2 c3 c4 c5 c6
    rintro e w5 ⟨rfl, hb⟩
    have HW5 := Lib.hid (HW4.out.trans (hb.mono HW4.out.size))
    have H45 := Lib.hid hb
    clear hb
    have hz3 := (hKz.out w5 H45.out).cell 3
    simp only [List.getElem?_toArray, List.getElem?_cons_succ, List.getElem?_cons_zero] at hz3
    go_wp2_with fail
    go_ret
    exact ⟨rfl, hBW.out _ HW5.out⟩
  rw [hE0] at hE
  subst hE
  have HE0 := Lib.hid hE0
  rcases firstI_cases (fun s : SetR => s.path == p) sl with ⟨hf, -⟩ | ⟨k, hkl, hf, hfd⟩
  · rw [hcs] at hf
    have hfC : C.find p = -1 := by rw [← hfs, hf]
    rw [hf] at hFI
    have HPV : Hid (∀ W, Below W1.heap.size W1 W → Calls Tryz.prog 17 #[.agg #[.string ⟨nm.toArray⟩, .int .i64 qu, .int .i64 nx, .slice s1 sn s3, .slice gA gN gC, .slice t1 tn t3, .slice l1 ln l3], .string ⟨p.toArray⟩, .int .i64 keep] W (PrunePost W (71, 0, C))) := hPR.out _ (by
      unfold TenC.prune
      rw [if_neg (by rw [hE0]; decide), if_pos (by rw [hfC]; decide)]
      )
    clear hb hsz kt hr hz hp hmx hC hcz hfs hcs hE0 hf hfC hPR HE0
    go_enter Tryz.func4, Tryz.ntmps4
    have hc := hAL.out  W1 hW0.out
    have kk := hKt.out W1 hW0.out
    obtain ⟨c0, c1, c2, c3, c4, c5, c6⟩ := (⟨kk.cell 0, kk.cell 1, kk.cell 2, kk.cell 3, kk.cell 4, kk.cell 5, kk.cell 6⟩ : _ ∧ _ ∧ _ ∧ _ ∧ _ ∧ _ ∧ _)
    simp only [List.getElem?_toArray, List.getElem?_cons_succ, List.getElem?_cons_zero] at c0 c1 c2 c3 c4 c5 c6
    clear kk
    go_wp2_with fail
    rw [← hW1]
    clear hW1
    refine hc.mono ?_
    clear hc c0 c1 c2 c3 c4 c5 c6
    rintro e w2 ⟨rfl, hb⟩
    have HW2 := Lib.hid (hW0.out.trans (hb.mono hW0.out.size))
    clear hb
    have hc := HPV.out w2 HW2.out
    have kk := hKt.out w2 HW2.out
    obtain ⟨c0, c1, c2, c3, c4, c5, c6⟩ := (⟨kk.cell 0, kk.cell 1, kk.cell 2, kk.cell 3, kk.cell 4, kk.cell 5, kk.cell 6⟩ : _ ∧ _ ∧ _ ∧ _ ∧ _ ∧ _ ∧ _)
    simp only [List.getElem?_toArray, List.getElem?_cons_succ, List.getElem?_cons_zero] at c0 c1 c2 c3 c4 c5 c6
    clear kk
    go_wp2_with fail
    refine hc.mono ?_
    clear hc c0 c1 c2 c3 c4 c5 c6
    rintro e w3 ⟨v, ni, rfl, hb, ⟨h1, rfl, rfl⟩ | ⟨h1, -⟩⟩
    rotate_left
    · exact absurd (show (71 : Int) = 0 from h1) (by decide)
    have HW3 := Lib.hid (HW2.out.trans (hb.mono HW2.out.size))
    clear hb h1
    unfold ZEROT
    have hbn := (HW3.out).alloc HW3.out.size (.cells #[.string ⟨#[]⟩, .int .i64 0, .int .i64 0, .slice none 0 0, .slice none 0 0, .slice none 0 0, .slice none 0 0] 27)
    have kbn := Blk.new w3 27 #[.string ⟨#[]⟩, .int .i64 0, .int .i64 0, .slice none 0 0, .slice none 0 0, .slice none 0 0, .slice none 0 0]
    have hsn : (w3.alloc (.cells #[.string ⟨#[]⟩, .int .i64 0, .int .i64 0, .slice none 0 0, .slice none 0 0, .slice none 0 0, .slice none 0 0] 27)).heap.size = w3.heap.size + 1 := by simp
    obtain ⟨Bz, hBz⟩ : ∃ g, g = w3.heap.size := ⟨_, rfl⟩
    obtain ⟨w4, hWn⟩ : ∃ W, W = (w3.alloc (.cells #[.string ⟨#[]⟩, .int .i64 0, .int .i64 0, .slice none 0 0, .slice none 0 0, .slice none 0 0, .slice none 0 0] 27)) := ⟨_, rfl⟩
    rw [← hWn] at hbn kbn hsn 
    have HW4 := Lib.hid hbn
    rw [← hBz] at kbn
    have hKz : Hid (∀ W, Below w4.heap.size w4 W → Blk W Bz 27 #[.string ⟨#[]⟩, .int .i64 0, .int .i64 0, .slice none 0 0, .slice none 0 0, .slice none 0 0, .slice none 0 0]) := fun W h => kbn.below h (by omega)
    have HZz := Lib.hid (show Bz = w3.heap.size ∧ w4.heap.size = w3.heap.size + 1 from ⟨hBz, hsn⟩)
    clear hbn kbn hsn 
    have hc := hCK.out w4 HW4.out
    have kk := hKt.out w4 HW4.out
    obtain ⟨c0, c1, c2, c3, c4, c5, c6⟩ := (⟨kk.cell 0, kk.cell 1, kk.cell 2, kk.cell 3, kk.cell 4, kk.cell 5, kk.cell 6⟩ : _ ∧ _ ∧ _ ∧ _ ∧ _ ∧ _ ∧ _)
    simp only [List.getElem?_toArray, List.getElem?_cons_succ, List.getElem?_cons_zero] at c0 c1 c2 c3 c4 c5 c6
    clear kk
    go_wp2_with (refine wpList_store_new w3 rfl 27 (.tmp 7) (.tmp 25) rfl 27 [.string ⟨#[]⟩, .int .i64 0, .int .i64 0, .slice none 0 0, .slice none 0 0, .slice none 0 0, .slice none 0 0] [.string ⟨#[]⟩, .int .i64 0, .int .i64 0, .slice none 0 0, .slice none 0 0, .slice none 0 0, .slice none 0 0] rfl rfl rfl (by kernel_rfl) (by simp [Value.oneCell']) ?_; rw [show ([.string ⟨#[]⟩, .int .i64 0, .int .i64 0, .slice none 0 0, .slice none 0 0, .slice none 0 0, .slice none 0 0] : List Value).toArray = #[.string ⟨#[]⟩, .int .i64 0, .int .i64 0, .slice none 0 0, .slice none 0 0, .slice none 0 0, .slice none 0 0] from rfl, ← hWn, ← hBz]; clear hWn hBz)
    refine hc.mono ?_
    clear hc c0 c1 c2 c3 c4 c5 c6
    rintro e w5 ⟨rfl, hb⟩
    have HW5 := Lib.hid (HW4.out.trans (hb.mono HW4.out.size))
    have H45 := Lib.hid hb
    clear hb
    have hc := hFI.out w5 HW5.out
    have kk := hKt.out w5 HW5.out
    obtain ⟨c0, c1, c2, c3, c4, c5, c6⟩ := (⟨kk.cell 0, kk.cell 1, kk.cell 2, kk.cell 3, kk.cell 4, kk.cell 5, kk.cell 6⟩ : _ ∧ _ ∧ _ ∧ _ ∧ _ ∧ _ ∧ _)
    simp only [List.getElem?_toArray, List.getElem?_cons_succ, List.getElem?_cons_zero] at c0 c1 c2 c3 c4 c5 c6
    clear kk
    go_wp2_with fail
    refine hc.mono ?_
    clear hc c0 c1 c2 c3 c4 c5 c6
    rintro e w6 ⟨rfl, hb⟩
    have HW6 := Lib.hid (HW5.out.trans (hb.mono HW5.out.size))
    have H46 := Lib.hid (H45.out.trans (hb.mono H45.out.size))
    clear hb
    have hz3 := (hKz.out w6 H46.out).cell 3
    simp only [List.getElem?_toArray, List.getElem?_cons_succ, List.getElem?_cons_zero] at hz3
    go_wp2_with fail
    go_ret
    exact ⟨rfl, hBW.out _ HW6.out⟩
  rw [hcs] at hf
  have hfC : C.find p = (k : Int) := by rw [← hfs, hf]
  rw [hf] at hFI
  have hk0 : (0 : Int) ≤ (k : Int) := by omega
  by_cases hkp : keep < 0 ∨ 16 < keep
  · have HPV : Hid (∀ W, Below W1.heap.size W1 W → Calls Tryz.prog 17 #[.agg #[.string ⟨nm.toArray⟩, .int .i64 qu, .int .i64 nx, .slice s1 sn s3, .slice gA gN gC, .slice t1 tn t3, .slice l1 ln l3], .string ⟨p.toArray⟩, .int .i64 keep] W (PrunePost W (4, 0, C))) := hPR.out _ (by
      unfold TenC.prune
      rw [if_neg (by rw [hE0]; decide), if_neg (by rw [hfC]; omega), if_pos hkp]
      )
    by_cases hk1 : keep < 0
    · clear hb hsz kt hr hz hp hmx hC hcz hfs hcs hE0 hf hfC hPR HE0 hkp hkl hfd
      go_enter Tryz.func4, Tryz.ntmps4
      have hc := hAL.out  W1 hW0.out
      have kk := hKt.out W1 hW0.out
      obtain ⟨c0, c1, c2, c3, c4, c5, c6⟩ := (⟨kk.cell 0, kk.cell 1, kk.cell 2, kk.cell 3, kk.cell 4, kk.cell 5, kk.cell 6⟩ : _ ∧ _ ∧ _ ∧ _ ∧ _ ∧ _ ∧ _)
      simp only [List.getElem?_toArray, List.getElem?_cons_succ, List.getElem?_cons_zero] at c0 c1 c2 c3 c4 c5 c6
      clear kk
      go_wp2_with fail
      rw [← hW1]
      clear hW1
      refine hc.mono ?_
      clear hc c0 c1 c2 c3 c4 c5 c6
      rintro e w2 ⟨rfl, hb⟩
      have HW2 := Lib.hid (hW0.out.trans (hb.mono hW0.out.size))
      clear hb
      have hc := HPV.out w2 HW2.out
      have kk := hKt.out w2 HW2.out
      obtain ⟨c0, c1, c2, c3, c4, c5, c6⟩ := (⟨kk.cell 0, kk.cell 1, kk.cell 2, kk.cell 3, kk.cell 4, kk.cell 5, kk.cell 6⟩ : _ ∧ _ ∧ _ ∧ _ ∧ _ ∧ _ ∧ _)
      simp only [List.getElem?_toArray, List.getElem?_cons_succ, List.getElem?_cons_zero] at c0 c1 c2 c3 c4 c5 c6
      clear kk
      go_wp2_with fail
      refine hc.mono ?_
      clear hc c0 c1 c2 c3 c4 c5 c6
      rintro e w3 ⟨v, ni, rfl, hb, ⟨h1, rfl, rfl⟩ | ⟨h1, -⟩⟩
      rotate_left
      · exact absurd (show (4 : Int) = 0 from h1) (by decide)
      have HW3 := Lib.hid (HW2.out.trans (hb.mono HW2.out.size))
      clear hb h1
      unfold ZEROT
      have hbn := (HW3.out).alloc HW3.out.size (.cells #[.string ⟨#[]⟩, .int .i64 0, .int .i64 0, .slice none 0 0, .slice none 0 0, .slice none 0 0, .slice none 0 0] 27)
      have kbn := Blk.new w3 27 #[.string ⟨#[]⟩, .int .i64 0, .int .i64 0, .slice none 0 0, .slice none 0 0, .slice none 0 0, .slice none 0 0]
      have hsn : (w3.alloc (.cells #[.string ⟨#[]⟩, .int .i64 0, .int .i64 0, .slice none 0 0, .slice none 0 0, .slice none 0 0, .slice none 0 0] 27)).heap.size = w3.heap.size + 1 := by simp
      obtain ⟨Bz, hBz⟩ : ∃ g, g = w3.heap.size := ⟨_, rfl⟩
      obtain ⟨w4, hWn⟩ : ∃ W, W = (w3.alloc (.cells #[.string ⟨#[]⟩, .int .i64 0, .int .i64 0, .slice none 0 0, .slice none 0 0, .slice none 0 0, .slice none 0 0] 27)) := ⟨_, rfl⟩
      rw [← hWn] at hbn kbn hsn 
      have HW4 := Lib.hid hbn
      rw [← hBz] at kbn
      have hKz : Hid (∀ W, Below w4.heap.size w4 W → Blk W Bz 27 #[.string ⟨#[]⟩, .int .i64 0, .int .i64 0, .slice none 0 0, .slice none 0 0, .slice none 0 0, .slice none 0 0]) := fun W h => kbn.below h (by omega)
      have HZz := Lib.hid (show Bz = w3.heap.size ∧ w4.heap.size = w3.heap.size + 1 from ⟨hBz, hsn⟩)
      clear hbn kbn hsn 
      have hc := hCK.out w4 HW4.out
      have kk := hKt.out w4 HW4.out
      obtain ⟨c0, c1, c2, c3, c4, c5, c6⟩ := (⟨kk.cell 0, kk.cell 1, kk.cell 2, kk.cell 3, kk.cell 4, kk.cell 5, kk.cell 6⟩ : _ ∧ _ ∧ _ ∧ _ ∧ _ ∧ _ ∧ _)
      simp only [List.getElem?_toArray, List.getElem?_cons_succ, List.getElem?_cons_zero] at c0 c1 c2 c3 c4 c5 c6
      clear kk
      go_wp2_with (refine wpList_store_new w3 rfl 27 (.tmp 7) (.tmp 25) rfl 27 [.string ⟨#[]⟩, .int .i64 0, .int .i64 0, .slice none 0 0, .slice none 0 0, .slice none 0 0, .slice none 0 0] [.string ⟨#[]⟩, .int .i64 0, .int .i64 0, .slice none 0 0, .slice none 0 0, .slice none 0 0, .slice none 0 0] rfl rfl rfl (by kernel_rfl) (by simp [Value.oneCell']) ?_; rw [show ([.string ⟨#[]⟩, .int .i64 0, .int .i64 0, .slice none 0 0, .slice none 0 0, .slice none 0 0, .slice none 0 0] : List Value).toArray = #[.string ⟨#[]⟩, .int .i64 0, .int .i64 0, .slice none 0 0, .slice none 0 0, .slice none 0 0, .slice none 0 0] from rfl, ← hWn, ← hBz]; clear hWn hBz)
      refine hc.mono ?_
      clear hc c0 c1 c2 c3 c4 c5 c6
      rintro e w5 ⟨rfl, hb⟩
      have HW5 := Lib.hid (HW4.out.trans (hb.mono HW4.out.size))
      have H45 := Lib.hid hb
      clear hb
      have hc := hFI.out w5 HW5.out
      have kk := hKt.out w5 HW5.out
      obtain ⟨c0, c1, c2, c3, c4, c5, c6⟩ := (⟨kk.cell 0, kk.cell 1, kk.cell 2, kk.cell 3, kk.cell 4, kk.cell 5, kk.cell 6⟩ : _ ∧ _ ∧ _ ∧ _ ∧ _ ∧ _ ∧ _)
      simp only [List.getElem?_toArray, List.getElem?_cons_succ, List.getElem?_cons_zero] at c0 c1 c2 c3 c4 c5 c6
      clear kk
      go_wp2_with fail
      refine hc.mono ?_
      clear hc c0 c1 c2 c3 c4 c5 c6
      rintro e w6 ⟨rfl, hb⟩
      have HW6 := Lib.hid (HW5.out.trans (hb.mono HW5.out.size))
      have H46 := Lib.hid (H45.out.trans (hb.mono H45.out.size))
      clear hb
      have hz3 := (hKz.out w6 H46.out).cell 3
      simp only [List.getElem?_toArray, List.getElem?_cons_succ, List.getElem?_cons_zero] at hz3
      go_wp2_with fail
      go_ret
      exact ⟨rfl, hBW.out _ HW6.out⟩
    · have hk2 : 16 < keep := by omega
      clear hb hsz kt hr hz hp hmx hC hcz hfs hcs hE0 hf hfC hPR HE0 hkp hkl hfd
      go_enter Tryz.func4, Tryz.ntmps4
      have hc := hAL.out  W1 hW0.out
      have kk := hKt.out W1 hW0.out
      obtain ⟨c0, c1, c2, c3, c4, c5, c6⟩ := (⟨kk.cell 0, kk.cell 1, kk.cell 2, kk.cell 3, kk.cell 4, kk.cell 5, kk.cell 6⟩ : _ ∧ _ ∧ _ ∧ _ ∧ _ ∧ _ ∧ _)
      simp only [List.getElem?_toArray, List.getElem?_cons_succ, List.getElem?_cons_zero] at c0 c1 c2 c3 c4 c5 c6
      clear kk
      go_wp2_with fail
      rw [← hW1]
      clear hW1
      refine hc.mono ?_
      clear hc c0 c1 c2 c3 c4 c5 c6
      rintro e w2 ⟨rfl, hb⟩
      have HW2 := Lib.hid (hW0.out.trans (hb.mono hW0.out.size))
      clear hb
      have hc := HPV.out w2 HW2.out
      have kk := hKt.out w2 HW2.out
      obtain ⟨c0, c1, c2, c3, c4, c5, c6⟩ := (⟨kk.cell 0, kk.cell 1, kk.cell 2, kk.cell 3, kk.cell 4, kk.cell 5, kk.cell 6⟩ : _ ∧ _ ∧ _ ∧ _ ∧ _ ∧ _ ∧ _)
      simp only [List.getElem?_toArray, List.getElem?_cons_succ, List.getElem?_cons_zero] at c0 c1 c2 c3 c4 c5 c6
      clear kk
      go_wp2_with fail
      refine hc.mono ?_
      clear hc c0 c1 c2 c3 c4 c5 c6
      rintro e w3 ⟨v, ni, rfl, hb, ⟨h1, rfl, rfl⟩ | ⟨h1, -⟩⟩
      rotate_left
      · exact absurd (show (4 : Int) = 0 from h1) (by decide)
      have HW3 := Lib.hid (HW2.out.trans (hb.mono HW2.out.size))
      clear hb h1
      unfold ZEROT
      have hbn := (HW3.out).alloc HW3.out.size (.cells #[.string ⟨#[]⟩, .int .i64 0, .int .i64 0, .slice none 0 0, .slice none 0 0, .slice none 0 0, .slice none 0 0] 27)
      have kbn := Blk.new w3 27 #[.string ⟨#[]⟩, .int .i64 0, .int .i64 0, .slice none 0 0, .slice none 0 0, .slice none 0 0, .slice none 0 0]
      have hsn : (w3.alloc (.cells #[.string ⟨#[]⟩, .int .i64 0, .int .i64 0, .slice none 0 0, .slice none 0 0, .slice none 0 0, .slice none 0 0] 27)).heap.size = w3.heap.size + 1 := by simp
      obtain ⟨Bz, hBz⟩ : ∃ g, g = w3.heap.size := ⟨_, rfl⟩
      obtain ⟨w4, hWn⟩ : ∃ W, W = (w3.alloc (.cells #[.string ⟨#[]⟩, .int .i64 0, .int .i64 0, .slice none 0 0, .slice none 0 0, .slice none 0 0, .slice none 0 0] 27)) := ⟨_, rfl⟩
      rw [← hWn] at hbn kbn hsn 
      have HW4 := Lib.hid hbn
      rw [← hBz] at kbn
      have hKz : Hid (∀ W, Below w4.heap.size w4 W → Blk W Bz 27 #[.string ⟨#[]⟩, .int .i64 0, .int .i64 0, .slice none 0 0, .slice none 0 0, .slice none 0 0, .slice none 0 0]) := fun W h => kbn.below h (by omega)
      have HZz := Lib.hid (show Bz = w3.heap.size ∧ w4.heap.size = w3.heap.size + 1 from ⟨hBz, hsn⟩)
      clear hbn kbn hsn 
      have hc := hCK.out w4 HW4.out
      have kk := hKt.out w4 HW4.out
      obtain ⟨c0, c1, c2, c3, c4, c5, c6⟩ := (⟨kk.cell 0, kk.cell 1, kk.cell 2, kk.cell 3, kk.cell 4, kk.cell 5, kk.cell 6⟩ : _ ∧ _ ∧ _ ∧ _ ∧ _ ∧ _ ∧ _)
      simp only [List.getElem?_toArray, List.getElem?_cons_succ, List.getElem?_cons_zero] at c0 c1 c2 c3 c4 c5 c6
      clear kk
      go_wp2_with (refine wpList_store_new w3 rfl 27 (.tmp 7) (.tmp 25) rfl 27 [.string ⟨#[]⟩, .int .i64 0, .int .i64 0, .slice none 0 0, .slice none 0 0, .slice none 0 0, .slice none 0 0] [.string ⟨#[]⟩, .int .i64 0, .int .i64 0, .slice none 0 0, .slice none 0 0, .slice none 0 0, .slice none 0 0] rfl rfl rfl (by kernel_rfl) (by simp [Value.oneCell']) ?_; rw [show ([.string ⟨#[]⟩, .int .i64 0, .int .i64 0, .slice none 0 0, .slice none 0 0, .slice none 0 0, .slice none 0 0] : List Value).toArray = #[.string ⟨#[]⟩, .int .i64 0, .int .i64 0, .slice none 0 0, .slice none 0 0, .slice none 0 0, .slice none 0 0] from rfl, ← hWn, ← hBz]; clear hWn hBz)
      refine hc.mono ?_
      clear hc c0 c1 c2 c3 c4 c5 c6
      rintro e w5 ⟨rfl, hb⟩
      have HW5 := Lib.hid (HW4.out.trans (hb.mono HW4.out.size))
      have H45 := Lib.hid hb
      clear hb
      have hc := hFI.out w5 HW5.out
      have kk := hKt.out w5 HW5.out
      obtain ⟨c0, c1, c2, c3, c4, c5, c6⟩ := (⟨kk.cell 0, kk.cell 1, kk.cell 2, kk.cell 3, kk.cell 4, kk.cell 5, kk.cell 6⟩ : _ ∧ _ ∧ _ ∧ _ ∧ _ ∧ _ ∧ _)
      simp only [List.getElem?_toArray, List.getElem?_cons_succ, List.getElem?_cons_zero] at c0 c1 c2 c3 c4 c5 c6
      clear kk
      go_wp2_with fail
      refine hc.mono ?_
      clear hc c0 c1 c2 c3 c4 c5 c6
      rintro e w6 ⟨rfl, hb⟩
      have HW6 := Lib.hid (HW5.out.trans (hb.mono HW5.out.size))
      have H46 := Lib.hid (H45.out.trans (hb.mono H45.out.size))
      clear hb
      have hz3 := (hKz.out w6 H46.out).cell 3
      simp only [List.getElem?_toArray, List.getElem?_cons_succ, List.getElem?_cons_zero] at hz3
      go_wp2_with fail
      go_ret
      exact ⟨rfl, hBW.out _ HW6.out⟩
  have hk1 : ¬ keep < 0 := by omega
  have hk2 : ¬ 16 < keep := by omega
  have hpath : (sl[k]'hkl).path = p := by
    have h := List.find?_some hfd
    exact by simpa using h
  have hxk : C.sets[k]? = some (sl[k]'hkl).con := by
    rw [hC]
    show (sl.map SetR.con)[k]? = _
    rw [List.getElem?_map, List.getElem?_eq_getElem hkl]
    rfl
  obtain ⟨s, hs⟩ : ∃ s, s = (sl[k]'hkl).con := ⟨_, rfl⟩
  have hsp : s.path = p := by rw [hs]; exact hpath
  rw [← hs] at hxk
  have hssz : s.sz := HCZ.out.eachS _ (List.mem_of_getElem? hxk)
  obtain ⟨G, hG, hold, hpr, hpr2, hchg, hall, hch⟩ := prune_law C p keep k s hE0 hfC hxk hsp (by omega) (by omega)
  obtain ⟨NMS, hNMS⟩ : ∃ l, l = G.map SnapC.nm := ⟨_, rfl⟩
  rw [← hNMS] at hold hpr hpr2 hchg hall hch
  obtain ⟨D, hD⟩ : ∃ D, D = C.putS k (s.without NMS) := ⟨_, rfl⟩
  rw [← hD] at hpr hpr2 hchg hall
  obtain ⟨gn, hgn⟩ : ∃ n, n = G.length := ⟨_, rfl⟩
  rw [← hgn] at hpr
  have hnl : NMS.length = gn := by rw [hNMS, List.length_map, hgn]
  have HGZ : Hid (gn ≤ 1000000000000) := by
    show _ ≤ _
    rw [hgn, hG]
    refine Nat.le_trans (List.length_filter_le _ _) ?_
    rw [List.length_take]
    exact Nat.le_trans (Nat.min_le_right _ _) hssz.snaps
  obtain ⟨DJ, hDJ⟩ : ∃ f : Nat → TenC, f = fun j => C.putS k (s.without (NMS.take j)) := ⟨_, rfl⟩
  have HD0 : Hid (DJ 0 = C) := by
    show _ = _
    rw [hDJ]
    simp only [List.take_zero]
    rw [without_nil, putS_same C k s hxk]
  have HDN : Hid (DJ gn = D) := by
    show _ = _
    rw [hDJ, hD]
    simp only
    rw [List.take_of_length_le (by omega)]
  have HDS : Hid (∀ j, (DJ j).sz) := fun j => by
    rw [hDJ]
    exact HCZ.out.putS (keptS_sz hssz _)
  have HDU : Hid (∀ j, (hj : j < NMS.length) → (DJ j).unsnap p (NMS[j]'hj) = (0, DJ (j + 1))) := fun j hj => by
    have hjg : j < G.length := by omega
    have h1 := (hch j (by omega)).2 hjg
    have e : NMS[j]'hj = (G[j]'hjg).nm := by simp only [hNMS, List.getElem_map]
    rw [e, hDJ]
    exact h1
  have HPV : Hid (∀ W, Below W1.heap.size W1 W → Calls Tryz.prog 17 #[.agg #[.string ⟨nm.toArray⟩, .int .i64 qu, .int .i64 nx, .slice s1 sn s3, .slice gA gN gC, .slice t1 tn t3, .slice l1 ln l3], .string ⟨p.toArray⟩, .int .i64 keep] W (PrunePost W (0, gn, D))) := hPR.out _ hpr.symm
  have hOL : Hid (∀ W, Below W1.heap.size W1 W → Calls Tryz.prog 19 #[.agg #[.string ⟨nm.toArray⟩, .int .i64 qu, .int .i64 nx, .slice s1 sn s3, .slice gA gN gC, .slice t1 tn t3, .slice l1 ln l3], .string ⟨p.toArray⟩, .int .i64 keep] W fun e w' => ∃ A c, e = .returned (.slice A gn c) ∧ w'.ownsRow W.heap.size 9 1 (.slice A gn c) gn (scells NMS) ∧ Below W.heap.size W w') := fun W h => by
    have h1 := rold_any ⟨nm, qu, nx, ⟨s1, sn, s3, sl⟩, ⟨gA, gN, gC, gL⟩, ⟨t1, tn, t3, tl⟩, ⟨l1, ln, l3, ll⟩⟩ p keep W w.heap.size (hrw.out W h).2.1 (hrw.out W h).1 hz
    rw [← hC, hold, hnl] at h1
    exact h1
  have HNL := Lib.hid hnl
  have HDZ := Lib.hid (show D.prune p keep = (0, 0, D) from hpr2)
  have HGN := Lib.hid hgn
  have HCHG := Lib.hid hchg
  have HALL := Lib.hid hall
  have HDsz : Hid (D.sz) := by show TenC.sz _; rw [← HDN.out]; exact HDS.out gn
  have HFR : Hid (C.freesC p keep = (G.map fun x => 1 + x.body.length).sum) := by
    show _ = _
    unfold TenC.freesC
    rw [hfC, if_neg (by omega), Int.toNat_natCast, hxk]
    show C.sumS s keep = _
    unfold TenC.sumS TenC.sumK
    rw [hsp, hG, Nat.min_eq_right (by unfold lateN; omega)]
  have hED : D.E = 0 := by
    have h1 := (hch gn (by omega)).1
    have h2 : C.putS k (s.without (NMS.take gn)) = D := by
      have h3 := HDN.out
      rw [hDJ] at h3
      exact h3
    rw [h2] at h1
    exact h1
  have HED := Lib.hid hED
  clear hb hsz kt hr hz hp hmx hC hcz hfs hcs hE0 hf hfC hPR hkp hkl hfd hpath hxk hs hsp hssz hG hold hpr hpr2 hchg hall hch hNMS hD hgn hnl hDJ hED
  go_enter Tryz.func4, Tryz.ntmps4
  have hc := hAL.out  W1 hW0.out
  have kk := hKt.out W1 hW0.out
  obtain ⟨c0, c1, c2, c3, c4, c5, c6⟩ := (⟨kk.cell 0, kk.cell 1, kk.cell 2, kk.cell 3, kk.cell 4, kk.cell 5, kk.cell 6⟩ : _ ∧ _ ∧ _ ∧ _ ∧ _ ∧ _ ∧ _)
  simp only [List.getElem?_toArray, List.getElem?_cons_succ, List.getElem?_cons_zero] at c0 c1 c2 c3 c4 c5 c6
  clear kk
  go_wp2_with fail
  rw [← hW1]
  clear hW1
  refine hc.mono ?_
  clear hc c0 c1 c2 c3 c4 c5 c6
  rintro e w2 ⟨rfl, hb⟩
  have HW2 := Lib.hid (hW0.out.trans (hb.mono hW0.out.size))
  clear hb
  have hc := HPV.out w2 HW2.out
  have kk := hKt.out w2 HW2.out
  obtain ⟨c0, c1, c2, c3, c4, c5, c6⟩ := (⟨kk.cell 0, kk.cell 1, kk.cell 2, kk.cell 3, kk.cell 4, kk.cell 5, kk.cell 6⟩ : _ ∧ _ ∧ _ ∧ _ ∧ _ ∧ _ ∧ _)
  simp only [List.getElem?_toArray, List.getElem?_cons_succ, List.getElem?_cons_zero] at c0 c1 c2 c3 c4 c5 c6
  clear kk
  go_wp2_with fail
  refine hc.mono ?_
  clear hc HPV c0 c1 c2 c3 c4 c5 c6
  rintro e w3 ⟨v, ni, rfl, hb, ⟨h1, -⟩ | ⟨-, rfl, u, rfl, hou, hu⟩⟩
  · exact absurd (show (0 : Int) = 0 from rfl) h1
  have HW3 := Lib.hid (HW2.out.trans (hb.mono HW2.out.size))
  have HOU := Lib.hid hou
  have HU : Hid (u.con = D) := hu
  clear hb hou hu
  obtain ⟨um, uq, ux, ⟨ua, ub, uc, uL⟩, ⟨va, vb, vc, vL⟩, ⟨xa, xb, xc, xL⟩, ⟨ya, yb, yc, yL⟩⟩ := u
  simp only [TenR.val, TenR.cells, FS.val, strV]
  have hbn := (HW3.out).alloc HW3.out.size (.cells #[.string ⟨um.toArray⟩, .int .i64 uq, .int .i64 ux, .slice ua ub uc, .slice va vb vc, .slice xa xb xc, .slice ya yb yc] 27)
  have kbn := Blk.new w3 27 #[.string ⟨um.toArray⟩, .int .i64 uq, .int .i64 ux, .slice ua ub uc, .slice va vb vc, .slice xa xb xc, .slice ya yb yc]
  have hsn : (w3.alloc (.cells #[.string ⟨um.toArray⟩, .int .i64 uq, .int .i64 ux, .slice ua ub uc, .slice va vb vc, .slice xa xb xc, .slice ya yb yc] 27)).heap.size = w3.heap.size + 1 := by simp
  have HOUn := HOU.out.below ((Below.refl w3.heap.size w3).alloc (Nat.le_refl _) (.cells #[.string ⟨um.toArray⟩, .int .i64 uq, .int .i64 ux, .slice ua ub uc, .slice va vb vc, .slice xa xb xc, .slice ya yb yc] 27))
  obtain ⟨Bu, hBu⟩ : ∃ g, g = w3.heap.size := ⟨_, rfl⟩
  obtain ⟨w4, hWn⟩ : ∃ W, W = (w3.alloc (.cells #[.string ⟨um.toArray⟩, .int .i64 uq, .int .i64 ux, .slice ua ub uc, .slice va vb vc, .slice xa xb xc, .slice ya yb yc] 27)) := ⟨_, rfl⟩
  rw [← hWn] at hbn kbn hsn HOUn
  have HW4 := Lib.hid hbn
  rw [← hBu] at kbn
  have hKu : Hid (∀ W, Below w4.heap.size w4 W → Blk W Bu 27 #[.string ⟨um.toArray⟩, .int .i64 uq, .int .i64 ux, .slice ua ub uc, .slice va vb vc, .slice xa xb xc, .slice ya yb yc]) := fun W h => kbn.below h (by omega)
  have HZu := Lib.hid (show Bu = w3.heap.size ∧ w4.heap.size = w3.heap.size + 1 from ⟨hBu, hsn⟩)
  have HOU := Lib.hid HOUn
  clear hbn kbn hsn HOUn
  have hc := hCK.out w4 HW4.out
  have kk := hKt.out w4 HW4.out
  obtain ⟨c0, c1, c2, c3, c4, c5, c6⟩ := (⟨kk.cell 0, kk.cell 1, kk.cell 2, kk.cell 3, kk.cell 4, kk.cell 5, kk.cell 6⟩ : _ ∧ _ ∧ _ ∧ _ ∧ _ ∧ _ ∧ _)
  simp only [List.getElem?_toArray, List.getElem?_cons_succ, List.getElem?_cons_zero] at c0 c1 c2 c3 c4 c5 c6
  clear kk
  go_wp2_with (refine wpList_store_new w3 rfl 27 (.tmp 7) (.tmp 25) rfl 27 [.string ⟨#[]⟩, .int .i64 0, .int .i64 0, .slice none 0 0, .slice none 0 0, .slice none 0 0, .slice none 0 0] [.string ⟨um.toArray⟩, .int .i64 uq, .int .i64 ux, .slice ua ub uc, .slice va vb vc, .slice xa xb xc, .slice ya yb yc] rfl rfl rfl (by kernel_rfl) (by simp [Value.oneCell']) ?_; rw [show ([.string ⟨um.toArray⟩, .int .i64 uq, .int .i64 ux, .slice ua ub uc, .slice va vb vc, .slice xa xb xc, .slice ya yb yc] : List Value).toArray = #[.string ⟨um.toArray⟩, .int .i64 uq, .int .i64 ux, .slice ua ub uc, .slice va vb vc, .slice xa xb xc, .slice ya yb yc] from rfl, ← hWn, ← hBu]; clear hWn hBu)
  refine hc.mono ?_
  clear hc hCK c0 c1 c2 c3 c4 c5 c6
  rintro e w5 ⟨rfl, hb⟩
  have HW5 := Lib.hid (HW4.out.trans (hb.mono HW4.out.size))
  have H45 := Lib.hid hb
  clear hb
  have hc := hFI.out w5 HW5.out
  have kk := hKt.out w5 HW5.out
  obtain ⟨c0, c1, c2, c3, c4, c5, c6⟩ := (⟨kk.cell 0, kk.cell 1, kk.cell 2, kk.cell 3, kk.cell 4, kk.cell 5, kk.cell 6⟩ : _ ∧ _ ∧ _ ∧ _ ∧ _ ∧ _ ∧ _)
  simp only [List.getElem?_toArray, List.getElem?_cons_succ, List.getElem?_cons_zero] at c0 c1 c2 c3 c4 c5 c6
  clear kk
  go_wp2_with fail
  refine hc.mono ?_
  clear hc hFI c0 c1 c2 c3 c4 c5 c6
  rintro e w6 ⟨rfl, hb⟩
  have HW6 := Lib.hid (HW5.out.trans (hb.mono HW5.out.size))
  have H46 := Lib.hid (H45.out.trans (hb.mono H45.out.size))
  clear hb
  have hc := hOL.out w6 HW6.out
  have kk := hKt.out w6 HW6.out
  obtain ⟨c0, c1, c2, c3, c4, c5, c6⟩ := (⟨kk.cell 0, kk.cell 1, kk.cell 2, kk.cell 3, kk.cell 4, kk.cell 5, kk.cell 6⟩ : _ ∧ _ ∧ _ ∧ _ ∧ _ ∧ _ ∧ _)
  simp only [List.getElem?_toArray, List.getElem?_cons_succ, List.getElem?_cons_zero] at c0 c1 c2 c3 c4 c5 c6
  clear kk
  go_wp2_with fail
  refine hc.mono ?_
  clear hc hOL c0 c1 c2 c3 c4 c5 c6
  rintro e w7 ⟨lA, lc, rfl, hol, hb⟩
  have HW7 := Lib.hid (HW6.out.trans (hb.mono HW6.out.size))
  have H47 := Lib.hid (H46.out.trans (hb.mono H46.out.size))
  have HOL := Lib.hid hol
  clear hb hol
  have hbn := (HW7.out).alloc HW7.out.size (.cells #[.string ⟨nm.toArray⟩, .int .i64 qu, .int .i64 nx, .slice s1 sn s3, .slice gA gN gC, .slice t1 tn t3, .slice l1 ln l3] 27)
  have kbn := Blk.new w7 27 #[.string ⟨nm.toArray⟩, .int .i64 qu, .int .i64 nx, .slice s1 sn s3, .slice gA gN gC, .slice t1 tn t3, .slice l1 ln l3]
  have hsn : (w7.alloc (.cells #[.string ⟨nm.toArray⟩, .int .i64 qu, .int .i64 nx, .slice s1 sn s3, .slice gA gN gC, .slice t1 tn t3, .slice l1 ln l3] 27)).heap.size = w7.heap.size + 1 := by simp
  obtain ⟨Bv, hBv⟩ : ∃ g, g = w7.heap.size := ⟨_, rfl⟩
  obtain ⟨w8, hWn⟩ : ∃ W, W = (w7.alloc (.cells #[.string ⟨nm.toArray⟩, .int .i64 qu, .int .i64 nx, .slice s1 sn s3, .slice gA gN gC, .slice t1 tn t3, .slice l1 ln l3] 27)) := ⟨_, rfl⟩
  rw [← hWn] at hbn kbn hsn 
  have HW8 := Lib.hid hbn
  rw [← hBv] at kbn
  have hKv : Hid (∀ W, Below w8.heap.size w8 W → Blk W Bv 27 #[.string ⟨nm.toArray⟩, .int .i64 qu, .int .i64 nx, .slice s1 sn s3, .slice gA gN gC, .slice t1 tn t3, .slice l1 ln l3]) := fun W h => kbn.below h (by omega)
  have HZv := Lib.hid (show Bv = w7.heap.size ∧ w8.heap.size = w7.heap.size + 1 from ⟨hBv, hsn⟩)
  have H78 := Lib.hid ((Below.refl w7.heap.size w7).alloc (Nat.le_refl _) (.cells #[.string ⟨nm.toArray⟩, .int .i64 qu, .int .i64 nx, .slice s1 sn s3, .slice gA gN gC, .slice t1 tn t3, .slice l1 ln l3] 27))
  rw [← hWn] at H78
  clear hbn kbn hsn 
  have kk := hKt.out w7 HW7.out
  obtain ⟨c0, c1, c2, c3, c4, c5, c6⟩ := (⟨kk.cell 0, kk.cell 1, kk.cell 2, kk.cell 3, kk.cell 4, kk.cell 5, kk.cell 6⟩ : _ ∧ _ ∧ _ ∧ _ ∧ _ ∧ _ ∧ _)
  simp only [List.getElem?_toArray, List.getElem?_cons_succ, List.getElem?_cons_zero] at c0 c1 c2 c3 c4 c5 c6
  clear kk
  go_upto_region 12 with (refine wpList_store_new w7 rfl 27 (.tmp 11) (.tmp 72) rfl 27 [.string ⟨#[]⟩, .int .i64 0, .int .i64 0, .slice none 0 0, .slice none 0 0, .slice none 0 0, .slice none 0 0] [.string ⟨nm.toArray⟩, .int .i64 qu, .int .i64 nx, .slice s1 sn s3, .slice gA gN gC, .slice t1 tn t3, .slice l1 ln l3] rfl rfl rfl (by kernel_rfl) (by simp [Value.oneCell']) ?_; rw [show ([.string ⟨nm.toArray⟩, .int .i64 qu, .int .i64 nx, .slice s1 sn s3, .slice gA gN gC, .slice t1 tn t3, .slice l1 ln l3] : List Value).toArray = #[.string ⟨nm.toArray⟩, .int .i64 qu, .int .i64 nx, .slice s1 sn s3, .slice gA gN gC, .slice t1 tn t3, .slice l1 ln l3] from rfl, ← hWn, ← hBv]; clear hWn hBv)
  clear c0 c1 c2 c3 c4 c5 c6
  go_wp2_with fail
  go_loopw [12] (fun i wr => ∃ (j : Nat) (x : TenR), j ≤ gn ∧ i = .int .i64 (j : Int) ∧ Hid (Below w7.heap.size w7 wr) ∧ Hid (Blk wr Bv 27 x.cells.toArray) ∧ Hid (TenR.rd wr wr.heap.size x) ∧ Hid (x.con = DJ j)) (fun i _ => gn - (intOf i).toNat)
  case atStart =>
    refine ⟨0, ⟨nm, qu, nx, ⟨s1, sn, s3, sl⟩, ⟨gA, gN, gC, gL⟩, ⟨t1, tn, t3, tl⟩, ⟨l1, ln, l3, ll⟩⟩, Nat.zero_le _, rfl, H78, hKv.out w8 (Below.refl _ _), ?_, ?_⟩
    · exact (hrw.out w8 HW8.out).1.more (hrw.out w8 HW8.out).2.1
    · show _ = _
      rw [HD0.out, hHC.out]
  case round =>
    obtain ⟨j, x, hj, rfl, HB, HK, HR, HX⟩ := hrel
    have HWr := Lib.hid (HW7.out.trans (HB.out.mono HW7.out.size))
    by_cases hlt : j < gn
    · have hji : (j : Int) < (gn : Int) := by omega
      have hj0 : (0 : Int) ≤ (j : Int) := by omega
      have hjl : j < NMS.length := by have := HNL.out; omega
      have hdu := HDU.out j hjl
      obtain ⟨ad, hsa, -, e0⟩ := strs_at (Reads.of_own (own_below HOL.out HB.out)) HNL.out.symm hlt
      subst hsa
      obtain ⟨nj, hnj⟩ : ∃ q, q = NMS[j]'hjl := ⟨_, rfl⟩
      rw [← hnj] at hdu e0
      simp only [strV] at e0
      clear hnj
      have hxz := TenR.sz_of HR.out (by rw [HX.out]; exact HDS.out j)
      obtain ⟨im, iq, ix, ⟨ia, ib, ic, iL⟩, ⟨ja, jb, jc, jL⟩, ⟨ka, kb, kc, kL⟩, ⟨ma, mb, mc, mL⟩⟩ := x
      have hDE : Hid (∀ W, Below wr.heap.size wr W → Calls Tryz.prog 20 #[.agg #[.string ⟨im.toArray⟩, .int .i64 iq, .int .i64 ix, .slice ia ib ic, .slice ja jb jc, .slice ka kb kc, .slice ma mb mc], .string ⟨p.toArray⟩, .string ⟨nj.toArray⟩] W fun e w' => ∃ y : TenR, e = .returned (.tuple #[y.val, .int .i64 0]) ∧ TenO w' W.heap.size y ∧ y.con = DJ (j + 1) ∧ Below W.heap.size W w') := fun W h => by
        have h1 := unsnap_any ⟨im, iq, ix, ⟨ia, ib, ic, iL⟩, ⟨ja, jb, jc, jL⟩, ⟨ka, kb, kc, kL⟩, ⟨ma, mb, mc, mL⟩⟩ p nj W wr.heap.size h.size (TenR.rd.below HR.out h) hxz HP.out (hrw.out W (HWr.out.trans (h.mono HWr.out.size))).2.2
        rw [HX.out, hdu] at h1
        refine h1.mono ?_
        rintro e w' ⟨v, rfl, hb, ⟨h2, -⟩ | ⟨-, y, rfl, ho, hy⟩⟩
        · exact absurd (show (0 : Int) = 0 from rfl) h2
        · exact ⟨y, rfl, ho, hy, hb⟩
      have HK7 : Hid (Blk wr Bv 27 #[.string ⟨im.toArray⟩, .int .i64 iq, .int .i64 ix, .slice ia ib ic, .slice ja jb jc, .slice ka kb kc, .slice ma mb mc]) := HK.out
      have kk := HK7.out
      obtain ⟨c0, c1, c2, c3, c4, c5, c6⟩ := (⟨kk.cell 0, kk.cell 1, kk.cell 2, kk.cell 3, kk.cell 4, kk.cell 5, kk.cell 6⟩ : _ ∧ _ ∧ _ ∧ _ ∧ _ ∧ _ ∧ _)
      simp only [List.getElem?_toArray, List.getElem?_cons_succ, List.getElem?_cons_zero] at c0 c1 c2 c3 c4 c5 c6
      clear kk hdu hxz HK hjl
      obtain ⟨XV, hXV⟩ : ∃ v, v = Value.agg #[.string ⟨im.toArray⟩, .int .i64 iq, .int .i64 ix, .slice ia ib ic, .slice ja jb jc, .slice ka kb kc, .slice ma mb mc] := ⟨_, rfl⟩
      have HXV := Lib.hid hXV
      have hS : Hid (∀ W, Below wr.heap.size wr W → W.cell? ⟨Bv, 0, none⟩ = some (.string ⟨im.toArray⟩) ∧ W.cell? ⟨Bv, 1, none⟩ = some (.int .i64 iq) ∧ W.cell? ⟨Bv, 2, none⟩ = some (.int .i64 ix) ∧ W.cell? ⟨Bv, 3, none⟩ = some (.slice ia ib ic) ∧ W.cell? ⟨Bv, 4, none⟩ = some (.slice ja jb jc) ∧ W.cell? ⟨Bv, 5, none⟩ = some (.slice ka kb kc) ∧ W.cell? ⟨Bv, 6, none⟩ = some (.slice ma mb mc) ∧ W.cell? (ad.add j) = some (.string ⟨nj.toArray⟩)) := fun W h => by
        obtain ⟨a0, a1, a2, a3, a4, a5, a6⟩ := blk7 (HK7.out.below h HK7.out.lt)
        exact ⟨a0, a1, a2, a3, a4, a5, a6, (h.cell (block_lt_of_cell e0)).trans e0⟩
      clear hXV
      go_upto_region 15 with (fail)
      clear c0 c1 c2 c3 c4 c5 c6
      refine wp_region_storeV 11 10 [9, 12] (by decide) (by decide) (by kernel_rfl) (by kernel_rfl) [(fun v _ => v = XV),
          (fun v _ => v = .string ⟨p.toArray⟩),
          (fun v _ => v = .slice (some ad) gn lc),
          (fun v _ => v = .int .i64 (j : Int)),
          (fun v _ => v = .pointer (some (ad.add j))),
          (fun v _ => v = .string ⟨nj.toArray⟩),
          (fun v W => ∃ y : TenR, v = .tuple #[y.val, .int .i64 0] ∧ TenO W wr.heap.size y ∧ y.con = DJ (j + 1)),
          (fun v W => ∃ y : TenR, v = .tuple #[y.val, .int .i64 0] ∧ TenO W wr.heap.size y ∧ y.con = DJ (j + 1)),
          (fun v W => ∃ y : TenR, v = y.val ∧ TenO W wr.heap.size y ∧ y.con = DJ (j + 1)),
          (fun v _ => v = .int .i64 0),
          (fun v W => ∃ g, v = .pointer (some ⟨g, 0, none⟩) ∧ wr.heap.size ≤ g ∧ Blk W g 27 #[.string ⟨#[]⟩, .int .i64 0, .int .i64 0, .slice none 0 0, .slice none 0 0, .slice none 0 0, .slice none 0 0]),
          (fun _ _ => True),
          (fun v _ => v = .int .i64 0)] ?_ (early1 (by kernel_rfl)) ?_ ?_ (fun v W W' => ∃ (g : Nat) (y : TenR), v = some (.pointer (some ⟨g, 0, none⟩)) ∧ W' = W.setCells g 0 y.cells.toArray.toList ∧ wr.heap.size ≤ g ∧ Blk W g 27 #[.string ⟨#[]⟩, .int .i64 0, .int .i64 0, .slice none 0 0, .slice none 0 0, .slice none 0 0, .slice none 0 0] ∧ TenO W wr.heap.size y ∧ y.con = DJ (j + 1)) ?_ (by decide) (fun _ _ => trivial) ?_
      · repeat' (first | exact stays_nil | refine stays_cons ?_ ?_ | exact Stays.pure | exact (fun v W W' h hb => let ⟨y, h1, h2, h3⟩ := h; ⟨y, h1, h2.below hb, h3⟩) | exact (fun v W W' h hb => let ⟨g, h1, h2, h3⟩ := h; ⟨g, h1, h2, h3.below hb h3.lt⟩))
      · intro i oo ho hiS hil mf W hb0 hmi hcl hdeps AA KK hA hK
        rcases i with _ | _ | _ | _ | _ | _ | _ | _ | _ | _ | _ | _ | _ | i
        · injection ho with ho; subst ho
          have ef11 : AA.tmps[11]?.getD undef = .pointer (some ⟨Bv, 0, none⟩) := tF hA
          clear hA hdeps hcl hmi hiS hil
          obtain ⟨q0, q1, q2, q3, q4, q5, q6, g0⟩ := hS.out W hb0
          have hK0 : KK (AA.put (some 80) _) _ := hK (XV) _ (Below.refl _ _) (Eq.refl _)
          clear hK
          rw [HXV.out] at hK0
          go_simp
          exact hK0
        · injection ho with ho; subst ho
          have ef1 : AA.tmps[1]?.getD undef = .string ⟨p.toArray⟩ := tF hA
          exact zP
        · injection ho with ho; subst ho
          have ef10 : AA.tmps[10]?.getD undef = .slice (some ad) gn lc := tF hA
          exact zP
        · injection ho with ho; subst ho
          have ef12 : AA.tmps[12]?.getD undef = .int .i64 (j : Int) := tF hA
          exact zP
        · injection ho with ho; subst ho
          have e2 := eD hdeps hA 2 82
          have e3 := eD hdeps hA 3 83
          exact zP
        · injection ho with ho; subst ho
          have e4 := eD hdeps hA 4 84
          obtain ⟨q0, q1, q2, q3, q4, q5, q6, g0⟩ := hS.out W hb0
          exact zP
        · injection ho with ho; subst ho
          have e0 := eD hdeps hA 0 80
          have e1 := eD hdeps hA 1 81
          have e5 := eD hdeps hA 5 85
          clear hA hdeps hcl hmi hiS hil
          have hKK := hK
          clear hK
          go_simp
          rw [HXV.out]
          refine (hDE.out W hb0).mono ?_
          rintro e w5 ⟨y, rfl, ho, hy, hbn⟩
          exact hKK _ _ hbn ⟨y, rfl, ho.mono hb0.size, hy⟩
        · injection ho with ho; subst ho
          obtain ⟨x6, hx6, hg6⟩ := hdeps ⟨6, .data⟩ (by simp) rfl
          have hg6 : ∃ y : TenR, x6 = .tuple #[y.val, .int .i64 0] ∧ TenO W wr.heap.size y ∧ y.con = DJ (j + 1) := hg6
          have hk6 := hg6
          obtain ⟨y6, rfl, ho6, hy6⟩ := hg6
          have e6 : AA.tmps[86]?.getD undef = .tuple #[TenR.val y6, .int .i64 0] := tO hA hx6
          clear hA hdeps hcl hmi hiS hil hx6
          have hK0 : KK (AA.put (some 79) _) _ := hK (.tuple #[TenR.val y6, .int .i64 0]) W (Below.refl _ _) ⟨y6, rfl, ho6, hy6⟩
          clear hK
          go_simp
          exact hK0
        · injection ho with ho; subst ho
          obtain ⟨x7, hx7, hg7⟩ := hdeps ⟨7, .data⟩ (by simp) rfl
          have hg7 : ∃ y : TenR, x7 = .tuple #[y.val, .int .i64 0] ∧ TenO W wr.heap.size y ∧ y.con = DJ (j + 1) := hg7
          have hk7 := hg7
          obtain ⟨y7, rfl, ho7, hy7⟩ := hg7
          have e7 : AA.tmps[79]?.getD undef = .tuple #[TenR.val y7, .int .i64 0] := tO hA hx7
          clear hA hdeps hcl hmi hiS hil hx7
          have hK0 : KK (AA.put (some 87) _) _ := hK (TenR.val y7) W (Below.refl _ _) ⟨y7, rfl, ho7, hy7⟩
          clear hK
          go_simp
          exact hK0
        · exact absurd (by decide) hil
        · injection ho with ho; subst ho
          clear hA hdeps hcl hmi hiS hil
          have hK0 : KK (AA.put (some 13) _) _ := hK (.pointer (some ⟨W.heap.size, 0, none⟩)) (W.alloc (.cells #[.string ⟨#[]⟩, .int .i64 0, .int .i64 0, .slice none 0 0, .slice none 0 0, .slice none 0 0, .slice none 0 0] 27)) ((Below.refl _ _).alloc (Nat.le_refl _) _) ⟨W.heap.size, rfl, hb0.size, Blk.new W 27 #[.string ⟨#[]⟩, .int .i64 0, .int .i64 0, .slice none 0 0, .slice none 0 0, .slice none 0 0, .slice none 0 0]⟩
          clear hK
          go_simp
          exact hK0
        · exact absurd rfl hiS
        · exact absurd (by decide) hil
        · simp at ho
      · intro i oo ho hil mf W W9 hmi hdeps AA KK hA hK
        rcases i with _ | _ | _ | _ | _ | _ | _ | _ | _ | _ | _ | _ | _ | i
        · exact absurd hil (by decide)
        · exact absurd hil (by decide)
        · exact absurd hil (by decide)
        · exact absurd hil (by decide)
        · exact absurd hil (by decide)
        · exact absurd hil (by decide)
        · exact absurd hil (by decide)
        · exact absurd hil (by decide)
        · exact absurd hil (by decide)
        · injection ho with ho; subst ho
          obtain ⟨x7, hx7, hg7⟩ := hdeps ⟨7, .data⟩ (by simp) rfl (by decide)
          have hg7 : ∃ y : TenR, x7 = .tuple #[y.val, .int .i64 0] ∧ TenO W9 wr.heap.size y ∧ y.con = DJ (j + 1) := hg7
          obtain ⟨y7, rfl, ho7, hy7⟩ := hg7
          have e7 : AA.tmps[79]?.getD undef = .tuple #[TenR.val y7, .int .i64 0] := tO hA hx7
          clear hA hdeps hmi
          have hK0 : KK (AA.put (some 88) _) _ := hK (.int .i64 0) (fun _ => Eq.refl _)
          clear hK
          go_simp
          exact hK0
        · exact absurd hil (by decide)
        · exact absurd hil (by decide)
        · injection ho with ho; subst ho
          have e9 := eL hdeps hA 9 88
          clear hA hdeps hmi
          have hK0 : KK (AA.put (some 14) _) _ := hK (.int .i64 0) (fun _ => Eq.refl _)
          clear hK
          go_simp
          exact hK0
        · exact absurd hil (by simp)
      · intro oo ho mf W hb0 hmi hdeps AA KK hA hK
        injection ho with ho; subst ho
        obtain ⟨x8, hx8, hg8⟩ := hdeps ⟨8, .data⟩ (by simp) rfl
        have hg8 : ∃ y : TenR, x8 = y.val ∧ TenO W wr.heap.size y ∧ y.con = DJ (j + 1) := hg8
        obtain ⟨y8, rfl, ho8, hy8⟩ := hg8
        have e8 : AA.tmps[87]?.getD undef = TenR.val y8 := tO hA hx8
        obtain ⟨x10, hx10, hg10⟩ := hdeps ⟨10, .data⟩ (by simp) rfl
        have hg10 : ∃ g, x10 = .pointer (some ⟨g, 0, none⟩) ∧ wr.heap.size ≤ g ∧ Blk W g 27 #[.string ⟨#[]⟩, .int .i64 0, .int .i64 0, .slice none 0 0, .slice none 0 0, .slice none 0 0, .slice none 0 0] := hg10
        obtain ⟨bx10, rfl, bl10, bk10⟩ := hg10
        have e10 : AA.tmps[13]?.getD undef = .pointer (some ⟨bx10, 0, none⟩) := tO hA hx10
        clear hA hdeps hmi
        have hth := bk10.there 7 (by decide)
        rw [if_pos (show Region.wanted _ _ = true from rfl)]
        refine wp_store_mid 27 (.tmp 13) (.tmp 87) rfl bx10 0 y8.cells.toArray (by simpa [Act.eval] using e10) (by simpa [Act.eval, TenR.val] using e8) hth (by kernel_rfl) (by simp [TenR.cells, strV, FS.val, Value.oneCell']) ?_
        exact hK _ ⟨bx10, y8, hx10, rfl, bl10, bk10, ho8, hy8⟩
      · intro mf W9 W hb9 hR hall hSm
        have zm0 := dV (hall 0 (by simp) (by decide))
        have zm1 := dV (hall 1 (by simp) (by decide))
        have zm2 := dV (hall 2 (by simp) (by decide))
        have zm3 := dV (hall 3 (by simp) (by decide))
        have zm4 := dV (hall 4 (by simp) (by decide))
        have zm5 := dV (hall 5 (by simp) (by decide))
        obtain ⟨x6, zm6, hg6⟩ := hall 6 (by simp) (by decide)
        have hg6 : ∃ y : TenR, x6 = .tuple #[y.val, .int .i64 0] ∧ TenO W9 wr.heap.size y ∧ y.con = DJ (j + 1) := hg6
        obtain ⟨x7, zm7, hg7⟩ := hall 7 (by simp) (by decide)
        have hg7 : ∃ y : TenR, x7 = .tuple #[y.val, .int .i64 0] ∧ TenO W9 wr.heap.size y ∧ y.con = DJ (j + 1) := hg7
        obtain ⟨x8, zm8, hg8⟩ := hall 8 (by simp) (by decide)
        have hg8 : ∃ y : TenR, x8 = y.val ∧ TenO W9 wr.heap.size y ∧ y.con = DJ (j + 1) := hg8
        have zm9 := dV (hall 9 (by simp) (by decide))
        obtain ⟨x10, zm10, hg10⟩ := hall 10 (by simp) (by decide)
        have hg10 : ∃ g, x10 = .pointer (some ⟨g, 0, none⟩) ∧ wr.heap.size ≤ g ∧ Blk W9 g 27 #[.string ⟨#[]⟩, .int .i64 0, .int .i64 0, .slice none 0 0, .slice none 0 0, .slice none 0 0, .slice none 0 0] := hg10
        have zm12 := dV (hall 12 (by simp) (by decide))
        rw [zm10] at hR
        rw [frameM_all (by kernel_rfl) [XV, .string ⟨p.toArray⟩, .slice (some ad) gn lc, .int .i64 (j : Int), .pointer (some (ad.add j)), .string ⟨nj.toArray⟩, x6, x7, x8, .int .i64 0, x10, undef, .int .i64 0] rfl (fun i hi => by rcases i with _ | _ | _ | _ | _ | _ | _ | _ | _ | _ | _ | _ | _ | i <;> first | assumption | (simp at hi; omega))]
        clear hall hSm zm0 zm1 zm2 zm3 zm4 zm5 zm6 zm7 zm8 zm9 zm10 zm12
        simp only [putAll, Act.put, List.setIfInBounds_toArray, List.set_cons_succ, List.set_cons_zero]
        obtain ⟨g, y, hxg, hW, hgl, hgk, hoy, hyc⟩ := hR
        injection hxg with hxg
        subst hxg
        clear hg6 hg7 hg8 hg10
        obtain ⟨nm3, nq3, nx3, ⟨na3, nb3, nc3, nL3⟩, ⟨oa3, ob3, oc3, oL3⟩, ⟨pa3, pb3, pc3, pL3⟩, ⟨qa3, qb3, qc3, qL3⟩⟩ := y
        replace hW : W = W9.setCells g 0 (#[.string ⟨nm3.toArray⟩, .int .i64 nq3, .int .i64 nx3, .slice na3 nb3 nc3, .slice oa3 ob3 oc3, .slice pa3 pb3 pc3, .slice qa3 qb3 qc3] : Array Value).toList := hW
        obtain ⟨WS, hWS, -, HKg, HBS, hgwS⟩ := box7 (g := g) [.string ⟨nm3.toArray⟩, .int .i64 nq3, .int .i64 nx3, .slice na3 nb3 nc3, .slice oa3 ob3 oc3, .slice pa3 pb3 pc3, .slice qa3 qb3 qc3] hgk hb9 hgl
        rw [← hWS] at hW
        subst hW
        clear hWS
        have HOS := Lib.hid (TenO.keptT hoy hgwS hgk offT_ten)
        have HYC := Lib.hid hyc
        have HKV := Lib.hid (HK7.out.below HBS.out HK7.out.lt)
        have H7S := Lib.hid (HB.out.trans (HBS.out.mono HB.out.size))
        have HBv := Lib.hid (show w7.heap.size ≤ Bv by have := HZv.out; omega)
        obtain ⟨WT, hWT, hth, HKT, HBT, hgwT⟩ := box7 (g := Bv) [.string ⟨nm3.toArray⟩, .int .i64 nq3, .int .i64 nx3, .slice na3 nb3 nc3, .slice oa3 ob3 oc3, .slice pa3 pb3 pc3, .slice qa3 qb3 qc3] HKV.out H7S.out HBv.out
        have HOT := Lib.hid (TenO.keptT HOS.out hgwT HKV.out offT_ten)
        have kk := HKg.out
        obtain ⟨c0, c1, c2, c3, c4, c5, c6⟩ := (⟨kk.cell 0, kk.cell 1, kk.cell 2, kk.cell 3, kk.cell 4, kk.cell 5, kk.cell 6⟩ : _ ∧ _ ∧ _ ∧ _ ∧ _ ∧ _ ∧ _)
        simp only [List.getElem?_toArray, List.getElem?_cons_succ, List.getElem?_cons_zero] at c0 c1 c2 c3 c4 c5 c6
        clear kk hgk hoy hyc hgwS hgwT hb9 hgl
        have hwj : IntKind.i64.wrap ((j : Int) + 1) = (j : Int) + 1 := IntWalk.i64_in _ (by have := HGZ.out; omega)
        go_wp2_with (refine wpList_store_mid rfl 27 (.tmp 11) (.tmp 91) rfl Bv 0 #[.string ⟨nm3.toArray⟩, .int .i64 nq3, .int .i64 nx3, .slice na3 nb3 nc3, .slice oa3 ob3 oc3, .slice pa3 pb3 pc3, .slice qa3 qb3 qc3] rfl rfl hth.out (by kernel_rfl) (by simp [Value.oneCell']) ?_; rw [← hWT]; clear hWT hth)
        have hgz := HGZ.out
        go_roundw
        case rel => exact ⟨j + 1, ⟨nm3, nq3, nx3, ⟨na3, nb3, nc3, nL3⟩, ⟨oa3, ob3, oc3, oL3⟩, ⟨pa3, pb3, pc3, pL3⟩, ⟨qa3, qb3, qc3, qL3⟩⟩, by omega, by go_num, HBT, HKT, HOT.out.rd, HYC⟩
        case measure => simp [intOf]; omega
    · obtain rfl : j = gn := by omega
      have hxD : Hid (x.con = D) := by show _ = _; rw [HX.out]; exact HDN.out
      clear HX HD0 HDU HDS
      have hpu : Hid (∀ W, Below w4.heap.size w4 W → HasMax W → Calls Tryz.prog 17 #[.agg #[.string ⟨um.toArray⟩, .int .i64 uq, .int .i64 ux, .slice ua ub uc, .slice va vb vc, .slice xa xb xc, .slice ya yb yc], .string ⟨p.toArray⟩, .int .i64 keep] W (PrunePost W (0, 0, D))) := fun W h hm => by
        have h1 := (HOU.out.below h).rd
        have h2 := prune_any ⟨um, uq, ux, ⟨ua, ub, uc, uL⟩, ⟨va, vb, vc, vL⟩, ⟨xa, xb, xc, xL⟩, ⟨ya, yb, yc, yL⟩⟩ p keep W W.heap.size (Nat.le_refl _) h1 (TenR.sz_of h1 (by rw [HU.out]; exact HDsz.out)) hm
        rw [HU.out, HDZ.out] at h2
        exact h2
      have H4r := Lib.hid (H47.out.trans (HB.out.mono H47.out.size))
      have hc := hpu.out wr H4r.out (hrw.out wr HWr.out).2.2
      have kk := hKu.out wr H4r.out
      obtain ⟨c0, c1, c2, c3, c4, c5, c6⟩ := (⟨kk.cell 0, kk.cell 1, kk.cell 2, kk.cell 3, kk.cell 4, kk.cell 5, kk.cell 6⟩ : _ ∧ _ ∧ _ ∧ _ ∧ _ ∧ _ ∧ _)
      simp only [List.getElem?_toArray, List.getElem?_cons_succ, List.getElem?_cons_zero] at c0 c1 c2 c3 c4 c5 c6
      clear kk hpu
      go_wp2_with fail
      refine hc.mono ?_
      clear hc c0 c1 c2 c3 c4 c5 c6
      rintro e w9 ⟨v, ni, rfl, hb, ⟨h1, -⟩ | ⟨-, rfl, z, rfl, hoz, hz9⟩⟩
      · exact absurd (show (0 : Int) = 0 from rfl) h1
      have HW9 := Lib.hid (HWr.out.trans (hb.mono HWr.out.size))
      have H49 := Lib.hid (H4r.out.trans (hb.mono H4r.out.size))
      have HKx9 := Lib.hid (HK.out.below hb HK.out.lt)
      have HRx9 := Lib.hid ((HR.out.below hb).more hb.size)
      have HOZ := Lib.hid hoz
      have HZC : Hid (z.con = D) := hz9
      clear hb hoz hz9 HK HR
      obtain ⟨nm2, nq2, nx2, ⟨na, nb, nc, nL⟩, ⟨oa, ob, oc, oL⟩, ⟨pa, pb, pc, pL⟩, ⟨qa, qb, qc, qL⟩⟩ := z
      obtain ⟨im, iq, ix, ⟨ia, ib, ic, iL⟩, ⟨ja, jb, jc, jL⟩, ⟨ka, kb, kc, kL⟩, ⟨ma, mb, mc, mL⟩⟩ := x
      simp only [TenR.val, TenR.cells, FS.val, strV]
      have hbn := (HW9.out).alloc HW9.out.size (.cells #[.string ⟨nm2.toArray⟩, .int .i64 nq2, .int .i64 nx2, .slice na nb nc, .slice oa ob oc, .slice pa pb pc, .slice qa qb qc] 27)
      have kbn := Blk.new w9 27 #[.string ⟨nm2.toArray⟩, .int .i64 nq2, .int .i64 nx2, .slice na nb nc, .slice oa ob oc, .slice pa pb pc, .slice qa qb qc]
      have hsn : (w9.alloc (.cells #[.string ⟨nm2.toArray⟩, .int .i64 nq2, .int .i64 nx2, .slice na nb nc, .slice oa ob oc, .slice pa pb pc, .slice qa qb qc] 27)).heap.size = w9.heap.size + 1 := by simp
      have HOZn := HOZ.out.below ((Below.refl w9.heap.size w9).alloc (Nat.le_refl _) (.cells #[.string ⟨nm2.toArray⟩, .int .i64 nq2, .int .i64 nx2, .slice na nb nc, .slice oa ob oc, .slice pa pb pc, .slice qa qb qc] 27))
      obtain ⟨Bw, hBw⟩ : ∃ g, g = w9.heap.size := ⟨_, rfl⟩
      obtain ⟨w10, hWn⟩ : ∃ W, W = (w9.alloc (.cells #[.string ⟨nm2.toArray⟩, .int .i64 nq2, .int .i64 nx2, .slice na nb nc, .slice oa ob oc, .slice pa pb pc, .slice qa qb qc] 27)) := ⟨_, rfl⟩
      rw [← hWn] at hbn kbn hsn HOZn
      have HW10 := Lib.hid hbn
      rw [← hBw] at kbn
      have hKw : Hid (∀ W, Below w10.heap.size w10 W → Blk W Bw 27 #[.string ⟨nm2.toArray⟩, .int .i64 nq2, .int .i64 nx2, .slice na nb nc, .slice oa ob oc, .slice pa pb pc, .slice qa qb qc]) := fun W h => kbn.below h (by omega)
      have HZw := Lib.hid (show Bw = w9.heap.size ∧ w10.heap.size = w9.heap.size + 1 from ⟨hBw, hsn⟩)
      have HOZ := Lib.hid HOZn
      have H9a := Lib.hid ((Below.refl w9.heap.size w9).alloc (Nat.le_refl _) (.cells #[.string ⟨nm2.toArray⟩, .int .i64 nq2, .int .i64 nx2, .slice na nb nc, .slice oa ob oc, .slice pa pb pc, .slice qa qb qc] 27))
      rw [← hWn] at H9a
      clear hbn kbn hsn HOZn
      obtain ⟨UV, hUV⟩ : ∃ v, v = Value.agg #[.string ⟨um.toArray⟩, .int .i64 uq, .int .i64 ux, .slice ua ub uc, .slice va vb vc, .slice xa xb xc, .slice ya yb yc] := ⟨_, rfl⟩
      obtain ⟨XV, hXV⟩ : ∃ v, v = Value.agg #[.string ⟨im.toArray⟩, .int .i64 iq, .int .i64 ix, .slice ia ib ic, .slice ja jb jc, .slice ka kb kc, .slice ma mb mc] := ⟨_, rfl⟩
      obtain ⟨ZV, hZV⟩ : ∃ v, v = Value.agg #[.string ⟨nm2.toArray⟩, .int .i64 nq2, .int .i64 nx2, .slice na nb nc, .slice oa ob oc, .slice pa pb pc, .slice qa qb qc] := ⟨_, rfl⟩
      obtain ⟨TV, hTV⟩ : ∃ v, v = Value.agg #[.string ⟨nm.toArray⟩, .int .i64 qu, .int .i64 nx, .slice s1 sn s3, .slice gA gN gC, .slice t1 tn t3, .slice l1 ln l3] := ⟨_, rfl⟩
      have hB4 : Hid (∀ W, Below w10.heap.size w10 W → Below w4.heap.size w4 W) := fun W h => (H49.out.trans (H9a.out.mono H49.out.size)).trans (h.mono (by have h1 := H49.out.size; have h2 := H9a.out.size; omega))
      have hB1 : Hid (∀ W, Below w10.heap.size w10 W → Below W1.heap.size W1 W) := fun W h => HW10.out.trans (h.mono HW10.out.size)
      have hUR : Hid (∀ W, Below w10.heap.size w10 W → TenR.rd W W.heap.size ⟨um, uq, ux, ⟨ua, ub, uc, uL⟩, ⟨va, vb, vc, vL⟩, ⟨xa, xb, xc, xL⟩, ⟨ya, yb, yc, yL⟩⟩) := fun W h => (HOU.out.below (hB4.out W h)).rd
      have hXR : Hid (∀ W, Below w10.heap.size w10 W → TenR.rd W W.heap.size ⟨im, iq, ix, ⟨ia, ib, ic, iL⟩, ⟨ja, jb, jc, jL⟩, ⟨ka, kb, kc, kL⟩, ⟨ma, mb, mc, mL⟩⟩) := fun W h => ((HRx9.out.below H9a.out).more H9a.out.size).below h |>.more h.size
      have hZR : Hid (∀ W, Below w10.heap.size w10 W → TenR.rd W W.heap.size ⟨nm2, nq2, nx2, ⟨na, nb, nc, nL⟩, ⟨oa, ob, oc, oL⟩, ⟨pa, pb, pc, pL⟩, ⟨qa, qb, qc, qL⟩⟩) := fun W h => (HOZ.out.below h).rd
      have hUZ : Hid (TenR.sz ⟨um, uq, ux, ⟨ua, ub, uc, uL⟩, ⟨va, vb, vc, vL⟩, ⟨xa, xb, xc, xL⟩, ⟨ya, yb, yc, yL⟩⟩) := TenR.sz_of (hUR.out w10 (Below.refl _ _)) (by rw [HU.out]; exact HDsz.out)
      have hS1 : Hid (∀ W, Below w10.heap.size w10 W → Calls Tryz.prog 21 #[UV, XV] W fun e w' => e = .returned (.bool true) ∧ Below W.heap.size W w') := fun W h => by
        rw [hUV, hXV]
        exact same14_any ⟨um, uq, ux, ⟨ua, ub, uc, uL⟩, ⟨va, vb, vc, vL⟩, ⟨xa, xb, xc, xL⟩, ⟨ya, yb, yc, yL⟩⟩ ⟨im, iq, ix, ⟨ia, ib, ic, iL⟩, ⟨ja, jb, jc, jL⟩, ⟨ka, kb, kc, kL⟩, ⟨ma, mb, mc, mL⟩⟩ ((TenR.eqv_iff _ _).2 (by rw [HU.out, hxD.out])) W W.heap.size (Nat.le_refl _) (hUR.out W h) (hXR.out W h) hUZ.out
      have hS2 : Hid (∀ W, Below w10.heap.size w10 W → Calls Tryz.prog 21 #[UV, ZV] W fun e w' => e = .returned (.bool true) ∧ Below W.heap.size W w') := fun W h => by
        rw [hUV, hZV]
        exact same14_any ⟨um, uq, ux, ⟨ua, ub, uc, uL⟩, ⟨va, vb, vc, vL⟩, ⟨xa, xb, xc, xL⟩, ⟨ya, yb, yc, yL⟩⟩ ⟨nm2, nq2, nx2, ⟨na, nb, nc, nL⟩, ⟨oa, ob, oc, oL⟩, ⟨pa, pb, pc, pL⟩, ⟨qa, qb, qc, qL⟩⟩ ((TenR.eqv_iff _ _).2 (by rw [HU.out, HZC.out])) W W.heap.size (Nat.le_refl _) (hUR.out W h) (hZR.out W h) hUZ.out
      have hsU := tenSum_small ⟨um, uq, ux, ⟨ua, ub, uc, uL⟩, ⟨va, vb, vc, vL⟩, ⟨xa, xb, xc, xL⟩, ⟨ya, yb, yc, yL⟩⟩ hUZ.out (by rw [tenE_con, HU.out]; exact HED.out)
      have hsT := tenSum_small ⟨nm, qu, nx, ⟨s1, sn, s3, sl⟩, ⟨gA, gN, gC, gL⟩, ⟨t1, tn, t3, tl⟩, ⟨l1, ln, l3, ll⟩⟩ HZ.out (by rw [tenE_con, ← hHC.out]; exact HE0.out)
      have heU := tenSum_con ⟨um, uq, ux, ⟨ua, ub, uc, uL⟩, ⟨va, vb, vc, vL⟩, ⟨xa, xb, xc, xL⟩, ⟨ya, yb, yc, yL⟩⟩ w10 w10.heap.size (hUR.out w10 (Below.refl _ _))
      have heT := tenSum_con ⟨nm, qu, nx, ⟨s1, sn, s3, sl⟩, ⟨gA, gN, gC, gL⟩, ⟨t1, tn, t3, tl⟩, ⟨l1, ln, l3, ll⟩⟩ w10 w.heap.size (hrw.out w10 HW10.out).1
      rw [HU.out] at heU
      rw [← hHC.out] at heT
      obtain ⟨cD, hcD⟩ : ∃ n, n = D.charge := ⟨_, rfl⟩
      obtain ⟨cC, hcC⟩ : ∃ n, n = C.charge := ⟨_, rfl⟩
      obtain ⟨fr, hfr⟩ : ∃ n, n = C.freesC p keep := ⟨_, rfl⟩
      have hsum : cD + fr = cC := by have h1 := HCHG.out; have h2 := HFR.out; omega
      have hC1 : Hid (∀ W, Below w10.heap.size w10 W → Calls Tryz.prog 22 #[UV] W fun e w' => e = .returned (.int .i64 (cD : Int)) ∧ Below W.heap.size W w') := fun W h => by
        have h1 := rcharge_any ⟨um, uq, ux, ⟨ua, ub, uc, uL⟩, ⟨va, vb, vc, vL⟩, ⟨xa, xb, xc, xL⟩, ⟨ya, yb, yc, yL⟩⟩ W W.heap.size (Nat.le_refl _) (hUR.out W h) hUZ.out hsU
        rw [heU, ← hcD] at h1
        rw [hUV]
        exact h1
      have hC2 : Hid (∀ W, Below w10.heap.size w10 W → Calls Tryz.prog 22 #[TV] W fun e w' => e = .returned (.int .i64 (cC : Int)) ∧ Below W.heap.size W w') := fun W h => by
        have h1 := rcharge_any ⟨nm, qu, nx, ⟨s1, sn, s3, sl⟩, ⟨gA, gN, gC, gL⟩, ⟨t1, tn, t3, tl⟩, ⟨l1, ln, l3, ll⟩⟩ W w.heap.size (hrw.out W (hB1.out W h)).2.1 (hrw.out W (hB1.out W h)).1 HZ.out hsT
        rw [heT, ← hcC] at h1
        rw [hTV]
        exact h1
      have hcs2 : (cC : Int) ≤ 4000000000000000000 := by rw [heT, ← hcC] at hsT; exact hsT
      have hFS : Hid (∀ W, Below w10.heap.size w10 W → Calls Tryz.prog 23 #[TV, .string ⟨p.toArray⟩, .int .i64 keep] W fun e w' => e = .returned (.int .i64 (fr : Int)) ∧ Below W.heap.size W w') := fun W h => by
        have h1 := frees_any ⟨nm, qu, nx, ⟨s1, sn, s3, sl⟩, ⟨gA, gN, gC, gL⟩, ⟨t1, tn, t3, tl⟩, ⟨l1, ln, l3, ll⟩⟩ p keep W w.heap.size (hrw.out W (hB1.out W h)).2.1 (hrw.out W (hB1.out W h)).1 HZ.out (hrw.out W (hB1.out W h)).2.2 (by rw [← hHC.out, ← hfr]; omega)
        rw [← hHC.out, ← hfr] at h1
        rw [hTV]
        exact h1
      have hw : IntKind.i64.wrap ((cC : Int) - (fr : Int)) = (cD : Int) := by rw [IntWalk.i64_in _ (by omega)]; omega
      obtain ⟨AL, hAL2⟩ : ∃ l, l = C.allC := ⟨_, rfl⟩
      obtain ⟨an, han⟩ : ∃ n, n = AL.length := ⟨_, rfl⟩
      have han2 : an ≤ 1000000000000 := by have h1 := allC_len C HE0.out; rw [han, hAL2]; omega
      have hA1 : Hid (∀ W, Below w10.heap.size w10 W → Calls Tryz.prog 25 #[UV] W fun e w' => ∃ A c, e = .returned (.slice A an c) ∧ w'.ownsRow W.heap.size 9 1 (.slice A an c) an (scells AL) ∧ Below W.heap.size W w') := fun W h => by
        have h1 := all_any ⟨um, uq, ux, ⟨ua, ub, uc, uL⟩, ⟨va, vb, vc, vL⟩, ⟨xa, xb, xc, xL⟩, ⟨ya, yb, yc, yL⟩⟩ W W.heap.size (Nat.le_refl _) (hUR.out W h) hUZ.out
        rw [all_con ⟨um, uq, ux, ⟨ua, ub, uc, uL⟩, ⟨va, vb, vc, vL⟩, ⟨xa, xb, xc, xL⟩, ⟨ya, yb, yc, yL⟩⟩ W W.heap.size (hUR.out W h), HU.out, HALL.out, ← hAL2, ← han] at h1
        rw [hUV]
        exact h1 han2
      have hA2 : Hid (∀ W, Below w10.heap.size w10 W → Calls Tryz.prog 25 #[TV] W fun e w' => ∃ A c, e = .returned (.slice A an c) ∧ w'.ownsRow W.heap.size 9 1 (.slice A an c) an (scells AL) ∧ Below W.heap.size W w') := fun W h => by
        have h1 := all_any ⟨nm, qu, nx, ⟨s1, sn, s3, sl⟩, ⟨gA, gN, gC, gL⟩, ⟨t1, tn, t3, tl⟩, ⟨l1, ln, l3, ll⟩⟩ W w.heap.size (hrw.out W (hB1.out W h)).2.1 (hrw.out W (hB1.out W h)).1 HZ.out
        rw [all_con ⟨nm, qu, nx, ⟨s1, sn, s3, sl⟩, ⟨gA, gN, gC, gL⟩, ⟨t1, tn, t3, tl⟩, ⟨l1, ln, l3, ll⟩⟩ W w.heap.size (hrw.out W (hB1.out W h)).1, ← hHC.out, ← hAL2, ← han] at h1
        rw [hTV]
        exact h1 han2
      have hTX : Hid (∀ W A1 c1 A2 c2, W.ownsRow w10.heap.size 9 1 (.slice A1 an c1) an (scells AL) → W.ownsRow w10.heap.size 9 1 (.slice A2 an c2) an (scells AL) → Calls Tryz.prog 24 #[.slice A1 an c1, .slice A2 an c2] W fun e w' => e = .returned (.bool true) ∧ Below W.heap.size W w') := fun W A1 c1 A2 c2 h1 h2 => by
        refine (texts_any AL AL an an han han A1 A2 c1 c2 W W.heap.size W.heap.size (Reads.of_own h1) (Reads.of_own h2) (by omega) (by omega)).mono ?_
        rintro e w' ⟨rfl, q, rfl⟩
        exact ⟨by simp, below_drewN (Below.refl _ _) q⟩
      have hS : Hid (∀ W, Below w10.heap.size w10 W → W.cell? ⟨Bu, 0, none⟩ = some (.string ⟨um.toArray⟩) ∧ W.cell? ⟨Bu, 1, none⟩ = some (.int .i64 uq) ∧ W.cell? ⟨Bu, 2, none⟩ = some (.int .i64 ux) ∧ W.cell? ⟨Bu, 3, none⟩ = some (.slice ua ub uc) ∧ W.cell? ⟨Bu, 4, none⟩ = some (.slice va vb vc) ∧ W.cell? ⟨Bu, 5, none⟩ = some (.slice xa xb xc) ∧ W.cell? ⟨Bu, 6, none⟩ = some (.slice ya yb yc) ∧ W.cell? ⟨Bv, 0, none⟩ = some (.string ⟨im.toArray⟩) ∧ W.cell? ⟨Bv, 1, none⟩ = some (.int .i64 iq) ∧ W.cell? ⟨Bv, 2, none⟩ = some (.int .i64 ix) ∧ W.cell? ⟨Bv, 3, none⟩ = some (.slice ia ib ic) ∧ W.cell? ⟨Bv, 4, none⟩ = some (.slice ja jb jc) ∧ W.cell? ⟨Bv, 5, none⟩ = some (.slice ka kb kc) ∧ W.cell? ⟨Bv, 6, none⟩ = some (.slice ma mb mc) ∧ W.cell? ⟨w.heap.size, 0, none⟩ = some (.string ⟨nm.toArray⟩) ∧ W.cell? ⟨w.heap.size, 1, none⟩ = some (.int .i64 qu) ∧ W.cell? ⟨w.heap.size, 2, none⟩ = some (.int .i64 nx) ∧ W.cell? ⟨w.heap.size, 3, none⟩ = some (.slice s1 sn s3) ∧ W.cell? ⟨w.heap.size, 4, none⟩ = some (.slice gA gN gC) ∧ W.cell? ⟨w.heap.size, 5, none⟩ = some (.slice t1 tn t3) ∧ W.cell? ⟨w.heap.size, 6, none⟩ = some (.slice l1 ln l3) ∧ W.cell? ⟨Bw, 0, none⟩ = some (.string ⟨nm2.toArray⟩) ∧ W.cell? ⟨Bw, 1, none⟩ = some (.int .i64 nq2) ∧ W.cell? ⟨Bw, 2, none⟩ = some (.int .i64 nx2) ∧ W.cell? ⟨Bw, 3, none⟩ = some (.slice na nb nc) ∧ W.cell? ⟨Bw, 4, none⟩ = some (.slice oa ob oc) ∧ W.cell? ⟨Bw, 5, none⟩ = some (.slice pa pb pc) ∧ W.cell? ⟨Bw, 6, none⟩ = some (.slice qa qb qc)) := fun W h => by
        obtain ⟨a0, a1, a2, a3, a4, a5, a6⟩ := blk7 (hKu.out W (hB4.out W h))
        obtain ⟨b0, b1, b2, b3, b4, b5, b6⟩ := blk7 ((HKx9.out.below H9a.out HKx9.out.lt).below h (Nat.lt_of_lt_of_le HKx9.out.lt H9a.out.size))
        obtain ⟨c0, c1, c2, c3, c4, c5, c6⟩ := blk7 (hKt.out W (hB1.out W h))
        obtain ⟨d0, d1, d2, d3, d4, d5, d6⟩ := blk7 (hKw.out W h)
        exact ⟨a0, a1, a2, a3, a4, a5, a6, b0, b1, b2, b3, b4, b5, b6, c0, c1, c2, c3, c4, c5, c6, d0, d1, d2, d3, d4, d5, d6⟩
      have HUV := Lib.hid hUV
      have HXV := Lib.hid hXV
      have HZV := Lib.hid hZV
      have HTV := Lib.hid hTV
      have hjj : ((j : Int) == (j : Int)) = true := by simp
      have hdd : ((cD : Int) == (cD : Int)) = true := by simp
      clear hUV hXV hZV hTV hsU hsT heU heT hcD hcC hfr hsum hcs2 hAL2 han han2
      go_upto_region 20 with (refine wpList_store_new w9 rfl 27 (.tmp 15) (.tmp 97) rfl 27 [.string ⟨#[]⟩, .int .i64 0, .int .i64 0, .slice none 0 0, .slice none 0 0, .slice none 0 0, .slice none 0 0] [.string ⟨nm2.toArray⟩, .int .i64 nq2, .int .i64 nx2, .slice na nb nc, .slice oa ob oc, .slice pa pb pc, .slice qa qb qc] rfl rfl rfl (by kernel_rfl) (by simp [Value.oneCell']) ?_; rw [show ([.string ⟨nm2.toArray⟩, .int .i64 nq2, .int .i64 nx2, .slice na nb nc, .slice oa ob oc, .slice pa pb pc, .slice qa qb qc] : List Value).toArray = #[.string ⟨nm2.toArray⟩, .int .i64 nq2, .int .i64 nx2, .slice na nb nc, .slice oa ob oc, .slice pa pb pc, .slice qa qb qc] from rfl, ← hWn, ← hBw]; clear hWn hBw)
      refine wp_region_good2 (by kernel_rfl) (by kernel_rfl) [(fun v _ => v = .int .i64 0),
        (fun v _ => v = .bool true),
        (fun v _ => v = .bool true),
        (fun v _ => v = .int .i64 (j : Int)),
        (fun v _ => v = .slice lA j lc),
        (fun v _ => v = .int .i64 (j : Int)),
        (fun v _ => v = .bool true),
        (fun v _ => v = .bool true),
        (fun v _ => v = .bool true),
        (fun v _ => v = UV),
        (fun v _ => v = XV),
        (fun v _ => v = .bool true),
        (fun v _ => v = .bool true),
        (fun v _ => v = .bool true),
        (fun v _ => v = UV),
        (fun v _ => v = .int .i64 (cD : Int)),
        (fun v _ => v = TV),
        (fun v _ => v = .int .i64 (cC : Int)),
        (fun v _ => v = TV),
        (fun v _ => v = .string ⟨p.toArray⟩),
        (fun v _ => v = .int .i64 keep),
        (fun v _ => v = .int .i64 (fr : Int)),
        (fun v _ => v = .int .i64 (cD : Int)),
        (fun v _ => v = .bool true),
        (fun v _ => v = .bool true),
        (fun v _ => v = .bool true),
        (fun v _ => v = .int .i64 0),
        (fun v _ => v = .bool true),
        (fun v _ => v = .bool true),
        (fun v _ => v = .bool true),
        (fun v _ => v = .int .i64 0),
        (fun v _ => v = .bool true),
        (fun v _ => v = .bool true),
        (fun v _ => v = .bool true),
        (fun v _ => v = UV),
        (fun v _ => v = ZV),
        (fun v _ => v = .bool true),
        (fun v _ => v = .bool true),
        (fun v _ => v = .bool true),
        (fun v _ => v = UV),
        (fun v W => ∃ A c, v = .slice A an c ∧ W.ownsRow w10.heap.size 9 1 v an (scells AL)),
        (fun v _ => v = TV),
        (fun v W => ∃ A c, v = .slice A an c ∧ W.ownsRow w10.heap.size 9 1 v an (scells AL)),
        (fun v _ => v = .bool true),
        (fun v _ => v = .bool true),
        (fun v _ => v = .bool true)] ?_ ?_ ?_
      · repeat' (first | exact stays_nil | refine stays_cons ?_ ?_ | exact Stays.pure | exact (fun v W W' h hb => let ⟨A, c, h1, h2⟩ := h; ⟨A, c, h1, own_below h2 hb⟩))
      · intro i oo ho m2 W hb0 hmi hcl hdeps AA KK hA hK
        rcases i with _ | _ | _ | _ | _ | _ | _ | _ | _ | _ | _ | _ | _ | _ | _ | _ | _ | _ | _ | _ | _ | _ | _ | _ | _ | _ | _ | _ | _ | _ | _ | _ | _ | _ | _ | _ | _ | _ | _ | _ | _ | _ | _ | _ | _ | _ | i
        · injection ho with ho; subst ho
          have ef9 : AA.tmps[9]?.getD undef = .int .i64 0 := tF hA
          exact zP
        · injection ho with ho; subst ho
          have e0 := eD hdeps hA 0 100
          exact zP
        · injection ho with ho; subst ho
          have e1 := eD hdeps hA 1 101
          exact zP
        · injection ho with ho; subst ho
          have e2 := eD hdeps hA 2 102
          have ef8 : AA.tmps[8]?.getD undef = .int .i64 (j : Int) := tF hA
          clear hA hdeps hcl hmi
          rw [if_pos (wanted_of (k := 102) rfl rfl e2)]
          have hK0 : KK (AA.put (some 103) _) _ := hK (.int .i64 (j : Int)) _ (Below.refl _ _) (Eq.refl _)
          clear hK
          go_simp
          exact hK0
        · injection ho with ho; subst ho
          have e2 := eD hdeps hA 2 102
          have ef10 : AA.tmps[10]?.getD undef = .slice lA j lc := tF hA
          clear hA hdeps hcl hmi
          rw [if_pos (wanted_of (k := 102) rfl rfl e2)]
          have hK0 : KK (AA.put (some 104) _) _ := hK (.slice lA j lc) _ (Below.refl _ _) (Eq.refl _)
          clear hK
          go_simp
          exact hK0
        · injection ho with ho; subst ho
          have e2 := eD hdeps hA 2 102
          have e4 := eD hdeps hA 4 104
          clear hA hdeps hcl hmi
          rw [if_pos (wanted_of (k := 102) rfl rfl e2)]
          have hK0 : KK (AA.put (some 105) _) _ := hK (.int .i64 (j : Int)) _ (Below.refl _ _) (Eq.refl _)
          clear hK
          go_simp
          exact hK0
        · injection ho with ho; subst ho
          have e2 := eD hdeps hA 2 102
          have e3 := eD hdeps hA 3 103
          have e5 := eD hdeps hA 5 105
          clear hA hdeps hcl hmi
          rw [if_pos (wanted_of (k := 102) rfl rfl e2)]
          have hK0 : KK (AA.put (some 106) _) _ := hK (.bool true) _ (Below.refl _ _) (Eq.refl _)
          clear hK
          go_simp
          exact hK0
        · injection ho with ho; subst ho
          have e2 := eD hdeps hA 2 102
          have e6 := eD hdeps hA 6 106
          exact zP
        · injection ho with ho; subst ho
          have e7 := eD hdeps hA 7 107
          exact zP
        · injection ho with ho; subst ho
          have e8 := eD hdeps hA 8 108
          have ef7 : AA.tmps[7]?.getD undef = .pointer (some ⟨Bu, 0, none⟩) := tF hA
          clear hA hdeps hcl hmi
          rw [if_pos (wanted_of (k := 108) rfl rfl e8)]
          obtain ⟨q0, q1, q2, q3, q4, q5, q6, q7, q8, q9, q10, q11, q12, q13, q14, q15, q16, q17, q18, q19, q20, q21, q22, q23, q24, q25, q26, q27⟩ := hS.out W hb0
          have hK0 : KK (AA.put (some 109) _) _ := hK (UV) _ (Below.refl _ _) (Eq.refl _)
          clear hK
          rw [HUV.out] at hK0
          go_simp
          exact hK0
        · injection ho with ho; subst ho
          have e8 := eD hdeps hA 8 108
          have ef11 : AA.tmps[11]?.getD undef = .pointer (some ⟨Bv, 0, none⟩) := tF hA
          clear hA hdeps hcl hmi
          rw [if_pos (wanted_of (k := 108) rfl rfl e8)]
          obtain ⟨q0, q1, q2, q3, q4, q5, q6, q7, q8, q9, q10, q11, q12, q13, q14, q15, q16, q17, q18, q19, q20, q21, q22, q23, q24, q25, q26, q27⟩ := hS.out W hb0
          have hK0 : KK (AA.put (some 110) _) _ := hK (XV) _ (Below.refl _ _) (Eq.refl _)
          clear hK
          rw [HXV.out] at hK0
          go_simp
          exact hK0
        · injection ho with ho; subst ho
          have e8 := eD hdeps hA 8 108
          have e9 := eD hdeps hA 9 109
          have e10 := eD hdeps hA 10 110
          clear hA hdeps hcl hmi
          rw [if_pos (wanted_of (k := 108) rfl rfl e8)]
          have hKK := hK
          clear hK
          go_simp
          refine (hS1.out W hb0).mono ?_
          rintro e w5 ⟨rfl, hbn⟩
          exact hKK _ _ hbn (Eq.refl _)
        · injection ho with ho; subst ho
          have e8 := eD hdeps hA 8 108
          have e11 := eD hdeps hA 11 111
          exact zP
        · injection ho with ho; subst ho
          have e12 := eD hdeps hA 12 112
          exact zP
        · injection ho with ho; subst ho
          have e13 := eD hdeps hA 13 113
          have ef7 : AA.tmps[7]?.getD undef = .pointer (some ⟨Bu, 0, none⟩) := tF hA
          clear hA hdeps hcl hmi
          rw [if_pos (wanted_of (k := 113) rfl rfl e13)]
          obtain ⟨q0, q1, q2, q3, q4, q5, q6, q7, q8, q9, q10, q11, q12, q13, q14, q15, q16, q17, q18, q19, q20, q21, q22, q23, q24, q25, q26, q27⟩ := hS.out W hb0
          have hK0 : KK (AA.put (some 114) _) _ := hK (UV) _ (Below.refl _ _) (Eq.refl _)
          clear hK
          rw [HUV.out] at hK0
          go_simp
          exact hK0
        · injection ho with ho; subst ho
          have e13 := eD hdeps hA 13 113
          have e14 := eD hdeps hA 14 114
          clear hA hdeps hcl hmi
          rw [if_pos (wanted_of (k := 113) rfl rfl e13)]
          have hKK := hK
          clear hK
          go_simp
          refine (hC1.out W hb0).mono ?_
          rintro e w5 ⟨rfl, hbn⟩
          exact hKK _ _ hbn (Eq.refl _)
        · injection ho with ho; subst ho
          have e13 := eD hdeps hA 13 113
          have ef3 : AA.tmps[3]?.getD undef = .pointer (some ⟨w.heap.size, 0, none⟩) := tF hA
          clear hA hdeps hcl hmi
          rw [if_pos (wanted_of (k := 113) rfl rfl e13)]
          obtain ⟨q0, q1, q2, q3, q4, q5, q6, q7, q8, q9, q10, q11, q12, q13, q14, q15, q16, q17, q18, q19, q20, q21, q22, q23, q24, q25, q26, q27⟩ := hS.out W hb0
          have hK0 : KK (AA.put (some 116) _) _ := hK (TV) _ (Below.refl _ _) (Eq.refl _)
          clear hK
          rw [HTV.out] at hK0
          go_simp
          exact hK0
        · injection ho with ho; subst ho
          have e13 := eD hdeps hA 13 113
          have e16 := eD hdeps hA 16 116
          clear hA hdeps hcl hmi
          rw [if_pos (wanted_of (k := 113) rfl rfl e13)]
          have hKK := hK
          clear hK
          go_simp
          refine (hC2.out W hb0).mono ?_
          rintro e w5 ⟨rfl, hbn⟩
          exact hKK _ _ hbn (Eq.refl _)
        · injection ho with ho; subst ho
          have e13 := eD hdeps hA 13 113
          have ef3 : AA.tmps[3]?.getD undef = .pointer (some ⟨w.heap.size, 0, none⟩) := tF hA
          clear hA hdeps hcl hmi
          rw [if_pos (wanted_of (k := 113) rfl rfl e13)]
          obtain ⟨q0, q1, q2, q3, q4, q5, q6, q7, q8, q9, q10, q11, q12, q13, q14, q15, q16, q17, q18, q19, q20, q21, q22, q23, q24, q25, q26, q27⟩ := hS.out W hb0
          have hK0 : KK (AA.put (some 118) _) _ := hK (TV) _ (Below.refl _ _) (Eq.refl _)
          clear hK
          rw [HTV.out] at hK0
          go_simp
          exact hK0
        · injection ho with ho; subst ho
          have e13 := eD hdeps hA 13 113
          have ef1 : AA.tmps[1]?.getD undef = .string ⟨p.toArray⟩ := tF hA
          clear hA hdeps hcl hmi
          rw [if_pos (wanted_of (k := 113) rfl rfl e13)]
          have hK0 : KK (AA.put (some 119) _) _ := hK (.string ⟨p.toArray⟩) _ (Below.refl _ _) (Eq.refl _)
          clear hK
          go_simp
          exact hK0
        · injection ho with ho; subst ho
          have e13 := eD hdeps hA 13 113
          have ef2 : AA.tmps[2]?.getD undef = .int .i64 keep := tF hA
          clear hA hdeps hcl hmi
          rw [if_pos (wanted_of (k := 113) rfl rfl e13)]
          have hK0 : KK (AA.put (some 120) _) _ := hK (.int .i64 keep) _ (Below.refl _ _) (Eq.refl _)
          clear hK
          go_simp
          exact hK0
        · injection ho with ho; subst ho
          have e13 := eD hdeps hA 13 113
          have e18 := eD hdeps hA 18 118
          have e19 := eD hdeps hA 19 119
          have e20 := eD hdeps hA 20 120
          clear hA hdeps hcl hmi
          rw [if_pos (wanted_of (k := 113) rfl rfl e13)]
          have hKK := hK
          clear hK
          go_simp
          refine (hFS.out W hb0).mono ?_
          rintro e w5 ⟨rfl, hbn⟩
          exact hKK _ _ hbn (Eq.refl _)
        · injection ho with ho; subst ho
          have e13 := eD hdeps hA 13 113
          have e17 := eD hdeps hA 17 117
          have e21 := eD hdeps hA 21 121
          clear hA hdeps hcl hmi
          rw [if_pos (wanted_of (k := 113) rfl rfl e13)]
          have hK0 : KK (AA.put (some 122) _) _ := hK (.int .i64 (cD : Int)) _ (Below.refl _ _) (Eq.refl _)
          clear hK
          go_simp
          exact hK0
        · injection ho with ho; subst ho
          have e13 := eD hdeps hA 13 113
          have e15 := eD hdeps hA 15 115
          have e22 := eD hdeps hA 22 122
          clear hA hdeps hcl hmi
          rw [if_pos (wanted_of (k := 113) rfl rfl e13)]
          have hK0 : KK (AA.put (some 123) _) _ := hK (.bool true) _ (Below.refl _ _) (Eq.refl _)
          clear hK
          go_simp
          exact hK0
        · injection ho with ho; subst ho
          have e13 := eD hdeps hA 13 113
          have e23 := eD hdeps hA 23 123
          exact zP
        · injection ho with ho; subst ho
          have e24 := eD hdeps hA 24 124
          exact zP
        · injection ho with ho; subst ho
          have e25 := eD hdeps hA 25 125
          have ef17 : AA.tmps[17]?.getD undef = .int .i64 0 := tF hA
          clear hA hdeps hcl hmi
          rw [if_pos (wanted_of (k := 125) rfl rfl e25)]
          have hK0 : KK (AA.put (some 126) _) _ := hK (.int .i64 0) _ (Below.refl _ _) (Eq.refl _)
          clear hK
          go_simp
          exact hK0
        · injection ho with ho; subst ho
          have e25 := eD hdeps hA 25 125
          have e26 := eD hdeps hA 26 126
          clear hA hdeps hcl hmi
          rw [if_pos (wanted_of (k := 125) rfl rfl e25)]
          have hK0 : KK (AA.put (some 127) _) _ := hK (.bool true) _ (Below.refl _ _) (Eq.refl _)
          clear hK
          go_simp
          exact hK0
        · injection ho with ho; subst ho
          have e25 := eD hdeps hA 25 125
          have e27 := eD hdeps hA 27 127
          exact zP
        · injection ho with ho; subst ho
          have e28 := eD hdeps hA 28 128
          exact zP
        · injection ho with ho; subst ho
          have e29 := eD hdeps hA 29 129
          have ef16 : AA.tmps[16]?.getD undef = .int .i64 0 := tF hA
          clear hA hdeps hcl hmi
          rw [if_pos (wanted_of (k := 129) rfl rfl e29)]
          have hK0 : KK (AA.put (some 130) _) _ := hK (.int .i64 0) _ (Below.refl _ _) (Eq.refl _)
          clear hK
          go_simp
          exact hK0
        · injection ho with ho; subst ho
          have e29 := eD hdeps hA 29 129
          have e30 := eD hdeps hA 30 130
          clear hA hdeps hcl hmi
          rw [if_pos (wanted_of (k := 129) rfl rfl e29)]
          have hK0 : KK (AA.put (some 131) _) _ := hK (.bool true) _ (Below.refl _ _) (Eq.refl _)
          clear hK
          go_simp
          exact hK0
        · injection ho with ho; subst ho
          have e29 := eD hdeps hA 29 129
          have e31 := eD hdeps hA 31 131
          exact zP
        · injection ho with ho; subst ho
          have e32 := eD hdeps hA 32 132
          exact zP
        · injection ho with ho; subst ho
          have e33 := eD hdeps hA 33 133
          have ef7 : AA.tmps[7]?.getD undef = .pointer (some ⟨Bu, 0, none⟩) := tF hA
          clear hA hdeps hcl hmi
          rw [if_pos (wanted_of (k := 133) rfl rfl e33)]
          obtain ⟨q0, q1, q2, q3, q4, q5, q6, q7, q8, q9, q10, q11, q12, q13, q14, q15, q16, q17, q18, q19, q20, q21, q22, q23, q24, q25, q26, q27⟩ := hS.out W hb0
          have hK0 : KK (AA.put (some 134) _) _ := hK (UV) _ (Below.refl _ _) (Eq.refl _)
          clear hK
          rw [HUV.out] at hK0
          go_simp
          exact hK0
        · injection ho with ho; subst ho
          have e33 := eD hdeps hA 33 133
          have ef15 : AA.tmps[15]?.getD undef = .pointer (some ⟨Bw, 0, none⟩) := tF hA
          clear hA hdeps hcl hmi
          rw [if_pos (wanted_of (k := 133) rfl rfl e33)]
          obtain ⟨q0, q1, q2, q3, q4, q5, q6, q7, q8, q9, q10, q11, q12, q13, q14, q15, q16, q17, q18, q19, q20, q21, q22, q23, q24, q25, q26, q27⟩ := hS.out W hb0
          have hK0 : KK (AA.put (some 135) _) _ := hK (ZV) _ (Below.refl _ _) (Eq.refl _)
          clear hK
          rw [HZV.out] at hK0
          go_simp
          exact hK0
        · injection ho with ho; subst ho
          have e33 := eD hdeps hA 33 133
          have e34 := eD hdeps hA 34 134
          have e35 := eD hdeps hA 35 135
          clear hA hdeps hcl hmi
          rw [if_pos (wanted_of (k := 133) rfl rfl e33)]
          have hKK := hK
          clear hK
          go_simp
          refine (hS2.out W hb0).mono ?_
          rintro e w5 ⟨rfl, hbn⟩
          exact hKK _ _ hbn (Eq.refl _)
        · injection ho with ho; subst ho
          have e33 := eD hdeps hA 33 133
          have e36 := eD hdeps hA 36 136
          exact zP
        · injection ho with ho; subst ho
          have e37 := eD hdeps hA 37 137
          exact zP
        · injection ho with ho; subst ho
          have e38 := eD hdeps hA 38 138
          have ef7 : AA.tmps[7]?.getD undef = .pointer (some ⟨Bu, 0, none⟩) := tF hA
          clear hA hdeps hcl hmi
          rw [if_pos (wanted_of (k := 138) rfl rfl e38)]
          obtain ⟨q0, q1, q2, q3, q4, q5, q6, q7, q8, q9, q10, q11, q12, q13, q14, q15, q16, q17, q18, q19, q20, q21, q22, q23, q24, q25, q26, q27⟩ := hS.out W hb0
          have hK0 : KK (AA.put (some 139) _) _ := hK (UV) _ (Below.refl _ _) (Eq.refl _)
          clear hK
          rw [HUV.out] at hK0
          go_simp
          exact hK0
        · injection ho with ho; subst ho
          have e38 := eD hdeps hA 38 138
          have e39 := eD hdeps hA 39 139
          clear hA hdeps hcl hmi
          rw [if_pos (wanted_of (k := 138) rfl rfl e38)]
          have hKK := hK
          clear hK
          go_simp
          refine (hA1.out W hb0).mono ?_
          rintro e w5 ⟨A9, c9, rfl, hv, hbn⟩
          exact hKK _ _ hbn ⟨A9, c9, rfl, own_mono hv hb0.size⟩
        · injection ho with ho; subst ho
          have e38 := eD hdeps hA 38 138
          have ef3 : AA.tmps[3]?.getD undef = .pointer (some ⟨w.heap.size, 0, none⟩) := tF hA
          clear hA hdeps hcl hmi
          rw [if_pos (wanted_of (k := 138) rfl rfl e38)]
          obtain ⟨q0, q1, q2, q3, q4, q5, q6, q7, q8, q9, q10, q11, q12, q13, q14, q15, q16, q17, q18, q19, q20, q21, q22, q23, q24, q25, q26, q27⟩ := hS.out W hb0
          have hK0 : KK (AA.put (some 141) _) _ := hK (TV) _ (Below.refl _ _) (Eq.refl _)
          clear hK
          rw [HTV.out] at hK0
          go_simp
          exact hK0
        · injection ho with ho; subst ho
          have e38 := eD hdeps hA 38 138
          have e41 := eD hdeps hA 41 141
          clear hA hdeps hcl hmi
          rw [if_pos (wanted_of (k := 138) rfl rfl e38)]
          have hKK := hK
          clear hK
          go_simp
          refine (hA2.out W hb0).mono ?_
          rintro e w5 ⟨A9, c9, rfl, hv, hbn⟩
          exact hKK _ _ hbn ⟨A9, c9, rfl, own_mono hv hb0.size⟩
        · injection ho with ho; subst ho
          have e38 := eD hdeps hA 38 138
          obtain ⟨x40, hx40, hg40⟩ := hdeps ⟨40, .data⟩ (by simp) rfl
          have hg40 : ∃ A c, x40 = .slice A an c ∧ W.ownsRow w10.heap.size 9 1 x40 an (scells AL) := hg40
          have hk40 := hg40
          obtain ⟨A40, c40, rfl, how40⟩ := hg40
          have e40 : AA.tmps[140]?.getD undef = .slice A40 an c40 := tO hA hx40
          obtain ⟨x42, hx42, hg42⟩ := hdeps ⟨42, .data⟩ (by simp) rfl
          have hg42 : ∃ A c, x42 = .slice A an c ∧ W.ownsRow w10.heap.size 9 1 x42 an (scells AL) := hg42
          have hk42 := hg42
          obtain ⟨A42, c42, rfl, how42⟩ := hg42
          have e42 : AA.tmps[142]?.getD undef = .slice A42 an c42 := tO hA hx42
          clear hA hdeps hcl hmi hx40 hx42
          rw [if_pos (wanted_of (k := 138) rfl rfl e38)]
          have hKK := hK
          clear hK
          go_simp
          refine (hTX.out W _ _ _ _ how40 how42).mono ?_
          rintro e w5 ⟨rfl, hbn⟩
          exact hKK _ _ hbn (Eq.refl _)
        · injection ho with ho; subst ho
          have e38 := eD hdeps hA 38 138
          have e43 := eD hdeps hA 43 143
          exact zP
        · injection ho with ho; subst ho
          have e44 := eD hdeps hA 44 144
          exact zP
        · simp at ho
      · intro m W hbx hall
        have m0 := dV (hall 0 (by simp))
        have m1 := dV (hall 1 (by simp))
        have m2 := dV (hall 2 (by simp))
        have m3 := dV (hall 3 (by simp))
        have m4 := dV (hall 4 (by simp))
        have m5 := dV (hall 5 (by simp))
        have m6 := dV (hall 6 (by simp))
        have m7 := dV (hall 7 (by simp))
        have m8 := dV (hall 8 (by simp))
        have m9 := dV (hall 9 (by simp))
        have m10 := dV (hall 10 (by simp))
        have m11 := dV (hall 11 (by simp))
        have m12 := dV (hall 12 (by simp))
        have m13 := dV (hall 13 (by simp))
        have m14 := dV (hall 14 (by simp))
        have m15 := dV (hall 15 (by simp))
        have m16 := dV (hall 16 (by simp))
        have m17 := dV (hall 17 (by simp))
        have m18 := dV (hall 18 (by simp))
        have m19 := dV (hall 19 (by simp))
        have m20 := dV (hall 20 (by simp))
        have m21 := dV (hall 21 (by simp))
        have m22 := dV (hall 22 (by simp))
        have m23 := dV (hall 23 (by simp))
        have m24 := dV (hall 24 (by simp))
        have m25 := dV (hall 25 (by simp))
        have m26 := dV (hall 26 (by simp))
        have m27 := dV (hall 27 (by simp))
        have m28 := dV (hall 28 (by simp))
        have m29 := dV (hall 29 (by simp))
        have m30 := dV (hall 30 (by simp))
        have m31 := dV (hall 31 (by simp))
        have m32 := dV (hall 32 (by simp))
        have m33 := dV (hall 33 (by simp))
        have m34 := dV (hall 34 (by simp))
        have m35 := dV (hall 35 (by simp))
        have m36 := dV (hall 36 (by simp))
        have m37 := dV (hall 37 (by simp))
        have m38 := dV (hall 38 (by simp))
        have m39 := dV (hall 39 (by simp))
        obtain ⟨x40, m40, g40⟩ := hall 40 (by simp)
        replace g40 : ∃ A c, x40 = .slice A an c ∧ W.ownsRow w10.heap.size 9 1 x40 an (scells AL) := g40
        have m41 := dV (hall 41 (by simp))
        obtain ⟨x42, m42, g42⟩ := hall 42 (by simp)
        replace g42 : ∃ A c, x42 = .slice A an c ∧ W.ownsRow w10.heap.size 9 1 x42 an (scells AL) := g42
        have m43 := dV (hall 43 (by simp))
        have m44 := dV (hall 44 (by simp))
        have m45 := dV (hall 45 (by simp))
        rw [frameM_all (by kernel_rfl) [.int .i64 0, .bool true, .bool true, .int .i64 (j : Int), .slice lA j lc, .int .i64 (j : Int), .bool true, .bool true, .bool true, UV, XV, .bool true, .bool true, .bool true, UV, .int .i64 (cD : Int), TV, .int .i64 (cC : Int), TV, .string ⟨p.toArray⟩, .int .i64 keep, .int .i64 (fr : Int), .int .i64 (cD : Int), .bool true, .bool true, .bool true, .int .i64 0, .bool true, .bool true, .bool true, .int .i64 0, .bool true, .bool true, .bool true, UV, ZV, .bool true, .bool true, .bool true, UV, x40, TV, x42, .bool true, .bool true, .bool true] rfl (fun i hi => by rcases i with _ | _ | _ | _ | _ | _ | _ | _ | _ | _ | _ | _ | _ | _ | _ | _ | _ | _ | _ | _ | _ | _ | _ | _ | _ | _ | _ | _ | _ | _ | _ | _ | _ | _ | _ | _ | _ | _ | _ | _ | _ | _ | _ | _ | _ | _ | i <;> first | assumption | (simp at hi; omega))]
        clear hall m0 m1 m2 m3 m4 m5 m6 m7 m8 m9 m10 m11 m12 m13 m14 m15 m16 m17 m18 m19 m20 m21 m22 m23 m24 m25 m26 m27 m28 m29 m30 m31 m32 m33 m34 m35 m36 m37 m38 m39 m40 m41 m42 m43 m44 m45
        simp only [putAll, Act.put, List.setIfInBounds_toArray, List.set_cons_succ, List.set_cons_zero]
        have hbf := hBW.out _ (hB1.out _ hbx)
        go_wp2_with fail
        go_ret
        exact ⟨rfl, hbf⟩
end Go.Proofs.YtcgclpcocdappaaGreatDoor
