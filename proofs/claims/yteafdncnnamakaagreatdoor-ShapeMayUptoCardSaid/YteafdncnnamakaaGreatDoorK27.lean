/-
  ShapeMay: what comes of a tenant that may be may be, and fits where it did: the law's walk.
-/
import Derived.Test.YteafdncnnamakaaGreatDoorK0
import Derived.Test.YteafdncnnamakaaGreatDoorK25
import Derived.Test.YteafdncnnamakaaGreatDoorK26
import Derived.Test.YteafdncnnamakaaGreatDoorK22
import Derived.Test.YteafdncnnamakaaGreatDoorK19
import Derived.Test.YteafdncnnamakaaGreatDoorK20
import Derived.Test.YteafdncnnamakaaGreatDoorK6
namespace Go.Proofs.YteafdncnnamakaaGreatDoor
open Go.RowKit
/-- what is told, in one form: a tenant (the zero one beside an error) -/
theorem TenPost.one {w w' : World} {c : Int × TenC} {e : Ending} (h : TenPost w c e w') : ∃ y : TenR, e = .returned (.tuple #[y.val, .int .i64 c.1]) ∧ Below w.heap.size w w' ∧ (c.1 = 0 → TenO w' w.heap.size y ∧ y.con = c.2) := by
 obtain ⟨v, rfl, hb, h⟩ := h
 rcases h with ⟨h1, rfl⟩ | ⟨h1, y, rfl, h2, h3⟩
 ·exact ⟨⟨[], 0, 0, ⟨none, 0, 0, []⟩, ⟨none, 0, 0, []⟩, ⟨none, 0, 0, []⟩, ⟨none, 0, 0, []⟩⟩, rfl, hb, fun h => absurd h h1⟩
 ·exact ⟨y, rfl, hb, fun _ => ⟨h2, h3⟩⟩
theorem settle_ok (c c2 : TenC) (h : (0, c2) = c.settle) : c2 = c ∧ c.E = 0 ∧ (c.charge : Int) ≤ c.quota := by
 unfold TenC.settle at h
 by_cases h5 : c.E = 9
 ·rw [if_pos h5] at h
  injection h with h _
  cases h
 rw [if_neg h5] at h
 split at h
 ·injection h with h _
  cases h
 ·injection h with _ h
  refine ⟨h, ?_, by omega⟩
  rcases c.E_two with h6 | h6
  ·exact h6
  ·exact absurd h6 h5
theorem create_fits (c : TenC) (p : BS) (c2 : TenC) (h : (0, c2) = c.create p) : (c2.charge : Int) ≤ c2.quota := by
 unfold TenC.create at h
 by_cases h1 : c.ask p ≠ 0
 ·rw [if_pos h1] at h
  injection h with h _
  exact absurd h.symm h1
 rw [if_neg h1] at h
 by_cases h2 : 0 ≤ c.find p
 ·rw [if_pos h2] at h
  injection h with h _
  cases h
 rw [if_neg h2] at h
 by_cases h3 : c.find (upL p) < 0
 ·rw [if_pos h3] at h
  injection h with h _
  cases h
 rw [if_neg h3] at h
 by_cases h4 : c.sets.length = 32
 ·rw [if_pos h4] at h
  injection h with h _
  cases h
 rw [if_neg h4] at h
 obtain ⟨e1, _, e3⟩ := settle_ok _ _ h
 rw [e1]
 exact e3
theorem changeS_ok (r : Int × TenC) (c2 : TenC) (h : (0, c2) = changeS r) : r.1 = 0 ∧ c2 = r.2 ∧ c2.E = 0 ∧ (c2.charge : Int) ≤ c2.quota := by
 unfold changeS at h
 by_cases h1 : r.1 ≠ 0
 ·rw [if_pos h1] at h
  rw [← h] at h1
  exact absurd rfl h1
 rw [if_neg h1] at h
 obtain ⟨e1, e2, e3⟩ := settle_ok _ _ h
 rw [e1]
 exact ⟨by omega, rfl, e2, e3⟩
set_option maxRecDepth 100000 in
set_option maxHeartbeats 8000000 in
theorem shapeMay_any (t : TenR) (p : BS) (i : Int) (d : BS) (w : World) (hr : t.rd w w.heap.size) (hz : t.sz) (hp : p.length ≤ 4000000000) (hmx : HasMax w) :
  Calls Tryz.prog 5 #[t.val, .string ⟨p.toArray⟩, .int .i64 i, .string ⟨d.toArray⟩] w fun e w' => e = .returned (.bool true) ∧ Below w.heap.size w w' := by
 have hcz := TenC.sz_of hr hz
 obtain ⟨nm, qu, nx, ⟨s1, sn, s3, sl⟩, ⟨gA, gN, gC, gL⟩, ⟨t1, tn, t3, tl⟩, ⟨l1, ln, l3, ll⟩⟩ := t
 show Calls Tryz.prog 5 #[.agg #[.string ⟨nm.toArray⟩, .int .i64 qu, .int .i64 nx, .slice s1 sn s3, .slice gA gN gC, .slice t1 tn t3, .slice l1 ln l3], .string ⟨p.toArray⟩, .int .i64 i, .string ⟨d.toArray⟩] w _
 have hb := ((Below.refl w.heap.size w).alloc (Nat.le_refl _) (.cells #[.string ⟨nm.toArray⟩, .int .i64 qu, .int .i64 nx, .slice s1 sn s3, .slice gA gN gC, .slice t1 tn t3, .slice l1 ln l3] 27))
 have kt := Blk.new w 27 #[.string ⟨nm.toArray⟩, .int .i64 qu, .int .i64 nx, .slice s1 sn s3, .slice gA gN gC, .slice t1 tn t3, .slice l1 ln l3]
 have hsz : (w.alloc (.cells #[.string ⟨nm.toArray⟩, .int .i64 qu, .int .i64 nx, .slice s1 sn s3, .slice gA gN gC, .slice t1 tn t3, .slice l1 ln l3] 27)).heap.size = w.heap.size + 1 := by simp
 obtain ⟨W1, hW1⟩ : ∃ W, W = (w.alloc (.cells #[.string ⟨nm.toArray⟩, .int .i64 qu, .int .i64 nx, .slice s1 sn s3, .slice gA gN gC, .slice t1 tn t3, .slice l1 ln l3] 27)) := ⟨_, rfl⟩
 rw [← hW1] at hb hsz kt
 have hKt : Hid (∀ W, Below W1.heap.size W1 W → Blk W w.heap.size 27 #[.string ⟨nm.toArray⟩, .int .i64 qu, .int .i64 nx, .slice s1 sn s3, .slice gA gN gC, .slice t1 tn t3, .slice l1 ln l3]) := fun W h => kt.below h (by omega)
 have hBW : Hid (∀ W, Below W1.heap.size W1 W → Below w.heap.size w W) := fun W h => hb.trans (h.mono (by omega))
 have hSZ : Hid (∀ W, Below W1.heap.size W1 W → w.heap.size + 1 ≤ W.heap.size) := fun W h => by have := h.size; omega
 have hW0 : Hid (Below W1.heap.size W1 W1) := Below.refl _ _
 have hrw : Hid (∀ W, Below W1.heap.size W1 W → TenR.rd W w.heap.size ⟨nm, qu, nx, ⟨s1, sn, s3, sl⟩, ⟨gA, gN, gC, gL⟩, ⟨t1, tn, t3, tl⟩, ⟨l1, ln, l3, ll⟩⟩ ∧ w.heap.size ≤ W.heap.size ∧ HasMax W) := fun W h =>
  ⟨TenR.rd.below hr (hBW.out W h), by have := hSZ.out W h; omega, hmx.below (hBW.out W h)⟩
 obtain ⟨C, hC⟩ : ∃ C, C = TenR.con ⟨nm, qu, nx, ⟨s1, sn, s3, sl⟩, ⟨gA, gN, gC, gL⟩, ⟨t1, tn, t3, tl⟩, ⟨l1, ln, l3, ll⟩⟩ := ⟨_, rfl⟩
 have hHC := Lib.hid hC
 rw [← hC] at hcz
 have hAL : Hid (∀ W, Below W1.heap.size W1 W → Calls Tryz.prog 15 #[] W fun e w' => e = .returned (.bool true) ∧ Below W.heap.size W w') := fun W h => alive16_any W (hrw.out W h).2.2
 obtain ⟨⟨E1, Ca⟩, hV1⟩ : ∃ V : Int × TenC, V = C.create p := ⟨_, rfl⟩
 obtain ⟨⟨E2, Cb⟩, hV2⟩ : ∃ V : Int × TenC, V = changeS (C.changed p (writeF i d)) := ⟨_, rfl⟩
 obtain ⟨⟨E3, Cc⟩, hV3⟩ : ∃ V : Int × TenC, V = C.destroy p := ⟨_, rfl⟩
 have hCR : Hid (∀ W, Below W1.heap.size W1 W → Calls Tryz.prog 7 #[.agg #[.string ⟨nm.toArray⟩, .int .i64 qu, .int .i64 nx, .slice s1 sn s3, .slice gA gN gC, .slice t1 tn t3, .slice l1 ln l3], .string ⟨p.toArray⟩] W (TenPost W (E1, Ca))) := fun W h => by
  rw [hV1, hC]
  exact create_any ⟨nm, qu, nx, ⟨s1, sn, s3, sl⟩, ⟨gA, gN, gC, gL⟩, ⟨t1, tn, t3, tl⟩, ⟨l1, ln, l3, ll⟩⟩ p W w.heap.size (hrw.out W h).2.1 (hrw.out W h).1 hz hp (hrw.out W h).2.2
 have hWR : Hid (∀ W, Below W1.heap.size W1 W → Calls Tryz.prog 17 #[.agg #[.string ⟨nm.toArray⟩, .int .i64 qu, .int .i64 nx, .slice s1 sn s3, .slice gA gN gC, .slice t1 tn t3, .slice l1 ln l3], .string ⟨p.toArray⟩, .int .i64 i, .string ⟨d.toArray⟩] W (TenPost W (E2, Cb))) := fun W h => by
  rw [hV2, hC]
  exact writeT_any ⟨nm, qu, nx, ⟨s1, sn, s3, sl⟩, ⟨gA, gN, gC, gL⟩, ⟨t1, tn, t3, tl⟩, ⟨l1, ln, l3, ll⟩⟩ p i d W w.heap.size (hrw.out W h).2.1 (hrw.out W h).1 hz hp (hrw.out W h).2.2
 have hDE : Hid (∀ W, Below W1.heap.size W1 W → Calls Tryz.prog 9 #[.agg #[.string ⟨nm.toArray⟩, .int .i64 qu, .int .i64 nx, .slice s1 sn s3, .slice gA gN gC, .slice t1 tn t3, .slice l1 ln l3], .string ⟨p.toArray⟩] W (TenPost W (E3, Cc))) := fun W h => by
  rw [hV3, hC]
  exact destroy_any ⟨nm, qu, nx, ⟨s1, sn, s3, sl⟩, ⟨gA, gN, gC, gL⟩, ⟨t1, tn, t3, tl⟩, ⟨l1, ln, l3, ll⟩⟩ p W w.heap.size (hrw.out W h).2.1 (hrw.out W h).1 hz hp (hrw.out W h).2.2
 have hMa : Hid (E1 = 0 → Ca.sz ∧ Ca.E = 0 ∧ (Ca.charge : Int) ≤ Ca.quota) := fun h0 => by
  subst h0
  obtain ⟨h1, h2, h3, h4, h5⟩ := create_ok C p Ca hV1
  refine ⟨?_, h5, create_fits C p Ca hV1⟩
  rw [h4]
  exact hcz.withS (set0C_sz p hp) (by have := (C.E_sets h1).1; omega)
 have hMb : Hid (E2 = 0 → Cb.sz ∧ Cb.E = 0 ∧ (Cb.charge : Int) ≤ Cb.quota) := fun h0 => by
  subst h0
  obtain ⟨h1, h2, h3, h4⟩ := changeS_ok _ Cb hV2
  refine ⟨?_, h3, h4⟩
  rw [h2]
  exact changed_sz hcz (by rw [← h1]) (writeF_sz i d)
 have hMc : Hid (E3 = 0 → Cc.sz ∧ Cc.E = 0 ∧ Cc.charge ≤ C.charge ∧ C.E = 0) := fun h0 => by
  subst h0
  obtain ⟨h1, h2, h3, k, h4⟩ := destroy_ok C p Cc hV3
  refine ⟨?_, h2, h3, h1⟩
  rw [h4]
  exact hcz.dropS
 have hCT : Hid (C.E = 0 → ∀ W, Below W1.heap.size W1 W → Calls Tryz.prog 19 #[.agg #[.string ⟨nm.toArray⟩, .int .i64 qu, .int .i64 nx, .slice s1 sn s3, .slice gA gN gC, .slice t1 tn t3, .slice l1 ln l3]] W fun e w' => e = .returned (.int .i64 (C.charge : Int)) ∧ Below W.heap.size W w') := fun h0 W h => by
  rw [hC, ← tenSum_con _ W _ (hrw.out W h).1]
  exact rcharge_any ⟨nm, qu, nx, ⟨s1, sn, s3, sl⟩, ⟨gA, gN, gC, gL⟩, ⟨t1, tn, t3, tl⟩, ⟨l1, ln, l3, ll⟩⟩ W w.heap.size (hrw.out W h).2.1 (hrw.out W h).1 hz (tenSum_small _ hz (by rw [tenE_con, ← hC]; exact h0))
 have hCK : Hid (∀ (y : TenR) (W W' : World) (b : Nat), TenO W b y → y.con.sz → y.con.E = 0 → Below W.heap.size W W' → (Calls Tryz.prog 18 #[y.val] W' fun e w' => e = .returned (.int .i64 0) ∧ Below W'.heap.size W' w') ∧ (Calls Tryz.prog 19 #[y.val] W' fun e w' => e = .returned (.int .i64 (y.con.charge : Int)) ∧ Below W'.heap.size W' w')) := fun y W W' b ho hs he h => by
  have hr := (ho.below h).rd
  have hz := TenR.sz_of hr hs
  have h1 := rcheck14_any y W' W'.heap.size hr (Nat.le_refl _) hz
  have h2 := rcharge_any y W' W'.heap.size (Nat.le_refl _) hr hz (tenSum_small y hz (by rw [tenE_con]; exact he))
  rw [tenE_con, he] at h1
  rw [tenSum_con y W' _ hr] at h2
  exact ⟨h1, h2⟩
 have HQ : Hid (C.quota = qu) := by show _ = _; rw [hC]; rfl
 clear hb hsz kt hr hz hp hmx hV1 hV2 hV3 hC hcz
 go_enter Tryz.func5, Tryz.ntmps5
 have hc := hAL.out W1 hW0.out
 go_wp2_with fail
 rw [← hW1]
 clear hW1
 refine hc.mono ?_
 clear hc 
 rintro e w2 ⟨rfl, hb⟩
 have H1_2 := Lib.hid (hW0.out.trans (hb.mono hW0.out.size))
 clear hb
 have hc := hCR.out w2 H1_2.out
 have kk := hKt.out _ H1_2.out
 obtain ⟨c0, c1, c2, c3, c4, c5, c6⟩ := (⟨kk.cell 0, kk.cell 1, kk.cell 2, kk.cell 3, kk.cell 4, kk.cell 5, kk.cell 6⟩ : _ ∧ _ ∧ _ ∧ _ ∧ _ ∧ _ ∧ _)
 simp only [zF, zD, zE] at c0 c1 c2 c3 c4 c5 c6
 clear kk
 go_wp2_with fail
 refine hc.mono ?_
 clear hc c0 c1 c2 c3 c4 c5 c6
 rintro e w3 hone
 obtain ⟨y, rfl, hb, hyo⟩ := hone.one
 have H1_3 := Lib.hid (H1_2.out.trans (hb.mono H1_2.out.size))
 clear hb
 have HY := Lib.hid hyo
 clear hyo hone
 obtain ⟨am, aq, ax, ⟨a1, a2, a3, al⟩, ⟨f1, f2, f3, ag⟩, ⟨i1, i2, i3, asg⟩, ⟨j1, j2, j3, aso⟩⟩ := y
 simp only [TenR.val, TenR.cells, FS.val, strV]
 have hn1 := (H1_3.out).alloc H1_3.out.size (.cells #[.string ⟨am.toArray⟩, .int .i64 aq, .int .i64 ax, .slice a1 a2 a3, .slice f1 f2 f3, .slice i1 i2 i3, .slice j1 j2 j3] 27)
 have kbn := Blk.new w3 27 #[.string ⟨am.toArray⟩, .int .i64 aq, .int .i64 ax, .slice a1 a2 a3, .slice f1 f2 f3, .slice i1 i2 i3, .slice j1 j2 j3]
 have hsn : (w3.alloc (.cells #[.string ⟨am.toArray⟩, .int .i64 aq, .int .i64 ax, .slice a1 a2 a3, .slice f1 f2 f3, .slice i1 i2 i3, .slice j1 j2 j3] 27)).heap.size = w3.heap.size + 1 := by simp
 have hbo := ((Below.refl w3.heap.size w3).alloc (Nat.le_refl _) (.cells #[.string ⟨am.toArray⟩, .int .i64 aq, .int .i64 ax, .slice a1 a2 a3, .slice f1 f2 f3, .slice i1 i2 i3, .slice j1 j2 j3] 27))
 obtain ⟨Ba, hBa⟩ : ∃ g, g = w3.heap.size := ⟨_, rfl⟩
 obtain ⟨w4, hWn⟩ : ∃ W, W = (w3.alloc (.cells #[.string ⟨am.toArray⟩, .int .i64 aq, .int .i64 ax, .slice a1 a2 a3, .slice f1 f2 f3, .slice i1 i2 i3, .slice j1 j2 j3] 27)) := ⟨_, rfl⟩
 rw [← hWn] at kbn hsn hbo hn1
 rw [← hBa] at kbn
 have hKa : Hid (∀ W, Below w4.heap.size w4 W → Blk W Ba 27 #[.string ⟨am.toArray⟩, .int .i64 aq, .int .i64 ax, .slice a1 a2 a3, .slice f1 f2 f3, .slice i1 i2 i3, .slice j1 j2 j3]) := fun W h => kbn.below h (by omega)
 have H1_4 := Lib.hid hn1
 have H4_4 : Hid (Below w4.heap.size w4 w4) := Below.refl _ _
 have hOa : Hid (∀ W, Below w4.heap.size w4 W → E1 = 0 → TenO W w2.heap.size ⟨am, aq, ax, ⟨a1, a2, a3, al⟩, ⟨f1, f2, f3, ag⟩, ⟨i1, i2, i3, asg⟩, ⟨j1, j2, j3, aso⟩⟩ ∧ TenR.con ⟨am, aq, ax, ⟨a1, a2, a3, al⟩, ⟨f1, f2, f3, ag⟩, ⟨i1, i2, i3, asg⟩, ⟨j1, j2, j3, aso⟩⟩ = Ca) := fun W h h0 => ⟨((HY.out h0).1.below hbo).below (h.mono (by omega)), (HY.out h0).2⟩
 clear HY
 clear kbn hsn hbo hn1
 have hc := hWR.out w4 H1_4.out
 have kk := hKt.out _ H1_4.out
 obtain ⟨c0, c1, c2, c3, c4, c5, c6⟩ := (⟨kk.cell 0, kk.cell 1, kk.cell 2, kk.cell 3, kk.cell 4, kk.cell 5, kk.cell 6⟩ : _ ∧ _ ∧ _ ∧ _ ∧ _ ∧ _ ∧ _)
 simp only [zF, zD, zE] at c0 c1 c2 c3 c4 c5 c6
 clear kk
 go_wp2_with (refine wpList_store_new w3 rfl 27 (.tmp 9) (.tmp 21) rfl 27 [.string ⟨#[]⟩, .int .i64 0, .int .i64 0, .slice none 0 0, .slice none 0 0, .slice none 0 0, .slice none 0 0] [.string ⟨am.toArray⟩, .int .i64 aq, .int .i64 ax, .slice a1 a2 a3, .slice f1 f2 f3, .slice i1 i2 i3, .slice j1 j2 j3] rfl rfl rfl (by kernel_rfl) (by simp [Value.oneCell']) ?_; rw [show ([.string ⟨am.toArray⟩, .int .i64 aq, .int .i64 ax, .slice a1 a2 a3, .slice f1 f2 f3, .slice i1 i2 i3, .slice j1 j2 j3] : List Value).toArray = #[.string ⟨am.toArray⟩, .int .i64 aq, .int .i64 ax, .slice a1 a2 a3, .slice f1 f2 f3, .slice i1 i2 i3, .slice j1 j2 j3] from rfl, ← hWn, ← hBa]; clear hWn hBa)
 refine hc.mono ?_
 clear hc c0 c1 c2 c3 c4 c5 c6
 rintro e w5 hone
 obtain ⟨y, rfl, hb, hyo⟩ := hone.one
 have H1_5 := Lib.hid (H1_4.out.trans (hb.mono H1_4.out.size))
 have H4_5 := Lib.hid (H4_4.out.trans (hb.mono H4_4.out.size))
 clear hb
 have HY := Lib.hid hyo
 clear hyo hone
 obtain ⟨bm, bq, bx, ⟨b1, b2, b3, bl⟩, ⟨rb1, rb2, rb3, bg⟩, ⟨kb1, kb2, kb3, bsg⟩, ⟨yb1, yb2, yb3, bso⟩⟩ := y
 simp only [TenR.val, TenR.cells, FS.val, strV]
 have hn1 := (H1_5.out).alloc H1_5.out.size (.cells #[.string ⟨bm.toArray⟩, .int .i64 bq, .int .i64 bx, .slice b1 b2 b3, .slice rb1 rb2 rb3, .slice kb1 kb2 kb3, .slice yb1 yb2 yb3] 27)
 have hn4 := (H4_5.out).alloc H4_5.out.size (.cells #[.string ⟨bm.toArray⟩, .int .i64 bq, .int .i64 bx, .slice b1 b2 b3, .slice rb1 rb2 rb3, .slice kb1 kb2 kb3, .slice yb1 yb2 yb3] 27)
 have kbn := Blk.new w5 27 #[.string ⟨bm.toArray⟩, .int .i64 bq, .int .i64 bx, .slice b1 b2 b3, .slice rb1 rb2 rb3, .slice kb1 kb2 kb3, .slice yb1 yb2 yb3]
 have hsn : (w5.alloc (.cells #[.string ⟨bm.toArray⟩, .int .i64 bq, .int .i64 bx, .slice b1 b2 b3, .slice rb1 rb2 rb3, .slice kb1 kb2 kb3, .slice yb1 yb2 yb3] 27)).heap.size = w5.heap.size + 1 := by simp
 have hbo := ((Below.refl w5.heap.size w5).alloc (Nat.le_refl _) (.cells #[.string ⟨bm.toArray⟩, .int .i64 bq, .int .i64 bx, .slice b1 b2 b3, .slice rb1 rb2 rb3, .slice kb1 kb2 kb3, .slice yb1 yb2 yb3] 27))
 obtain ⟨Bb, hBb⟩ : ∃ g, g = w5.heap.size := ⟨_, rfl⟩
 obtain ⟨w6, hWn⟩ : ∃ W, W = (w5.alloc (.cells #[.string ⟨bm.toArray⟩, .int .i64 bq, .int .i64 bx, .slice b1 b2 b3, .slice rb1 rb2 rb3, .slice kb1 kb2 kb3, .slice yb1 yb2 yb3] 27)) := ⟨_, rfl⟩
 rw [← hWn] at kbn hsn hbo hn1 hn4
 rw [← hBb] at kbn
 have hKb : Hid (∀ W, Below w6.heap.size w6 W → Blk W Bb 27 #[.string ⟨bm.toArray⟩, .int .i64 bq, .int .i64 bx, .slice b1 b2 b3, .slice rb1 rb2 rb3, .slice kb1 kb2 kb3, .slice yb1 yb2 yb3]) := fun W h => kbn.below h (by omega)
 have H1_6 := Lib.hid hn1
 have H4_6 := Lib.hid hn4
 have H6_6 : Hid (Below w6.heap.size w6 w6) := Below.refl _ _
 have hOb : Hid (∀ W, Below w6.heap.size w6 W → E2 = 0 → TenO W w4.heap.size ⟨bm, bq, bx, ⟨b1, b2, b3, bl⟩, ⟨rb1, rb2, rb3, bg⟩, ⟨kb1, kb2, kb3, bsg⟩, ⟨yb1, yb2, yb3, bso⟩⟩ ∧ TenR.con ⟨bm, bq, bx, ⟨b1, b2, b3, bl⟩, ⟨rb1, rb2, rb3, bg⟩, ⟨kb1, kb2, kb3, bsg⟩, ⟨yb1, yb2, yb3, bso⟩⟩ = Cb) := fun W h h0 => ⟨((HY.out h0).1.below hbo).below (h.mono (by omega)), (HY.out h0).2⟩
 clear HY
 clear kbn hsn hbo hn1 hn4
 have hc := hDE.out w6 H1_6.out
 have kk := hKt.out _ H1_6.out
 obtain ⟨c0, c1, c2, c3, c4, c5, c6⟩ := (⟨kk.cell 0, kk.cell 1, kk.cell 2, kk.cell 3, kk.cell 4, kk.cell 5, kk.cell 6⟩ : _ ∧ _ ∧ _ ∧ _ ∧ _ ∧ _ ∧ _)
 simp only [zF, zD, zE] at c0 c1 c2 c3 c4 c5 c6
 clear kk
 go_wp2_with (refine wpList_store_new w5 rfl 27 (.tmp 11) (.tmp 29) rfl 27 [.string ⟨#[]⟩, .int .i64 0, .int .i64 0, .slice none 0 0, .slice none 0 0, .slice none 0 0, .slice none 0 0] [.string ⟨bm.toArray⟩, .int .i64 bq, .int .i64 bx, .slice b1 b2 b3, .slice rb1 rb2 rb3, .slice kb1 kb2 kb3, .slice yb1 yb2 yb3] rfl rfl rfl (by kernel_rfl) (by simp [Value.oneCell']) ?_; rw [show ([.string ⟨bm.toArray⟩, .int .i64 bq, .int .i64 bx, .slice b1 b2 b3, .slice rb1 rb2 rb3, .slice kb1 kb2 kb3, .slice yb1 yb2 yb3] : List Value).toArray = #[.string ⟨bm.toArray⟩, .int .i64 bq, .int .i64 bx, .slice b1 b2 b3, .slice rb1 rb2 rb3, .slice kb1 kb2 kb3, .slice yb1 yb2 yb3] from rfl, ← hWn, ← hBb]; clear hWn hBb)
 refine hc.mono ?_
 clear hc c0 c1 c2 c3 c4 c5 c6
 rintro e w7 hone
 obtain ⟨y, rfl, hb, hyo⟩ := hone.one
 have H1_7 := Lib.hid (H1_6.out.trans (hb.mono H1_6.out.size))
 have H4_7 := Lib.hid (H4_6.out.trans (hb.mono H4_6.out.size))
 have H6_7 := Lib.hid (H6_6.out.trans (hb.mono H6_6.out.size))
 clear hb
 have HY := Lib.hid hyo
 clear hyo hone
 obtain ⟨cm, cq, cx, ⟨z1, z2, z3, cl⟩, ⟨gc1, gc2, gc3, cg⟩, ⟨oc1, oc2, oc3, csg⟩, ⟨vc1, vc2, vc3, cso⟩⟩ := y
 simp only [TenR.val, TenR.cells, FS.val, strV]
 have hn1 := (H1_7.out).alloc H1_7.out.size (.cells #[.string ⟨cm.toArray⟩, .int .i64 cq, .int .i64 cx, .slice z1 z2 z3, .slice gc1 gc2 gc3, .slice oc1 oc2 oc3, .slice vc1 vc2 vc3] 27)
 have hn4 := (H4_7.out).alloc H4_7.out.size (.cells #[.string ⟨cm.toArray⟩, .int .i64 cq, .int .i64 cx, .slice z1 z2 z3, .slice gc1 gc2 gc3, .slice oc1 oc2 oc3, .slice vc1 vc2 vc3] 27)
 have hn6 := (H6_7.out).alloc H6_7.out.size (.cells #[.string ⟨cm.toArray⟩, .int .i64 cq, .int .i64 cx, .slice z1 z2 z3, .slice gc1 gc2 gc3, .slice oc1 oc2 oc3, .slice vc1 vc2 vc3] 27)
 have kbn := Blk.new w7 27 #[.string ⟨cm.toArray⟩, .int .i64 cq, .int .i64 cx, .slice z1 z2 z3, .slice gc1 gc2 gc3, .slice oc1 oc2 oc3, .slice vc1 vc2 vc3]
 have hsn : (w7.alloc (.cells #[.string ⟨cm.toArray⟩, .int .i64 cq, .int .i64 cx, .slice z1 z2 z3, .slice gc1 gc2 gc3, .slice oc1 oc2 oc3, .slice vc1 vc2 vc3] 27)).heap.size = w7.heap.size + 1 := by simp
 have hbo := ((Below.refl w7.heap.size w7).alloc (Nat.le_refl _) (.cells #[.string ⟨cm.toArray⟩, .int .i64 cq, .int .i64 cx, .slice z1 z2 z3, .slice gc1 gc2 gc3, .slice oc1 oc2 oc3, .slice vc1 vc2 vc3] 27))
 obtain ⟨Bc, hBc⟩ : ∃ g, g = w7.heap.size := ⟨_, rfl⟩
 obtain ⟨w8, hWn⟩ : ∃ W, W = (w7.alloc (.cells #[.string ⟨cm.toArray⟩, .int .i64 cq, .int .i64 cx, .slice z1 z2 z3, .slice gc1 gc2 gc3, .slice oc1 oc2 oc3, .slice vc1 vc2 vc3] 27)) := ⟨_, rfl⟩
 rw [← hWn] at kbn hsn hbo hn1 hn4 hn6
 rw [← hBc] at kbn
 have hKc : Hid (∀ W, Below w8.heap.size w8 W → Blk W Bc 27 #[.string ⟨cm.toArray⟩, .int .i64 cq, .int .i64 cx, .slice z1 z2 z3, .slice gc1 gc2 gc3, .slice oc1 oc2 oc3, .slice vc1 vc2 vc3]) := fun W h => kbn.below h (by omega)
 have H1_8 := Lib.hid hn1
 have H4_8 := Lib.hid hn4
 have H6_8 := Lib.hid hn6
 have H8_8 : Hid (Below w8.heap.size w8 w8) := Below.refl _ _
 have hOc : Hid (∀ W, Below w8.heap.size w8 W → E3 = 0 → TenO W w6.heap.size ⟨cm, cq, cx, ⟨z1, z2, z3, cl⟩, ⟨gc1, gc2, gc3, cg⟩, ⟨oc1, oc2, oc3, csg⟩, ⟨vc1, vc2, vc3, cso⟩⟩ ∧ TenR.con ⟨cm, cq, cx, ⟨z1, z2, z3, cl⟩, ⟨gc1, gc2, gc3, cg⟩, ⟨oc1, oc2, oc3, csg⟩, ⟨vc1, vc2, vc3, cso⟩⟩ = Cc) := fun W h h0 => ⟨((HY.out h0).1.below hbo).below (h.mono (by omega)), (HY.out h0).2⟩
 clear HY
 clear kbn hsn hbo hn1 hn4 hn6
 go_upto_region 6 with (refine wpList_store_new w7 rfl 27 (.tmp 13) (.tmp 35) rfl 27 [.string ⟨#[]⟩, .int .i64 0, .int .i64 0, .slice none 0 0, .slice none 0 0, .slice none 0 0, .slice none 0 0] [.string ⟨cm.toArray⟩, .int .i64 cq, .int .i64 cx, .slice z1 z2 z3, .slice gc1 gc2 gc3, .slice oc1 oc2 oc3, .slice vc1 vc2 vc3] rfl rfl rfl (by kernel_rfl) (by simp [Value.oneCell']) ?_; rw [show ([.string ⟨cm.toArray⟩, .int .i64 cq, .int .i64 cx, .slice z1 z2 z3, .slice gc1 gc2 gc3, .slice oc1 oc2 oc3, .slice vc1 vc2 vc3] : List Value).toArray = #[.string ⟨cm.toArray⟩, .int .i64 cq, .int .i64 cx, .slice z1 z2 z3, .slice gc1 gc2 gc3, .slice oc1 oc2 oc3, .slice vc1 vc2 vc3] from rfl, ← hWn, ← hBc]; clear hWn hBc)
 go_cut [4, 11, 12, 13, 14, 50] from 0 to 78 (fun s4 s11 s12 s13 s14 s50 wx => s4 = .pointer (some ⟨w.heap.size, 0, none⟩) ∧ s11 = .pointer (some ⟨Bb, 0, none⟩) ∧ s12 = .int .i64 E2 ∧ s13 = .pointer (some ⟨Bc, 0, none⟩) ∧ s14 = .int .i64 E3 ∧ s50 = .bool false ∧ Hid (Below W1.heap.size W1 wx) ∧ Hid (Below w4.heap.size w4 wx) ∧ Hid (Below w6.heap.size w6 wx) ∧ Hid (Below w8.heap.size w8 wx))
 case first =>
  have HX1 := H1_8
  have HX4 := H4_8
  have HX6 := H6_8
  have HX8 := H8_8
  obtain ⟨AV, hAV⟩ : ∃ v, v = Value.agg #[.string ⟨am.toArray⟩, .int .i64 aq, .int .i64 ax, .slice a1 a2 a3, .slice f1 f2 f3, .slice i1 i2 i3, .slice j1 j2 j3] := ⟨_, rfl⟩
  have HAV := Lib.hid hAV
  have hgo : E1 = 0 → Hid (∀ W, Below w8.heap.size w8 W → (Calls Tryz.prog 18 #[AV] W fun e w' => e = .returned (.int .i64 0) ∧ Below W.heap.size W w') ∧ (Calls Tryz.prog 19 #[AV] W fun e w' => e = .returned (.int .i64 (Ca.charge : Int)) ∧ Below W.heap.size W w')) := fun h0 => by
   show ∀ W, _ → _
   rw [hAV]
   intro W h
   obtain ⟨h1, h2⟩ := hOa.out W (HX4.out.trans (h.mono HX4.out.size)) h0
   obtain ⟨h3, h4, _⟩ := hMa.out h0
   have h5 := hCK.out ⟨am, aq, ax, ⟨a1, a2, a3, al⟩, ⟨f1, f2, f3, ag⟩, ⟨i1, i2, i3, asg⟩, ⟨j1, j2, j3, aso⟩⟩ W W _ h1 (by rw [h2]; exact h3) (by rw [h2]; exact h4) (Below.refl _ _)
   rw [h2] at h5
   exact h5
  have hS : Hid (∀ W, Below w8.heap.size w8 W → W.cell? ⟨w.heap.size, 0, none⟩ = some (.string ⟨nm.toArray⟩) ∧ W.cell? ⟨w.heap.size, 1, none⟩ = some (.int .i64 qu) ∧ W.cell? ⟨w.heap.size, 2, none⟩ = some (.int .i64 nx) ∧ W.cell? ⟨w.heap.size, 3, none⟩ = some (.slice s1 sn s3) ∧ W.cell? ⟨w.heap.size, 4, none⟩ = some (.slice gA gN gC) ∧ W.cell? ⟨w.heap.size, 5, none⟩ = some (.slice t1 tn t3) ∧ W.cell? ⟨w.heap.size, 6, none⟩ = some (.slice l1 ln l3) ∧ W.cell? ⟨Ba, 0, none⟩ = some (.string ⟨am.toArray⟩) ∧ W.cell? ⟨Ba, 1, none⟩ = some (.int .i64 aq) ∧ W.cell? ⟨Ba, 2, none⟩ = some (.int .i64 ax) ∧ W.cell? ⟨Ba, 3, none⟩ = some (.slice a1 a2 a3) ∧ W.cell? ⟨Ba, 4, none⟩ = some (.slice f1 f2 f3) ∧ W.cell? ⟨Ba, 5, none⟩ = some (.slice i1 i2 i3) ∧ W.cell? ⟨Ba, 6, none⟩ = some (.slice j1 j2 j3)) := fun W h => by
   have k1 := hKt.out W (HX1.out.trans (h.mono HX1.out.size))
   have k2 := hKa.out W (HX4.out.trans (h.mono HX4.out.size))
   exact ⟨k1.cell 0, k1.cell 1, k1.cell 2, k1.cell 3, k1.cell 4, k1.cell 5, k1.cell 6, k2.cell 0, k2.cell 1, k2.cell 2, k2.cell 3, k2.cell 4, k2.cell 5, k2.cell 6⟩
  by_cases hE : E1 = 0
  ·subst hE
   have hgz := hgo rfl
   have hqq : aq = Ca.quota := by rw [← (hOa.out w8 HX4.out rfl).2]; rfl
   have hch : ¬ aq < (Ca.charge : Int) := by have := (hMa.out rfl).2.2; omega
   clear hgo hqq hAV
   refine wp_region_good2 (by kernel_rfl) (by kernel_rfl) [(fun v _ => v = .int .i64 0),
    (fun v _ => v = .bool true),
    (fun v _ => v = .bool true),
    (fun v _ => v = AV),
    (fun v _ => v = .int .i64 0),
    (fun v _ => v = .bool false),
    (fun v _ => v = .bool false),
    (fun v _ => v = AV),
    (fun v _ => v = .int .i64 (Ca.charge : Int)),
    (fun v _ => v = .pointer (some ⟨Ba, 1, none⟩)),
    (fun v _ => v = .int .i64 aq),
    (fun v _ => v = .bool false),
    (fun v _ => v = .bool false),
    (fun v _ => v = .bool false)] ?_ ?_ ?_
   ·repeat' (first | exact stays_nil | refine stays_cons ?_ ?_ | exact Stays.pure)
   ·intro i oo ho m2 W hb0 hmi hcl hdeps AA KK hA hK
    rcases i with _ | _ | _ | _ | _ | _ | _ | _ | _ | _ | _ | _ | _ | _ | i
    ·injection ho with ho
     subst ho
     have ef10 : AA.tmps[10]?.getD undef = .int .i64 0 := tF hA
     clear hA hdeps hcl hmi
     have hK0 : KK (AA.put (some 37) _) _ := hK (.int .i64 0) _ (Below.refl _ _) (Eq.refl _)
     clear hK
     go_simp
     exact hK0
    ·injection ho with ho
     subst ho
     have hx0 : m2 0 = some (.int .i64 0) := dV (hdeps ⟨0, .data⟩ (by simp) rfl)
     have e0 : AA.tmps[37]?.getD undef = .int .i64 0 := tO hA hx0
     clear hA hdeps hcl hmi hx0
     have hK0 : KK (AA.put (some 38) _) _ := hK (.bool true) _ (Below.refl _ _) (Eq.refl _)
     clear hK
     go_simp
     exact hK0
    ·injection ho with ho
     subst ho
     have hx1 : m2 1 = some (.bool true) := dV (hdeps ⟨1, .data⟩ (by simp) rfl)
     have e1 : AA.tmps[38]?.getD undef = .bool true := tO hA hx1
     clear hA hdeps hcl hmi hx1
     have hK0 : KK (AA.put (some 39) _) _ := hK (.bool true) _ (Below.refl _ _) (Eq.refl _)
     clear hK
     go_simp
     exact hK0
    ·injection ho with ho
     subst ho
     have hx2 : m2 2 = some (.bool true) := dV (hdeps ⟨2, .guard⟩ (by simp) rfl)
     have e2 : AA.tmps[39]?.getD undef = .bool true := tO hA hx2
     have ef9 : AA.tmps[9]?.getD undef = .pointer (some ⟨Ba, 0, none⟩) := tF hA
     clear hA hdeps hcl hmi hx2
     rw [if_pos (wanted_of (k := 39) rfl rfl e2)]
     obtain ⟨c0, c1, c2, c3, c4, c5, c6, d0, d1, d2, d3, d4, d5, d6⟩ := hS.out W hb0
     have hK0 : KK (AA.put (some 40) _) _ := hK (AV) _ (Below.refl _ _) (Eq.refl _)
     clear hK
     rw [HAV.out] at hK0
     go_simp
     exact hK0
    ·injection ho with ho
     subst ho
     have hx2 : m2 2 = some (.bool true) := dV (hdeps ⟨2, .guard⟩ (by simp) rfl)
     have e2 : AA.tmps[39]?.getD undef = .bool true := tO hA hx2
     have hx3 : m2 3 = some (AV) := dV (hdeps ⟨3, .data⟩ (by simp) rfl)
     have e3 : AA.tmps[40]?.getD undef = AV := tO hA hx3
     clear hA hdeps hcl hmi hx2 hx3
     rw [if_pos (wanted_of (k := 39) rfl rfl e2)]
     have hKK := hK
     clear hK
     go_simp
     refine ((hgz.out W hb0).1).mono ?_
     rintro e w5 ⟨rfl, hbn⟩
     exact hKK _ _ hbn (Eq.refl _)
    ·injection ho with ho
     subst ho
     have hx2 : m2 2 = some (.bool true) := dV (hdeps ⟨2, .guard⟩ (by simp) rfl)
     have e2 : AA.tmps[39]?.getD undef = .bool true := tO hA hx2
     have hx4 : m2 4 = some (.int .i64 0) := dV (hdeps ⟨4, .data⟩ (by simp) rfl)
     have e4 : AA.tmps[41]?.getD undef = .int .i64 0 := tO hA hx4
     clear hA hdeps hcl hmi hx2 hx4
     rw [if_pos (wanted_of (k := 39) rfl rfl e2)]
     have hK0 : KK (AA.put (some 42) _) _ := hK (.bool false) _ (Below.refl _ _) (Eq.refl _)
     clear hK
     go_simp
     exact hK0
    ·injection ho with ho
     subst ho
     have hx2 : m2 2 = some (.bool true) := dV (hdeps ⟨2, .guard⟩ (by simp) rfl)
     have e2 : AA.tmps[39]?.getD undef = .bool true := tO hA hx2
     have hx5 : m2 5 = some (.bool false) := dV (hdeps ⟨5, .data⟩ (by simp) rfl)
     have e5 : AA.tmps[42]?.getD undef = .bool false := tO hA hx5
     clear hA hdeps hcl hmi hx2 hx5
     rw [if_pos (wanted_of (k := 39) rfl rfl e2)]
     have hK0 : KK (AA.put (some 43) _) _ := hK (.bool false) _ (Below.refl _ _) (Eq.refl _)
     clear hK
     go_simp
     exact hK0
    ·injection ho with ho
     subst ho
     have hx6 : m2 6 = some (.bool false) := dV (hdeps ⟨6, .guard⟩ (by simp) rfl)
     have e6 : AA.tmps[43]?.getD undef = .bool false := tO hA hx6
     have ef9 : AA.tmps[9]?.getD undef = .pointer (some ⟨Ba, 0, none⟩) := tF hA
     clear hA hdeps hcl hmi hx6
     rw [if_pos (wanted_of (k := 43) rfl rfl e6)]
     obtain ⟨c0, c1, c2, c3, c4, c5, c6, d0, d1, d2, d3, d4, d5, d6⟩ := hS.out W hb0
     have hK0 : KK (AA.put (some 44) _) _ := hK (AV) _ (Below.refl _ _) (Eq.refl _)
     clear hK
     rw [HAV.out] at hK0
     go_simp
     exact hK0
    ·injection ho with ho
     subst ho
     have hx6 : m2 6 = some (.bool false) := dV (hdeps ⟨6, .guard⟩ (by simp) rfl)
     have e6 : AA.tmps[43]?.getD undef = .bool false := tO hA hx6
     have hx7 : m2 7 = some (AV) := dV (hdeps ⟨7, .data⟩ (by simp) rfl)
     have e7 : AA.tmps[44]?.getD undef = AV := tO hA hx7
     clear hA hdeps hcl hmi hx6 hx7
     rw [if_pos (wanted_of (k := 43) rfl rfl e6)]
     have hKK := hK
     clear hK
     go_simp
     refine ((hgz.out W hb0).2).mono ?_
     rintro e w5 ⟨rfl, hbn⟩
     exact hKK _ _ hbn (Eq.refl _)
    ·injection ho with ho
     subst ho
     have hx6 : m2 6 = some (.bool false) := dV (hdeps ⟨6, .guard⟩ (by simp) rfl)
     have e6 : AA.tmps[43]?.getD undef = .bool false := tO hA hx6
     have ef9 : AA.tmps[9]?.getD undef = .pointer (some ⟨Ba, 0, none⟩) := tF hA
     clear hA hdeps hcl hmi hx6
     rw [if_pos (wanted_of (k := 43) rfl rfl e6)]
     have hK0 : KK (AA.put (some 46) _) _ := hK (.pointer (some ⟨Ba, 1, none⟩)) _ (Below.refl _ _) (Eq.refl _)
     clear hK
     go_simp
     exact hK0
    ·injection ho with ho
     subst ho
     have hx6 : m2 6 = some (.bool false) := dV (hdeps ⟨6, .guard⟩ (by simp) rfl)
     have e6 : AA.tmps[43]?.getD undef = .bool false := tO hA hx6
     have hx9 : m2 9 = some (.pointer (some ⟨Ba, 1, none⟩)) := dV (hdeps ⟨9, .data⟩ (by simp) rfl)
     have e9 : AA.tmps[46]?.getD undef = .pointer (some ⟨Ba, 1, none⟩) := tO hA hx9
     clear hA hdeps hcl hmi hx6 hx9
     rw [if_pos (wanted_of (k := 43) rfl rfl e6)]
     obtain ⟨c0, c1, c2, c3, c4, c5, c6, d0, d1, d2, d3, d4, d5, d6⟩ := hS.out W hb0
     have hK0 : KK (AA.put (some 47) _) _ := hK (.int .i64 aq) _ (Below.refl _ _) (Eq.refl _)
     clear hK
     go_simp
     exact hK0
    ·injection ho with ho
     subst ho
     have hx6 : m2 6 = some (.bool false) := dV (hdeps ⟨6, .guard⟩ (by simp) rfl)
     have e6 : AA.tmps[43]?.getD undef = .bool false := tO hA hx6
     have hx8 : m2 8 = some (.int .i64 (Ca.charge : Int)) := dV (hdeps ⟨8, .data⟩ (by simp) rfl)
     have e8 : AA.tmps[45]?.getD undef = .int .i64 (Ca.charge : Int) := tO hA hx8
     have hx10 : m2 10 = some (.int .i64 aq) := dV (hdeps ⟨10, .data⟩ (by simp) rfl)
     have e10 : AA.tmps[47]?.getD undef = .int .i64 aq := tO hA hx10
     clear hA hdeps hcl hmi hx6 hx8 hx10
     rw [if_pos (wanted_of (k := 43) rfl rfl e6)]
     have hK0 : KK (AA.put (some 48) _) _ := hK (.bool false) _ (Below.refl _ _) (Eq.refl _)
     clear hK
     go_simp
     exact hK0
    ·injection ho with ho
     subst ho
     have hx2 : m2 2 = some (.bool true) := dV (hdeps ⟨2, .guard⟩ (by simp) rfl)
     have e2 : AA.tmps[39]?.getD undef = .bool true := tO hA hx2
     have hx6 : m2 6 = some (.bool false) := dV (hdeps ⟨6, .data⟩ (by simp) rfl)
     have e6 : AA.tmps[43]?.getD undef = .bool false := tO hA hx6
     have hx11 : m2 11 = some (.bool false) := dV (hdeps ⟨11, .data⟩ (by simp) rfl)
     have e11 : AA.tmps[48]?.getD undef = .bool false := tO hA hx11
     clear hA hdeps hcl hmi hx2 hx6 hx11
     rw [if_pos (wanted_of (k := 39) rfl rfl e2)]
     have hK0 : KK (AA.put (some 49) _) _ := hK (.bool false) _ (Below.refl _ _) (Eq.refl _)
     clear hK
     go_simp
     exact hK0
    ·injection ho with ho
     subst ho
     have hx2 : m2 2 = some (.bool true) := dV (hdeps ⟨2, .data⟩ (by simp) rfl)
     have e2 : AA.tmps[39]?.getD undef = .bool true := tO hA hx2
     have hx12 : m2 12 = some (.bool false) := dV (hdeps ⟨12, .data⟩ (by simp) rfl)
     have e12 : AA.tmps[49]?.getD undef = .bool false := tO hA hx12
     clear hA hdeps hcl hmi hx2 hx12
     have hK0 : KK (AA.put (some 50) _) _ := hK (.bool false) _ (Below.refl _ _) (Eq.refl _)
     clear hK
     go_simp
     exact hK0
    ·simp at ho
   ·intro m W hbx hall
    have m0 : m 0 = some (.int .i64 0) := dV (hall 0 (by simp))
    have m1 : m 1 = some (.bool true) := dV (hall 1 (by simp))
    have m2 : m 2 = some (.bool true) := dV (hall 2 (by simp))
    have m3 : m 3 = some (AV) := dV (hall 3 (by simp))
    have m4 : m 4 = some (.int .i64 0) := dV (hall 4 (by simp))
    have m5 : m 5 = some (.bool false) := dV (hall 5 (by simp))
    have m6 : m 6 = some (.bool false) := dV (hall 6 (by simp))
    have m7 : m 7 = some (AV) := dV (hall 7 (by simp))
    have m8 : m 8 = some (.int .i64 (Ca.charge : Int)) := dV (hall 8 (by simp))
    have m9 : m 9 = some (.pointer (some ⟨Ba, 1, none⟩)) := dV (hall 9 (by simp))
    have m10 : m 10 = some (.int .i64 aq) := dV (hall 10 (by simp))
    have m11 : m 11 = some (.bool false) := dV (hall 11 (by simp))
    have m12 : m 12 = some (.bool false) := dV (hall 12 (by simp))
    have m13 : m 13 = some (.bool false) := dV (hall 13 (by simp))
    rw [frameM_all (by kernel_rfl) [.int .i64 0, .bool true, .bool true, AV, .int .i64 0, .bool false, .bool false, AV, .int .i64 (Ca.charge : Int), .pointer (some ⟨Ba, 1, none⟩), .int .i64 aq, .bool false, .bool false, .bool false] rfl (fun i hi => by
      rcases i with _ | _ | _ | _ | _ | _ | _ | _ | _ | _ | _ | _ | _ | _ | i
      ·exact m0
      ·exact m1
      ·exact m2
      ·exact m3
      ·exact m4
      ·exact m5
      ·exact m6
      ·exact m7
      ·exact m8
      ·exact m9
      ·exact m10
      ·exact m11
      ·exact m12
      ·exact m13
      ·simp at hi; omega)]
    clear hall m0 m1 m2 m3 m4 m5 m6 m7 m8 m9 m10 m11 m12 m13
    simp only [putAll, Act.put, zA, zC, zB]
    go_wp2_with fail
    go_meet
    exact ⟨rfl, rfl, rfl, rfl, rfl, rfl, Lib.hid (HX1.out.trans (hbx.mono HX1.out.size)), Lib.hid (HX4.out.trans (hbx.mono HX4.out.size)), Lib.hid (HX6.out.trans (hbx.mono HX6.out.size)), Lib.hid (HX8.out.trans (hbx.mono HX8.out.size))⟩
  ·have hEb : (E1 == 0) = false := by simpa using hE
   clear hgo hAV
   go_quiet (fail)
   go_wp2_with fail
   go_meet
   exact ⟨rfl, rfl, rfl, rfl, rfl, rfl, Lib.hid (below_drewN HX1.out _), Lib.hid (below_drewN HX4.out _), Lib.hid (below_drewN HX6.out _), Lib.hid (below_drewN HX8.out _)⟩
 case rest =>
 obtain ⟨rfl, rfl, rfl, rfl, rfl, rfl, HV6_1, HV6_4, HV6_6, HV6_8⟩ := hcut
 obtain ⟨wx, hwx⟩ : ∃ W, W = wc := ⟨_, rfl⟩
 subst hwx
 go_upto_region 8 with (fail)
 go_cut [4, 13, 14, 64] from 0 to 78 (fun s4 s13 s14 s64 wy => s4 = .pointer (some ⟨w.heap.size, 0, none⟩) ∧ s13 = .pointer (some ⟨Bc, 0, none⟩) ∧ s14 = .int .i64 E3 ∧ s64 = .bool false ∧ Hid (Below W1.heap.size W1 wy) ∧ Hid (Below w4.heap.size w4 wy) ∧ Hid (Below w6.heap.size w6 wy) ∧ Hid (Below w8.heap.size w8 wy))
 case first =>
  have HX1 := HV6_1
  have HX4 := HV6_4
  have HX6 := HV6_6
  have HX8 := HV6_8
  obtain ⟨AV, hAV⟩ : ∃ v, v = Value.agg #[.string ⟨bm.toArray⟩, .int .i64 bq, .int .i64 bx, .slice b1 b2 b3, .slice rb1 rb2 rb3, .slice kb1 kb2 kb3, .slice yb1 yb2 yb3] := ⟨_, rfl⟩
  have HAV := Lib.hid hAV
  have hgo : E2 = 0 → Hid (∀ W, Below wx.heap.size wx W → (Calls Tryz.prog 18 #[AV] W fun e w' => e = .returned (.int .i64 0) ∧ Below W.heap.size W w') ∧ (Calls Tryz.prog 19 #[AV] W fun e w' => e = .returned (.int .i64 (Cb.charge : Int)) ∧ Below W.heap.size W w')) := fun h0 => by
   show ∀ W, _ → _
   rw [hAV]
   intro W h
   obtain ⟨h1, h2⟩ := hOb.out W (HX6.out.trans (h.mono HX6.out.size)) h0
   obtain ⟨h3, h4, _⟩ := hMb.out h0
   have h5 := hCK.out ⟨bm, bq, bx, ⟨b1, b2, b3, bl⟩, ⟨rb1, rb2, rb3, bg⟩, ⟨kb1, kb2, kb3, bsg⟩, ⟨yb1, yb2, yb3, bso⟩⟩ W W _ h1 (by rw [h2]; exact h3) (by rw [h2]; exact h4) (Below.refl _ _)
   rw [h2] at h5
   exact h5
  have hS : Hid (∀ W, Below wx.heap.size wx W → W.cell? ⟨w.heap.size, 0, none⟩ = some (.string ⟨nm.toArray⟩) ∧ W.cell? ⟨w.heap.size, 1, none⟩ = some (.int .i64 qu) ∧ W.cell? ⟨w.heap.size, 2, none⟩ = some (.int .i64 nx) ∧ W.cell? ⟨w.heap.size, 3, none⟩ = some (.slice s1 sn s3) ∧ W.cell? ⟨w.heap.size, 4, none⟩ = some (.slice gA gN gC) ∧ W.cell? ⟨w.heap.size, 5, none⟩ = some (.slice t1 tn t3) ∧ W.cell? ⟨w.heap.size, 6, none⟩ = some (.slice l1 ln l3) ∧ W.cell? ⟨Bb, 0, none⟩ = some (.string ⟨bm.toArray⟩) ∧ W.cell? ⟨Bb, 1, none⟩ = some (.int .i64 bq) ∧ W.cell? ⟨Bb, 2, none⟩ = some (.int .i64 bx) ∧ W.cell? ⟨Bb, 3, none⟩ = some (.slice b1 b2 b3) ∧ W.cell? ⟨Bb, 4, none⟩ = some (.slice rb1 rb2 rb3) ∧ W.cell? ⟨Bb, 5, none⟩ = some (.slice kb1 kb2 kb3) ∧ W.cell? ⟨Bb, 6, none⟩ = some (.slice yb1 yb2 yb3)) := fun W h => by
   have k1 := hKt.out W (HX1.out.trans (h.mono HX1.out.size))
   have k2 := hKb.out W (HX6.out.trans (h.mono HX6.out.size))
   exact ⟨k1.cell 0, k1.cell 1, k1.cell 2, k1.cell 3, k1.cell 4, k1.cell 5, k1.cell 6, k2.cell 0, k2.cell 1, k2.cell 2, k2.cell 3, k2.cell 4, k2.cell 5, k2.cell 6⟩
  by_cases hE : E2 = 0
  ·subst hE
   have hgz := hgo rfl
   have hqq : bq = Cb.quota := by rw [← (hOb.out wx HX6.out rfl).2]; rfl
   have hch : ¬ bq < (Cb.charge : Int) := by have := (hMb.out rfl).2.2; omega
   clear hgo hqq hAV
   refine wp_region_good2 (by kernel_rfl) (by kernel_rfl) [(fun v _ => v = .int .i64 0),
    (fun v _ => v = .bool true),
    (fun v _ => v = .bool true),
    (fun v _ => v = AV),
    (fun v _ => v = .int .i64 0),
    (fun v _ => v = .bool false),
    (fun v _ => v = .bool false),
    (fun v _ => v = AV),
    (fun v _ => v = .int .i64 (Cb.charge : Int)),
    (fun v _ => v = .pointer (some ⟨Bb, 1, none⟩)),
    (fun v _ => v = .int .i64 bq),
    (fun v _ => v = .bool false),
    (fun v _ => v = .bool false),
    (fun v _ => v = .bool false)] ?_ ?_ ?_
   ·repeat' (first | exact stays_nil | refine stays_cons ?_ ?_ | exact Stays.pure)
   ·intro i oo ho m2 W hb0 hmi hcl hdeps AA KK hA hK
    rcases i with _ | _ | _ | _ | _ | _ | _ | _ | _ | _ | _ | _ | _ | _ | i
    ·injection ho with ho
     subst ho
     have ef12 : AA.tmps[12]?.getD undef = .int .i64 0 := tF hA
     clear hA hdeps hcl hmi
     have hK0 : KK (AA.put (some 51) _) _ := hK (.int .i64 0) _ (Below.refl _ _) (Eq.refl _)
     clear hK
     go_simp
     exact hK0
    ·injection ho with ho
     subst ho
     have hx0 : m2 0 = some (.int .i64 0) := dV (hdeps ⟨0, .data⟩ (by simp) rfl)
     have e0 : AA.tmps[51]?.getD undef = .int .i64 0 := tO hA hx0
     clear hA hdeps hcl hmi hx0
     have hK0 : KK (AA.put (some 52) _) _ := hK (.bool true) _ (Below.refl _ _) (Eq.refl _)
     clear hK
     go_simp
     exact hK0
    ·injection ho with ho
     subst ho
     have hx1 : m2 1 = some (.bool true) := dV (hdeps ⟨1, .data⟩ (by simp) rfl)
     have e1 : AA.tmps[52]?.getD undef = .bool true := tO hA hx1
     clear hA hdeps hcl hmi hx1
     have hK0 : KK (AA.put (some 53) _) _ := hK (.bool true) _ (Below.refl _ _) (Eq.refl _)
     clear hK
     go_simp
     exact hK0
    ·injection ho with ho
     subst ho
     have hx2 : m2 2 = some (.bool true) := dV (hdeps ⟨2, .guard⟩ (by simp) rfl)
     have e2 : AA.tmps[53]?.getD undef = .bool true := tO hA hx2
     have ef11 : AA.tmps[11]?.getD undef = .pointer (some ⟨Bb, 0, none⟩) := tF hA
     clear hA hdeps hcl hmi hx2
     rw [if_pos (wanted_of (k := 53) rfl rfl e2)]
     obtain ⟨c0, c1, c2, c3, c4, c5, c6, d0, d1, d2, d3, d4, d5, d6⟩ := hS.out W hb0
     have hK0 : KK (AA.put (some 54) _) _ := hK (AV) _ (Below.refl _ _) (Eq.refl _)
     clear hK
     rw [HAV.out] at hK0
     go_simp
     exact hK0
    ·injection ho with ho
     subst ho
     have hx2 : m2 2 = some (.bool true) := dV (hdeps ⟨2, .guard⟩ (by simp) rfl)
     have e2 : AA.tmps[53]?.getD undef = .bool true := tO hA hx2
     have hx3 : m2 3 = some (AV) := dV (hdeps ⟨3, .data⟩ (by simp) rfl)
     have e3 : AA.tmps[54]?.getD undef = AV := tO hA hx3
     clear hA hdeps hcl hmi hx2 hx3
     rw [if_pos (wanted_of (k := 53) rfl rfl e2)]
     have hKK := hK
     clear hK
     go_simp
     refine ((hgz.out W hb0).1).mono ?_
     rintro e w5 ⟨rfl, hbn⟩
     exact hKK _ _ hbn (Eq.refl _)
    ·injection ho with ho
     subst ho
     have hx2 : m2 2 = some (.bool true) := dV (hdeps ⟨2, .guard⟩ (by simp) rfl)
     have e2 : AA.tmps[53]?.getD undef = .bool true := tO hA hx2
     have hx4 : m2 4 = some (.int .i64 0) := dV (hdeps ⟨4, .data⟩ (by simp) rfl)
     have e4 : AA.tmps[55]?.getD undef = .int .i64 0 := tO hA hx4
     clear hA hdeps hcl hmi hx2 hx4
     rw [if_pos (wanted_of (k := 53) rfl rfl e2)]
     have hK0 : KK (AA.put (some 56) _) _ := hK (.bool false) _ (Below.refl _ _) (Eq.refl _)
     clear hK
     go_simp
     exact hK0
    ·injection ho with ho
     subst ho
     have hx2 : m2 2 = some (.bool true) := dV (hdeps ⟨2, .guard⟩ (by simp) rfl)
     have e2 : AA.tmps[53]?.getD undef = .bool true := tO hA hx2
     have hx5 : m2 5 = some (.bool false) := dV (hdeps ⟨5, .data⟩ (by simp) rfl)
     have e5 : AA.tmps[56]?.getD undef = .bool false := tO hA hx5
     clear hA hdeps hcl hmi hx2 hx5
     rw [if_pos (wanted_of (k := 53) rfl rfl e2)]
     have hK0 : KK (AA.put (some 57) _) _ := hK (.bool false) _ (Below.refl _ _) (Eq.refl _)
     clear hK
     go_simp
     exact hK0
    ·injection ho with ho
     subst ho
     have hx6 : m2 6 = some (.bool false) := dV (hdeps ⟨6, .guard⟩ (by simp) rfl)
     have e6 : AA.tmps[57]?.getD undef = .bool false := tO hA hx6
     have ef11 : AA.tmps[11]?.getD undef = .pointer (some ⟨Bb, 0, none⟩) := tF hA
     clear hA hdeps hcl hmi hx6
     rw [if_pos (wanted_of (k := 57) rfl rfl e6)]
     obtain ⟨c0, c1, c2, c3, c4, c5, c6, d0, d1, d2, d3, d4, d5, d6⟩ := hS.out W hb0
     have hK0 : KK (AA.put (some 58) _) _ := hK (AV) _ (Below.refl _ _) (Eq.refl _)
     clear hK
     rw [HAV.out] at hK0
     go_simp
     exact hK0
    ·injection ho with ho
     subst ho
     have hx6 : m2 6 = some (.bool false) := dV (hdeps ⟨6, .guard⟩ (by simp) rfl)
     have e6 : AA.tmps[57]?.getD undef = .bool false := tO hA hx6
     have hx7 : m2 7 = some (AV) := dV (hdeps ⟨7, .data⟩ (by simp) rfl)
     have e7 : AA.tmps[58]?.getD undef = AV := tO hA hx7
     clear hA hdeps hcl hmi hx6 hx7
     rw [if_pos (wanted_of (k := 57) rfl rfl e6)]
     have hKK := hK
     clear hK
     go_simp
     refine ((hgz.out W hb0).2).mono ?_
     rintro e w5 ⟨rfl, hbn⟩
     exact hKK _ _ hbn (Eq.refl _)
    ·injection ho with ho
     subst ho
     have hx6 : m2 6 = some (.bool false) := dV (hdeps ⟨6, .guard⟩ (by simp) rfl)
     have e6 : AA.tmps[57]?.getD undef = .bool false := tO hA hx6
     have ef11 : AA.tmps[11]?.getD undef = .pointer (some ⟨Bb, 0, none⟩) := tF hA
     clear hA hdeps hcl hmi hx6
     rw [if_pos (wanted_of (k := 57) rfl rfl e6)]
     have hK0 : KK (AA.put (some 60) _) _ := hK (.pointer (some ⟨Bb, 1, none⟩)) _ (Below.refl _ _) (Eq.refl _)
     clear hK
     go_simp
     exact hK0
    ·injection ho with ho
     subst ho
     have hx6 : m2 6 = some (.bool false) := dV (hdeps ⟨6, .guard⟩ (by simp) rfl)
     have e6 : AA.tmps[57]?.getD undef = .bool false := tO hA hx6
     have hx9 : m2 9 = some (.pointer (some ⟨Bb, 1, none⟩)) := dV (hdeps ⟨9, .data⟩ (by simp) rfl)
     have e9 : AA.tmps[60]?.getD undef = .pointer (some ⟨Bb, 1, none⟩) := tO hA hx9
     clear hA hdeps hcl hmi hx6 hx9
     rw [if_pos (wanted_of (k := 57) rfl rfl e6)]
     obtain ⟨c0, c1, c2, c3, c4, c5, c6, d0, d1, d2, d3, d4, d5, d6⟩ := hS.out W hb0
     have hK0 : KK (AA.put (some 61) _) _ := hK (.int .i64 bq) _ (Below.refl _ _) (Eq.refl _)
     clear hK
     go_simp
     exact hK0
    ·injection ho with ho
     subst ho
     have hx6 : m2 6 = some (.bool false) := dV (hdeps ⟨6, .guard⟩ (by simp) rfl)
     have e6 : AA.tmps[57]?.getD undef = .bool false := tO hA hx6
     have hx8 : m2 8 = some (.int .i64 (Cb.charge : Int)) := dV (hdeps ⟨8, .data⟩ (by simp) rfl)
     have e8 : AA.tmps[59]?.getD undef = .int .i64 (Cb.charge : Int) := tO hA hx8
     have hx10 : m2 10 = some (.int .i64 bq) := dV (hdeps ⟨10, .data⟩ (by simp) rfl)
     have e10 : AA.tmps[61]?.getD undef = .int .i64 bq := tO hA hx10
     clear hA hdeps hcl hmi hx6 hx8 hx10
     rw [if_pos (wanted_of (k := 57) rfl rfl e6)]
     have hK0 : KK (AA.put (some 62) _) _ := hK (.bool false) _ (Below.refl _ _) (Eq.refl _)
     clear hK
     go_simp
     exact hK0
    ·injection ho with ho
     subst ho
     have hx2 : m2 2 = some (.bool true) := dV (hdeps ⟨2, .guard⟩ (by simp) rfl)
     have e2 : AA.tmps[53]?.getD undef = .bool true := tO hA hx2
     have hx6 : m2 6 = some (.bool false) := dV (hdeps ⟨6, .data⟩ (by simp) rfl)
     have e6 : AA.tmps[57]?.getD undef = .bool false := tO hA hx6
     have hx11 : m2 11 = some (.bool false) := dV (hdeps ⟨11, .data⟩ (by simp) rfl)
     have e11 : AA.tmps[62]?.getD undef = .bool false := tO hA hx11
     clear hA hdeps hcl hmi hx2 hx6 hx11
     rw [if_pos (wanted_of (k := 53) rfl rfl e2)]
     have hK0 : KK (AA.put (some 63) _) _ := hK (.bool false) _ (Below.refl _ _) (Eq.refl _)
     clear hK
     go_simp
     exact hK0
    ·injection ho with ho
     subst ho
     have hx2 : m2 2 = some (.bool true) := dV (hdeps ⟨2, .data⟩ (by simp) rfl)
     have e2 : AA.tmps[53]?.getD undef = .bool true := tO hA hx2
     have hx12 : m2 12 = some (.bool false) := dV (hdeps ⟨12, .data⟩ (by simp) rfl)
     have e12 : AA.tmps[63]?.getD undef = .bool false := tO hA hx12
     clear hA hdeps hcl hmi hx2 hx12
     have hK0 : KK (AA.put (some 64) _) _ := hK (.bool false) _ (Below.refl _ _) (Eq.refl _)
     clear hK
     go_simp
     exact hK0
    ·simp at ho
   ·intro m W hbx hall
    have m0 : m 0 = some (.int .i64 0) := dV (hall 0 (by simp))
    have m1 : m 1 = some (.bool true) := dV (hall 1 (by simp))
    have m2 : m 2 = some (.bool true) := dV (hall 2 (by simp))
    have m3 : m 3 = some (AV) := dV (hall 3 (by simp))
    have m4 : m 4 = some (.int .i64 0) := dV (hall 4 (by simp))
    have m5 : m 5 = some (.bool false) := dV (hall 5 (by simp))
    have m6 : m 6 = some (.bool false) := dV (hall 6 (by simp))
    have m7 : m 7 = some (AV) := dV (hall 7 (by simp))
    have m8 : m 8 = some (.int .i64 (Cb.charge : Int)) := dV (hall 8 (by simp))
    have m9 : m 9 = some (.pointer (some ⟨Bb, 1, none⟩)) := dV (hall 9 (by simp))
    have m10 : m 10 = some (.int .i64 bq) := dV (hall 10 (by simp))
    have m11 : m 11 = some (.bool false) := dV (hall 11 (by simp))
    have m12 : m 12 = some (.bool false) := dV (hall 12 (by simp))
    have m13 : m 13 = some (.bool false) := dV (hall 13 (by simp))
    rw [frameM_all (by kernel_rfl) [.int .i64 0, .bool true, .bool true, AV, .int .i64 0, .bool false, .bool false, AV, .int .i64 (Cb.charge : Int), .pointer (some ⟨Bb, 1, none⟩), .int .i64 bq, .bool false, .bool false, .bool false] rfl (fun i hi => by
      rcases i with _ | _ | _ | _ | _ | _ | _ | _ | _ | _ | _ | _ | _ | _ | i
      ·exact m0
      ·exact m1
      ·exact m2
      ·exact m3
      ·exact m4
      ·exact m5
      ·exact m6
      ·exact m7
      ·exact m8
      ·exact m9
      ·exact m10
      ·exact m11
      ·exact m12
      ·exact m13
      ·simp at hi; omega)]
    clear hall m0 m1 m2 m3 m4 m5 m6 m7 m8 m9 m10 m11 m12 m13
    simp only [putAll, Act.put, zA, zC, zB]
    go_wp2_with fail
    go_meet
    exact ⟨rfl, rfl, rfl, rfl, Lib.hid (HX1.out.trans (hbx.mono HX1.out.size)), Lib.hid (HX4.out.trans (hbx.mono HX4.out.size)), Lib.hid (HX6.out.trans (hbx.mono HX6.out.size)), Lib.hid (HX8.out.trans (hbx.mono HX8.out.size))⟩
  ·have hEb : (E2 == 0) = false := by simpa using hE
   clear hgo hAV
   go_quiet (fail)
   go_wp2_with fail
   go_meet
   exact ⟨rfl, rfl, rfl, rfl, Lib.hid (below_drewN HX1.out _), Lib.hid (below_drewN HX4.out _), Lib.hid (below_drewN HX6.out _), Lib.hid (below_drewN HX8.out _)⟩
 case rest =>
 obtain ⟨rfl, rfl, rfl, rfl, HV8_1, HV8_4, HV8_6, HV8_8⟩ := hcut
 obtain ⟨wy, hwx⟩ : ∃ W, W = wc := ⟨_, rfl⟩
 subst hwx
 go_upto_region 10 with (fail)
 have HX1 := HV8_1
 have HX4 := HV8_4
 have HX6 := HV8_6
 have HX8 := HV8_8
 obtain ⟨AV, hAV⟩ : ∃ v, v = Value.agg #[.string ⟨cm.toArray⟩, .int .i64 cq, .int .i64 cx, .slice z1 z2 z3, .slice gc1 gc2 gc3, .slice oc1 oc2 oc3, .slice vc1 vc2 vc3] := ⟨_, rfl⟩
 have HAV := Lib.hid hAV
 have hgo : E3 = 0 → Hid (∀ W, Below wy.heap.size wy W → (Calls Tryz.prog 18 #[AV] W fun e w' => e = .returned (.int .i64 0) ∧ Below W.heap.size W w') ∧ (Calls Tryz.prog 19 #[AV] W fun e w' => e = .returned (.int .i64 (Cc.charge : Int)) ∧ Below W.heap.size W w')) := fun h0 => by
  show ∀ W, _ → _
  rw [hAV]
  intro W h
  obtain ⟨h1, h2⟩ := hOc.out W (HX8.out.trans (h.mono HX8.out.size)) h0
  obtain ⟨h3, h4, _⟩ := hMc.out h0
  have h5 := hCK.out ⟨cm, cq, cx, ⟨z1, z2, z3, cl⟩, ⟨gc1, gc2, gc3, cg⟩, ⟨oc1, oc2, oc3, csg⟩, ⟨vc1, vc2, vc3, cso⟩⟩ W W _ h1 (by rw [h2]; exact h3) (by rw [h2]; exact h4) (Below.refl _ _)
  rw [h2] at h5
  exact h5
 have hS : Hid (∀ W, Below wy.heap.size wy W → W.cell? ⟨w.heap.size, 0, none⟩ = some (.string ⟨nm.toArray⟩) ∧ W.cell? ⟨w.heap.size, 1, none⟩ = some (.int .i64 qu) ∧ W.cell? ⟨w.heap.size, 2, none⟩ = some (.int .i64 nx) ∧ W.cell? ⟨w.heap.size, 3, none⟩ = some (.slice s1 sn s3) ∧ W.cell? ⟨w.heap.size, 4, none⟩ = some (.slice gA gN gC) ∧ W.cell? ⟨w.heap.size, 5, none⟩ = some (.slice t1 tn t3) ∧ W.cell? ⟨w.heap.size, 6, none⟩ = some (.slice l1 ln l3) ∧ W.cell? ⟨Bc, 0, none⟩ = some (.string ⟨cm.toArray⟩) ∧ W.cell? ⟨Bc, 1, none⟩ = some (.int .i64 cq) ∧ W.cell? ⟨Bc, 2, none⟩ = some (.int .i64 cx) ∧ W.cell? ⟨Bc, 3, none⟩ = some (.slice z1 z2 z3) ∧ W.cell? ⟨Bc, 4, none⟩ = some (.slice gc1 gc2 gc3) ∧ W.cell? ⟨Bc, 5, none⟩ = some (.slice oc1 oc2 oc3) ∧ W.cell? ⟨Bc, 6, none⟩ = some (.slice vc1 vc2 vc3)) := fun W h => by
  have k1 := hKt.out W (HX1.out.trans (h.mono HX1.out.size))
  have k2 := hKc.out W (HX8.out.trans (h.mono HX8.out.size))
  exact ⟨k1.cell 0, k1.cell 1, k1.cell 2, k1.cell 3, k1.cell 4, k1.cell 5, k1.cell 6, k2.cell 0, k2.cell 1, k2.cell 2, k2.cell 3, k2.cell 4, k2.cell 5, k2.cell 6⟩
 by_cases hE : E3 = 0
 ·subst hE
  have hgz := hgo rfl
  have hCE := (hMc.out rfl).2.2.2
  obtain ⟨TV, hTV⟩ : ∃ v, v = Value.agg #[.string ⟨nm.toArray⟩, .int .i64 qu, .int .i64 nx, .slice s1 sn s3, .slice gA gN gC, .slice t1 tn t3, .slice l1 ln l3] := ⟨_, rfl⟩
  have HTV := Lib.hid hTV
  have hct : Hid (∀ W, Below wy.heap.size wy W → Calls Tryz.prog 19 #[TV] W fun e w' => e = .returned (.int .i64 (C.charge : Int)) ∧ Below W.heap.size W w') := fun W h => by rw [hTV]; exact hCT.out hCE W (HX1.out.trans (h.mono HX1.out.size))
  clear hTV
  have hch : (Cc.charge : Int) ≤ (C.charge : Int) := by have := (hMc.out rfl).2.2.1; omega
  clear hgo hCE hAV
  refine wp_region_good2 (by kernel_rfl) (by kernel_rfl) [(fun v _ => v = .int .i64 0),
   (fun v _ => v = .bool false),
   (fun v _ => v = .bool false),
   (fun v _ => v = AV),
   (fun v _ => v = .int .i64 0),
   (fun v _ => v = .bool true),
   (fun v _ => v = .bool true),
   (fun v _ => v = AV),
   (fun v _ => v = .int .i64 (Cc.charge : Int)),
   (fun v _ => v = TV),
   (fun v _ => v = .int .i64 (C.charge : Int)),
   (fun v _ => v = .bool true),
   (fun v _ => v = .bool true),
   (fun v _ => v = .bool true),
   (fun v _ => v = .bool true)] ?_ ?_ ?_
  ·repeat' (first | exact stays_nil | refine stays_cons ?_ ?_ | exact Stays.pure)
  ·intro i oo ho m2 W hb0 hmi hcl hdeps AA KK hA hK
   rcases i with _ | _ | _ | _ | _ | _ | _ | _ | _ | _ | _ | _ | _ | _ | _ | i
   ·injection ho with ho
    subst ho
    have ef14 : AA.tmps[14]?.getD undef = .int .i64 0 := tF hA
    clear hA hdeps hcl hmi
    have hK0 : KK (AA.put (some 65) _) _ := hK (.int .i64 0) _ (Below.refl _ _) (Eq.refl _)
    clear hK
    go_simp
    exact hK0
   ·injection ho with ho
    subst ho
    have hx0 : m2 0 = some (.int .i64 0) := dV (hdeps ⟨0, .data⟩ (by simp) rfl)
    have e0 : AA.tmps[65]?.getD undef = .int .i64 0 := tO hA hx0
    clear hA hdeps hcl hmi hx0
    have hK0 : KK (AA.put (some 66) _) _ := hK (.bool false) _ (Below.refl _ _) (Eq.refl _)
    clear hK
    go_simp
    exact hK0
   ·injection ho with ho
    subst ho
    have hx1 : m2 1 = some (.bool false) := dV (hdeps ⟨1, .data⟩ (by simp) rfl)
    have e1 : AA.tmps[66]?.getD undef = .bool false := tO hA hx1
    clear hA hdeps hcl hmi hx1
    have hK0 : KK (AA.put (some 67) _) _ := hK (.bool false) _ (Below.refl _ _) (Eq.refl _)
    clear hK
    go_simp
    exact hK0
   ·injection ho with ho
    subst ho
    have hx2 : m2 2 = some (.bool false) := dV (hdeps ⟨2, .guard⟩ (by simp) rfl)
    have e2 : AA.tmps[67]?.getD undef = .bool false := tO hA hx2
    have ef13 : AA.tmps[13]?.getD undef = .pointer (some ⟨Bc, 0, none⟩) := tF hA
    clear hA hdeps hcl hmi hx2
    rw [if_pos (wanted_of (k := 67) rfl rfl e2)]
    obtain ⟨c0, c1, c2, c3, c4, c5, c6, d0, d1, d2, d3, d4, d5, d6⟩ := hS.out W hb0
    have hK0 : KK (AA.put (some 68) _) _ := hK (AV) _ (Below.refl _ _) (Eq.refl _)
    clear hK
    rw [HAV.out] at hK0
    go_simp
    exact hK0
   ·injection ho with ho
    subst ho
    have hx2 : m2 2 = some (.bool false) := dV (hdeps ⟨2, .guard⟩ (by simp) rfl)
    have e2 : AA.tmps[67]?.getD undef = .bool false := tO hA hx2
    have hx3 : m2 3 = some (AV) := dV (hdeps ⟨3, .data⟩ (by simp) rfl)
    have e3 : AA.tmps[68]?.getD undef = AV := tO hA hx3
    clear hA hdeps hcl hmi hx2 hx3
    rw [if_pos (wanted_of (k := 67) rfl rfl e2)]
    have hKK := hK
    clear hK
    go_simp
    refine ((hgz.out W hb0).1).mono ?_
    rintro e w5 ⟨rfl, hbn⟩
    exact hKK _ _ hbn (Eq.refl _)
   ·injection ho with ho
    subst ho
    have hx2 : m2 2 = some (.bool false) := dV (hdeps ⟨2, .guard⟩ (by simp) rfl)
    have e2 : AA.tmps[67]?.getD undef = .bool false := tO hA hx2
    have hx4 : m2 4 = some (.int .i64 0) := dV (hdeps ⟨4, .data⟩ (by simp) rfl)
    have e4 : AA.tmps[69]?.getD undef = .int .i64 0 := tO hA hx4
    clear hA hdeps hcl hmi hx2 hx4
    rw [if_pos (wanted_of (k := 67) rfl rfl e2)]
    have hK0 : KK (AA.put (some 70) _) _ := hK (.bool true) _ (Below.refl _ _) (Eq.refl _)
    clear hK
    go_simp
    exact hK0
   ·injection ho with ho
    subst ho
    have hx2 : m2 2 = some (.bool false) := dV (hdeps ⟨2, .guard⟩ (by simp) rfl)
    have e2 : AA.tmps[67]?.getD undef = .bool false := tO hA hx2
    have hx5 : m2 5 = some (.bool true) := dV (hdeps ⟨5, .data⟩ (by simp) rfl)
    have e5 : AA.tmps[70]?.getD undef = .bool true := tO hA hx5
    clear hA hdeps hcl hmi hx2 hx5
    rw [if_pos (wanted_of (k := 67) rfl rfl e2)]
    have hK0 : KK (AA.put (some 71) _) _ := hK (.bool true) _ (Below.refl _ _) (Eq.refl _)
    clear hK
    go_simp
    exact hK0
   ·injection ho with ho
    subst ho
    have hx6 : m2 6 = some (.bool true) := dV (hdeps ⟨6, .guard⟩ (by simp) rfl)
    have e6 : AA.tmps[71]?.getD undef = .bool true := tO hA hx6
    have ef13 : AA.tmps[13]?.getD undef = .pointer (some ⟨Bc, 0, none⟩) := tF hA
    clear hA hdeps hcl hmi hx6
    rw [if_pos (wanted_of (k := 71) rfl rfl e6)]
    obtain ⟨c0, c1, c2, c3, c4, c5, c6, d0, d1, d2, d3, d4, d5, d6⟩ := hS.out W hb0
    have hK0 : KK (AA.put (some 72) _) _ := hK (AV) _ (Below.refl _ _) (Eq.refl _)
    clear hK
    rw [HAV.out] at hK0
    go_simp
    exact hK0
   ·injection ho with ho
    subst ho
    have hx6 : m2 6 = some (.bool true) := dV (hdeps ⟨6, .guard⟩ (by simp) rfl)
    have e6 : AA.tmps[71]?.getD undef = .bool true := tO hA hx6
    have hx7 : m2 7 = some (AV) := dV (hdeps ⟨7, .data⟩ (by simp) rfl)
    have e7 : AA.tmps[72]?.getD undef = AV := tO hA hx7
    clear hA hdeps hcl hmi hx6 hx7
    rw [if_pos (wanted_of (k := 71) rfl rfl e6)]
    have hKK := hK
    clear hK
    go_simp
    refine ((hgz.out W hb0).2).mono ?_
    rintro e w5 ⟨rfl, hbn⟩
    exact hKK _ _ hbn (Eq.refl _)
   ·injection ho with ho
    subst ho
    have hx6 : m2 6 = some (.bool true) := dV (hdeps ⟨6, .guard⟩ (by simp) rfl)
    have e6 : AA.tmps[71]?.getD undef = .bool true := tO hA hx6
    have ef4 : AA.tmps[4]?.getD undef = .pointer (some ⟨w.heap.size, 0, none⟩) := tF hA
    clear hA hdeps hcl hmi hx6
    rw [if_pos (wanted_of (k := 71) rfl rfl e6)]
    obtain ⟨c0, c1, c2, c3, c4, c5, c6, d0, d1, d2, d3, d4, d5, d6⟩ := hS.out W hb0
    have hK0 : KK (AA.put (some 74) _) _ := hK (TV) _ (Below.refl _ _) (Eq.refl _)
    clear hK
    rw [HTV.out] at hK0
    go_simp
    exact hK0
   ·injection ho with ho
    subst ho
    have hx6 : m2 6 = some (.bool true) := dV (hdeps ⟨6, .guard⟩ (by simp) rfl)
    have e6 : AA.tmps[71]?.getD undef = .bool true := tO hA hx6
    have hx9 : m2 9 = some (TV) := dV (hdeps ⟨9, .data⟩ (by simp) rfl)
    have e9 : AA.tmps[74]?.getD undef = TV := tO hA hx9
    clear hA hdeps hcl hmi hx6 hx9
    rw [if_pos (wanted_of (k := 71) rfl rfl e6)]
    have hKK := hK
    clear hK
    go_simp
    refine (hct.out W hb0).mono ?_
    rintro e w5 ⟨rfl, hbn⟩
    exact hKK _ _ hbn (Eq.refl _)
   ·injection ho with ho
    subst ho
    have hx6 : m2 6 = some (.bool true) := dV (hdeps ⟨6, .guard⟩ (by simp) rfl)
    have e6 : AA.tmps[71]?.getD undef = .bool true := tO hA hx6
    have hx8 : m2 8 = some (.int .i64 (Cc.charge : Int)) := dV (hdeps ⟨8, .data⟩ (by simp) rfl)
    have e8 : AA.tmps[73]?.getD undef = .int .i64 (Cc.charge : Int) := tO hA hx8
    have hx10 : m2 10 = some (.int .i64 (C.charge : Int)) := dV (hdeps ⟨10, .data⟩ (by simp) rfl)
    have e10 : AA.tmps[75]?.getD undef = .int .i64 (C.charge : Int) := tO hA hx10
    clear hA hdeps hcl hmi hx6 hx8 hx10
    rw [if_pos (wanted_of (k := 71) rfl rfl e6)]
    have hK0 : KK (AA.put (some 76) _) _ := hK (.bool true) _ (Below.refl _ _) (Eq.refl _)
    clear hK
    go_simp
    exact hK0
   ·injection ho with ho
    subst ho
    have hx2 : m2 2 = some (.bool false) := dV (hdeps ⟨2, .guard⟩ (by simp) rfl)
    have e2 : AA.tmps[67]?.getD undef = .bool false := tO hA hx2
    have hx6 : m2 6 = some (.bool true) := dV (hdeps ⟨6, .data⟩ (by simp) rfl)
    have e6 : AA.tmps[71]?.getD undef = .bool true := tO hA hx6
    have hx11 : m2 11 = some (.bool true) := dV (hdeps ⟨11, .data⟩ (by simp) rfl)
    have e11 : AA.tmps[76]?.getD undef = .bool true := tO hA hx11
    clear hA hdeps hcl hmi hx2 hx6 hx11
    rw [if_pos (wanted_of (k := 67) rfl rfl e2)]
    have hK0 : KK (AA.put (some 77) _) _ := hK (.bool true) _ (Below.refl _ _) (Eq.refl _)
    clear hK
    go_simp
    exact hK0
   ·injection ho with ho
    subst ho
    have hx2 : m2 2 = some (.bool false) := dV (hdeps ⟨2, .data⟩ (by simp) rfl)
    have e2 : AA.tmps[67]?.getD undef = .bool false := tO hA hx2
    have hx12 : m2 12 = some (.bool true) := dV (hdeps ⟨12, .data⟩ (by simp) rfl)
    have e12 : AA.tmps[77]?.getD undef = .bool true := tO hA hx12
    clear hA hdeps hcl hmi hx2 hx12
    have hK0 : KK (AA.put (some 78) _) _ := hK (.bool true) _ (Below.refl _ _) (Eq.refl _)
    clear hK
    go_simp
    exact hK0
   ·injection ho with ho
    subst ho
    have hx13 : m2 13 = some (.bool true) := dV (hdeps ⟨13, .data⟩ (by simp) rfl)
    have e13 : AA.tmps[78]?.getD undef = .bool true := tO hA hx13
    clear hA hdeps hcl hmi hx13
    have hK0 : KK (AA.put (some 8) _) _ := hK (.bool true) _ (Below.refl _ _) (Eq.refl _)
    clear hK
    go_simp
    exact hK0
   ·simp at ho
  ·intro m W hbx hall
   have m0 : m 0 = some (.int .i64 0) := dV (hall 0 (by simp))
   have m1 : m 1 = some (.bool false) := dV (hall 1 (by simp))
   have m2 : m 2 = some (.bool false) := dV (hall 2 (by simp))
   have m3 : m 3 = some (AV) := dV (hall 3 (by simp))
   have m4 : m 4 = some (.int .i64 0) := dV (hall 4 (by simp))
   have m5 : m 5 = some (.bool true) := dV (hall 5 (by simp))
   have m6 : m 6 = some (.bool true) := dV (hall 6 (by simp))
   have m7 : m 7 = some (AV) := dV (hall 7 (by simp))
   have m8 : m 8 = some (.int .i64 (Cc.charge : Int)) := dV (hall 8 (by simp))
   have m9 : m 9 = some (TV) := dV (hall 9 (by simp))
   have m10 : m 10 = some (.int .i64 (C.charge : Int)) := dV (hall 10 (by simp))
   have m11 : m 11 = some (.bool true) := dV (hall 11 (by simp))
   have m12 : m 12 = some (.bool true) := dV (hall 12 (by simp))
   have m13 : m 13 = some (.bool true) := dV (hall 13 (by simp))
   have m14 : m 14 = some (.bool true) := dV (hall 14 (by simp))
   rw [frameM_all (by kernel_rfl) [.int .i64 0, .bool false, .bool false, AV, .int .i64 0, .bool true, .bool true, AV, .int .i64 (Cc.charge : Int), TV, .int .i64 (C.charge : Int), .bool true, .bool true, .bool true, .bool true] rfl (fun i hi => by
     rcases i with _ | _ | _ | _ | _ | _ | _ | _ | _ | _ | _ | _ | _ | _ | _ | i
     ·exact m0
     ·exact m1
     ·exact m2
     ·exact m3
     ·exact m4
     ·exact m5
     ·exact m6
     ·exact m7
     ·exact m8
     ·exact m9
     ·exact m10
     ·exact m11
     ·exact m12
     ·exact m13
     ·exact m14
     ·simp at hi; omega)]
   clear hall m0 m1 m2 m3 m4 m5 m6 m7 m8 m9 m10 m11 m12 m13 m14
   simp only [putAll, Act.put, zA, zC, zB]
   go_wp2_with fail
   go_ret
   exact ⟨rfl, hBW.out _ (HX1.out.trans (hbx.mono HX1.out.size))⟩
 ·have hEb : (E3 != 0) = true := by simpa using hE
  clear hgo hAV
  go_quiet (fail)
  go_wp2_with fail
  go_ret
  exact ⟨rfl, hBW.out _ (below_drewN HX1.out _)⟩
end Go.Proofs.YteafdncnnamakaaGreatDoor
