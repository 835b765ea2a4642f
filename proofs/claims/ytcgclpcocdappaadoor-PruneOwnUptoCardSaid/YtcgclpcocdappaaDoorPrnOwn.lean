/-
  PruneOwn: the tenant that is handed in stays; what prune.Prune tells shares nothing with it: the law's walk.
-/
import Derived.Test.YtcgclpcocdappaaDoorPrnAlive
namespace Go.Proofs.YtcgclpcocdappaaDoor
open Go.RowKit

def prN (V : Int × Nat × TenC) : Int := if V.1 = 0 then (V.2.1 : Int) else 0
def prC (V : Int × Nat × TenC) : TenC := if V.1 = 0 then V.2.2 else ⟨[], 0, 0, [], [], [], []⟩
def zeroTen : TenR := ⟨[], 0, 0, ⟨none, 0, 0, []⟩, ⟨none, 0, 0, []⟩, ⟨none, 0, 0, []⟩, ⟨none, 0, 0, []⟩⟩
theorem zeroTen_own (w : World) (base : Nat) : TenO w base zeroTen :=
  ⟨⟨rfl, World.ownsRow_nil _ _ _ _⟩, (fun y hy => by cases hy), ⟨rfl, World.ownsRow_nil _ _ _ _⟩, ⟨rfl, World.ownsRow_nil _ _ _ _⟩, (fun y hy => by cases hy), ⟨rfl, World.ownsRow_nil _ _ _ _⟩⟩
theorem without_sz {s : SetC} (h : s.sz) (L : List BS) : (s.without L).sz :=
  ⟨h.path, h.org, h.body, Nat.le_trans (List.length_filter_le _ _) h.snaps, fun y hy => h.each y (List.mem_filter.1 hy).1, h.own, h.props⟩
theorem prune_sz {c : TenC} (h : c.sz) (p : BS) (keep : Int) : (prC (c.prune p keep)).sz := by
  unfold prC
  by_cases h0 : (c.prune p keep).1 = 0
  · rw [if_pos h0]
    unfold TenC.prune
    split
    · exact h
    split
    · exact h
    split
    · exact h
    split
    · exact h
    rename_i s hs
    exact h.putS (without_sz (h.eachS _ (List.mem_of_getElem? hs)) _)
  · rw [if_neg h0]
    exact ⟨by decide, by decide, (fun y hy => by cases hy), by decide, (fun y hy => by cases hy), by decide, (fun y hy => by cases hy), by decide, (fun y hy => by cases hy)⟩
def PruneTold (w : World) (V : Int × Nat × TenC) (e : Ending) (w' : World) : Prop := ∃ y : TenR, e = .returned (.tuple #[y.val, .int .i64 (prN V), .int .i64 V.1]) ∧ Below w.heap.size w w' ∧ TenO w' w.heap.size y ∧ y.con = prC V
theorem prune_told {w w' : World} {V : Int × Nat × TenC} {e : Ending} (h : PrunePost w V e w') : PruneTold w V e w' := by
  obtain ⟨v, ni, rfl, hb, ⟨h1, rfl, rfl⟩ | ⟨h1, rfl, y, rfl, ho, hy⟩⟩ := h
  · refine ⟨zeroTen, ?_, hb, zeroTen_own _ _, ?_⟩
    · unfold prN
      rw [if_neg h1]
      rfl
    · unfold prC
      rw [if_neg h1]
      rfl
  · refine ⟨y, ?_, hb, ho, ?_⟩
    · unfold prN
      rw [if_pos h1]
    · unfold prC
      rw [if_pos h1]
      exact hy
theorem pruneT_any (t : TenR) (p : BS) (keep : Int) (w : World) (B : Nat) (hB : B ≤ w.heap.size) (hr : t.rd w B) (hz : t.sz) (hmx : HasMax w) :
    Calls Tryd.prog 6 #[t.val, .string ⟨p.toArray⟩, .int .i64 keep] w (PruneTold w (t.con.prune p keep)) :=
  (prune_any t p keep w B hB hr hz hmx).mono fun _ _ h => prune_told h
set_option maxRecDepth 100000 in
set_option maxHeartbeats 8000000 in
theorem pruneOwn_any (t : TenR) (p : BS) (keep : Int) (w : World) (hr : t.rd w w.heap.size) (hz : t.sz) (hst : t.stages.n ≤ 500000000000) (hmx : HasMax w) :
    Calls Tryd.prog 3 #[t.val, .string ⟨p.toArray⟩, .int .i64 keep] w fun e w' => e = .returned (.bool true) ∧ Below w.heap.size w w' := by
  have hcz := TenC.sz_of hr hz
  obtain ⟨V, hV⟩ : ∃ V, V = t.con.prune p keep := ⟨_, rfl⟩
  have hVz : (prC V).sz := by rw [hV]; exact prune_sz hcz p keep
  obtain ⟨nm, qu, nx, ⟨s1, sn, s3, sl⟩, ⟨u1, un, u3, ul⟩, ⟨t1, tn, t3, tl⟩, ⟨l1, ln, l3, ll⟩⟩ := t
  show Calls Tryd.prog 3 #[.agg #[.string ⟨nm.toArray⟩, .int .i64 qu, .int .i64 nx, .slice s1 sn s3, .slice u1 un u3, .slice t1 tn t3, .slice l1 ln l3], .string ⟨p.toArray⟩, .int .i64 keep] w _
  have hb := ((Below.refl w.heap.size w).alloc (Nat.le_refl _) (.cells #[.string ⟨nm.toArray⟩, .int .i64 qu, .int .i64 nx, .slice s1 sn s3, .slice u1 un u3, .slice t1 tn t3, .slice l1 ln l3] 27))
  have kt := Blk.new w 27 #[.string ⟨nm.toArray⟩, .int .i64 qu, .int .i64 nx, .slice s1 sn s3, .slice u1 un u3, .slice t1 tn t3, .slice l1 ln l3]
  have hsz : (w.alloc (.cells #[.string ⟨nm.toArray⟩, .int .i64 qu, .int .i64 nx, .slice s1 sn s3, .slice u1 un u3, .slice t1 tn t3, .slice l1 ln l3] 27)).heap.size = w.heap.size + 1 := by simp
  obtain ⟨W1, hW1⟩ : ∃ W, W = (w.alloc (.cells #[.string ⟨nm.toArray⟩, .int .i64 qu, .int .i64 nx, .slice s1 sn s3, .slice u1 un u3, .slice t1 tn t3, .slice l1 ln l3] 27)) := ⟨_, rfl⟩
  rw [← hW1] at hb hsz kt
  have hKt : Hid (∀ W, Below W1.heap.size W1 W → Blk W w.heap.size 27 #[.string ⟨nm.toArray⟩, .int .i64 qu, .int .i64 nx, .slice s1 sn s3, .slice u1 un u3, .slice t1 tn t3, .slice l1 ln l3]) := fun W h => kt.below h (by omega)
  have hBW : Hid (∀ W, Below W1.heap.size W1 W → Below w.heap.size w W) := fun W h => hb.trans (h.mono (by omega))
  have hSZ : Hid (∀ W, Below W1.heap.size W1 W → w.heap.size + 1 ≤ W.heap.size) := fun W h => by have := h.size; omega
  have hW0 : Hid (Below W1.heap.size W1 W1) := Below.refl _ _
  have hrw : Hid (∀ W, Below W1.heap.size W1 W → TenR.rd W w.heap.size ⟨nm, qu, nx, ⟨s1, sn, s3, sl⟩, ⟨u1, un, u3, ul⟩, ⟨t1, tn, t3, tl⟩, ⟨l1, ln, l3, ll⟩⟩ ∧ w.heap.size ≤ W.heap.size ∧ HasMax W) := fun W h =>
    ⟨TenR.rd.below hr (hBW.out W h), by have := hSZ.out W h; omega, hmx.below (hBW.out W h)⟩
  have hrB : Hid (∀ W, Below w.heap.size w W → TenR.rd W w.heap.size ⟨nm, qu, nx, ⟨s1, sn, s3, sl⟩, ⟨u1, un, u3, ul⟩, ⟨t1, tn, t3, tl⟩, ⟨l1, ln, l3, ll⟩⟩ ∧ HasMax W) := fun W h => ⟨TenR.rd.below hr h, hmx.below h⟩
  have hAL : Hid (∀ W, Below W1.heap.size W1 W → Calls Tryd.prog 4 #[] W fun e w' => e = .returned (.bool true) ∧ Below W.heap.size W w') := fun W h => alive39_any W (hrw.out W h).2.2
  have HZ := Lib.hid hz
  have HST := Lib.hid hst
  have HCZ := Lib.hid hcz
  have HV := Lib.hid hV
  have HVZ := Lib.hid hVz
  obtain ⟨eV, heV⟩ : ∃ q, q = V.1 := ⟨_, rfl⟩
  obtain ⟨nV, hnV⟩ : ∃ q, q = prN V := ⟨_, rfl⟩
  have HE := Lib.hid heV
  have HN := Lib.hid hnV
  clear hb hsz kt hr hz hst hmx hcz hV hVz heV hnV
  go_enter Tryd.func3, Tryd.ntmps3
  have hc := hAL.out  W1 hW0.out
  have kk := hKt.out W1 hW0.out
  obtain ⟨c0, c1, c2, c3, c4, c5, c6⟩ := (⟨kk.cell 0, kk.cell 1, kk.cell 2, kk.cell 3, kk.cell 4, kk.cell 5, kk.cell 6⟩ : _ ∧ _ ∧ _ ∧ _ ∧ _ ∧ _ ∧ _)
  simp only [List.getElem?_toArray, List.getElem?_cons_succ, List.getElem?_cons_zero] at c0 c1 c2 c3 c4 c5 c6
  clear kk
  go_wp2_with fail
  rw [← hW1]
  clear hW1
  refine hc.mono ?_
  clear hc c0 c1 c2 c3 c4 c5 c6
  rintro e w2 ⟨rfl, hb⟩
  have HW2 := Lib.hid (hW0.out.trans (hb.mono hW0.out.size))
  clear hb
  have hc := own14_any ⟨nm, qu, nx, ⟨s1, sn, s3, sl⟩, ⟨u1, un, u3, ul⟩, ⟨t1, tn, t3, tl⟩, ⟨l1, ln, l3, ll⟩⟩ w2 w.heap.size (hrw.out w2 HW2.out).2.1 (hrw.out w2 HW2.out).1 HZ.out HST.out
  have kk := hKt.out w2 HW2.out
  obtain ⟨c0, c1, c2, c3, c4, c5, c6⟩ := (⟨kk.cell 0, kk.cell 1, kk.cell 2, kk.cell 3, kk.cell 4, kk.cell 5, kk.cell 6⟩ : _ ∧ _ ∧ _ ∧ _ ∧ _ ∧ _ ∧ _)
  simp only [List.getElem?_toArray, List.getElem?_cons_succ, List.getElem?_cons_zero] at c0 c1 c2 c3 c4 c5 c6
  clear kk
  go_wp2_with fail
  refine hc.mono ?_
  clear hc c0 c1 c2 c3 c4 c5 c6
  rintro e w3 ⟨y, rfl, ho3, he3, hb3⟩
  have HW3 := Lib.hid (HW2.out.trans (hb3.mono HW2.out.size))
  have HYC := Lib.hid ((TenR.eqv_iff _ _).1 he3)
  have hzy := TenR.sz_of ho3.rd (by rw [← HYC.out]; exact HCZ.out)
  have hSP : Hid (∀ W, Below w3.heap.size w3 W → Calls Tryd.prog 8 #[y.val] W fun e w' => e = .returned (.tuple #[]) ∧ OnlyIn w2.heap.size w3.heap.size W w') := fun W h => spoil_any y w3 W w2.heap.size ho3 h hb3.size (by have := hzy.sets; omega)
  have hPR : Hid (∀ W, Below w3.heap.size w3 W → HasMax W → Calls Tryd.prog 6 #[y.val, .string ⟨p.toArray⟩, .int .i64 keep] W (PruneTold W V)) := fun W h hm => by
    rw [HV.out, HYC.out]
    exact pruneT_any y p keep W W.heap.size (Nat.le_refl _) (ho3.below h).rd hzy hm
  have hSM : Hid (∀ W, Below w3.heap.size w3 W → TenR.rd W W.heap.size ⟨nm, qu, nx, ⟨s1, sn, s3, sl⟩, ⟨u1, un, u3, ul⟩, ⟨t1, tn, t3, tl⟩, ⟨l1, ln, l3, ll⟩⟩ → Calls Tryd.prog 7 #[y.val, .agg #[.string ⟨nm.toArray⟩, .int .i64 qu, .int .i64 nx, .slice s1 sn s3, .slice u1 un u3, .slice t1 tn t3, .slice l1 ln l3]] W fun e w' => e = .returned (.bool true) ∧ Below W.heap.size W w') := fun W h hq =>
    same14_any y ⟨nm, qu, nx, ⟨s1, sn, s3, sl⟩, ⟨u1, un, u3, ul⟩, ⟨t1, tn, t3, tl⟩, ⟨l1, ln, l3, ll⟩⟩ ((TenR.eqv_iff _ _).2 HYC.out.symm) W W.heap.size (Nat.le_refl _) (ho3.below h).rd hq hzy
  have HS23 := Lib.hid (show w.heap.size + 1 ≤ w2.heap.size ∧ w2.heap.size ≤ w3.heap.size from ⟨hSZ.out w2 HW2.out, hb3.size⟩)
  have HZ2 := Lib.hid HZ.out
  clear ho3 he3 hb3 hzy HZ HST HCZ
  obtain ⟨im, iq, ix, ⟨ia, ib, ic, il⟩, ⟨ja, jb, jc, jl⟩, ⟨ka, kb, kc, kl⟩, ⟨ma, mb, mc, ml⟩⟩ := y
  simp only [TenR.val, TenR.cells, FS.val, strV] at hSP hPR hSM ⊢
  have hbn := (HW3.out).alloc HW3.out.size (.cells #[.string ⟨im.toArray⟩, .int .i64 iq, .int .i64 ix, .slice ia ib ic, .slice ja jb jc, .slice ka kb kc, .slice ma mb mc] 27)
  have kbn := Blk.new w3 27 #[.string ⟨im.toArray⟩, .int .i64 iq, .int .i64 ix, .slice ia ib ic, .slice ja jb jc, .slice ka kb kc, .slice ma mb mc]
  have hsn : (w3.alloc (.cells #[.string ⟨im.toArray⟩, .int .i64 iq, .int .i64 ix, .slice ia ib ic, .slice ja jb jc, .slice ka kb kc, .slice ma mb mc] 27)).heap.size = w3.heap.size + 1 := by simp
  obtain ⟨Bi, hBi⟩ : ∃ g, g = w3.heap.size := ⟨_, rfl⟩
  obtain ⟨w4, hWn⟩ : ∃ W, W = (w3.alloc (.cells #[.string ⟨im.toArray⟩, .int .i64 iq, .int .i64 ix, .slice ia ib ic, .slice ja jb jc, .slice ka kb kc, .slice ma mb mc] 27)) := ⟨_, rfl⟩
  rw [← hWn] at hbn kbn hsn 
  have HW4 := Lib.hid hbn
  rw [← hBi] at kbn
  have hKi : Hid (∀ W, Below w4.heap.size w4 W → Blk W Bi 27 #[.string ⟨im.toArray⟩, .int .i64 iq, .int .i64 ix, .slice ia ib ic, .slice ja jb jc, .slice ka kb kc, .slice ma mb mc]) := fun W h => kbn.below h (by omega)
  have HZi := Lib.hid (show Bi = w3.heap.size ∧ w4.heap.size = w3.heap.size + 1 from ⟨hBi, hsn⟩)
  have H34 := Lib.hid ((Below.refl w3.heap.size w3).alloc (Nat.le_refl _) (.cells #[.string ⟨im.toArray⟩, .int .i64 iq, .int .i64 ix, .slice ia ib ic, .slice ja jb jc, .slice ka kb kc, .slice ma mb mc] 27))
  rw [← hWn] at H34
  clear hbn kbn hsn 
  have hc := hPR.out w4 H34.out (hrw.out w4 HW4.out).2.2
  have kk := hKi.out w4 (Below.refl _ _)
  obtain ⟨c0, c1, c2, c3, c4, c5, c6⟩ := (⟨kk.cell 0, kk.cell 1, kk.cell 2, kk.cell 3, kk.cell 4, kk.cell 5, kk.cell 6⟩ : _ ∧ _ ∧ _ ∧ _ ∧ _ ∧ _ ∧ _)
  simp only [List.getElem?_toArray, List.getElem?_cons_succ, List.getElem?_cons_zero] at c0 c1 c2 c3 c4 c5 c6
  clear kk
  go_wp2_with (refine wpList_store_new w3 rfl 27 (.tmp 7) (.tmp 18) rfl 27 [.string ⟨#[]⟩, .int .i64 0, .int .i64 0, .slice none 0 0, .slice none 0 0, .slice none 0 0, .slice none 0 0] [.string ⟨im.toArray⟩, .int .i64 iq, .int .i64 ix, .slice ia ib ic, .slice ja jb jc, .slice ka kb kc, .slice ma mb mc] rfl rfl rfl (by kernel_rfl) (by simp [Value.oneCell']) ?_; rw [show ([.string ⟨im.toArray⟩, .int .i64 iq, .int .i64 ix, .slice ia ib ic, .slice ja jb jc, .slice ka kb kc, .slice ma mb mc] : List Value).toArray = #[.string ⟨im.toArray⟩, .int .i64 iq, .int .i64 ix, .slice ia ib ic, .slice ja jb jc, .slice ka kb kc, .slice ma mb mc] from rfl, ← hWn, ← hBi]; clear hWn hBi)
  refine hc.mono ?_
  clear hc hPR c0 c1 c2 c3 c4 c5 c6
  rintro e w5 ⟨u, rfl, hb, ho5, hy5⟩
  have HW5 := Lib.hid (HW4.out.trans (hb.mono HW4.out.size))
  have H45 := Lib.hid hb
  have HOU := Lib.hid ho5
  have HYU := Lib.hid hy5
  rw [← HE.out, ← HN.out]
  clear hb ho5 hy5
  obtain ⟨um, uq, ux, ⟨ua, ub, uc, uL⟩, ⟨va, vb, vc, vL⟩, ⟨xa, xb, xc, xL⟩, ⟨ya, yb, yc, yL⟩⟩ := u
  simp only [TenR.val, TenR.cells, FS.val, strV]
  have hbn := (HW5.out).alloc HW5.out.size (.cells #[.string ⟨um.toArray⟩, .int .i64 uq, .int .i64 ux, .slice ua ub uc, .slice va vb vc, .slice xa xb xc, .slice ya yb yc] 27)
  have kbn := Blk.new w5 27 #[.string ⟨um.toArray⟩, .int .i64 uq, .int .i64 ux, .slice ua ub uc, .slice va vb vc, .slice xa xb xc, .slice ya yb yc]
  have hsn : (w5.alloc (.cells #[.string ⟨um.toArray⟩, .int .i64 uq, .int .i64 ux, .slice ua ub uc, .slice va vb vc, .slice xa xb xc, .slice ya yb yc] 27)).heap.size = w5.heap.size + 1 := by simp
  have HOUn := HOU.out.below ((Below.refl w5.heap.size w5).alloc (Nat.le_refl _) (.cells #[.string ⟨um.toArray⟩, .int .i64 uq, .int .i64 ux, .slice ua ub uc, .slice va vb vc, .slice xa xb xc, .slice ya yb yc] 27))
  obtain ⟨Bu, hBu⟩ : ∃ g, g = w5.heap.size := ⟨_, rfl⟩
  obtain ⟨w6, hWn⟩ : ∃ W, W = (w5.alloc (.cells #[.string ⟨um.toArray⟩, .int .i64 uq, .int .i64 ux, .slice ua ub uc, .slice va vb vc, .slice xa xb xc, .slice ya yb yc] 27)) := ⟨_, rfl⟩
  rw [← hWn] at hbn kbn hsn HOUn
  have HW6 := Lib.hid hbn
  rw [← hBu] at kbn
  have hKu : Hid (∀ W, Below w6.heap.size w6 W → Blk W Bu 27 #[.string ⟨um.toArray⟩, .int .i64 uq, .int .i64 ux, .slice ua ub uc, .slice va vb vc, .slice xa xb xc, .slice ya yb yc]) := fun W h => kbn.below h (by omega)
  have HZu := Lib.hid (show Bu = w5.heap.size ∧ w6.heap.size = w5.heap.size + 1 from ⟨hBu, hsn⟩)
  have HOU := Lib.hid HOUn
  have H56 := Lib.hid ((Below.refl w5.heap.size w5).alloc (Nat.le_refl _) (.cells #[.string ⟨um.toArray⟩, .int .i64 uq, .int .i64 ux, .slice ua ub uc, .slice va vb vc, .slice xa xb xc, .slice ya yb yc] 27))
  rw [← hWn] at H56
  clear hbn kbn hsn HOUn
  have H46 := Lib.hid (H45.out.trans (H56.out.mono H45.out.size))
  have H36 := Lib.hid (H34.out.trans (H46.out.mono H34.out.size))
  have hc := hSM.out w6 H36.out ((hrw.out w6 HW6.out).1.more (hrw.out w6 HW6.out).2.1)
  have kk := hKi.out w6 H46.out
  obtain ⟨c0, c1, c2, c3, c4, c5, c6⟩ := (⟨kk.cell 0, kk.cell 1, kk.cell 2, kk.cell 3, kk.cell 4, kk.cell 5, kk.cell 6⟩ : _ ∧ _ ∧ _ ∧ _ ∧ _ ∧ _ ∧ _)
  simp only [List.getElem?_toArray, List.getElem?_cons_succ, List.getElem?_cons_zero] at c0 c1 c2 c3 c4 c5 c6
  clear kk
  have kk := hKt.out w6 HW6.out
  obtain ⟨d0, d1, d2, d3, d4, d5, d6⟩ := (⟨kk.cell 0, kk.cell 1, kk.cell 2, kk.cell 3, kk.cell 4, kk.cell 5, kk.cell 6⟩ : _ ∧ _ ∧ _ ∧ _ ∧ _ ∧ _ ∧ _)
  simp only [List.getElem?_toArray, List.getElem?_cons_succ, List.getElem?_cons_zero] at d0 d1 d2 d3 d4 d5 d6
  clear kk
  go_wp2_with (refine wpList_store_new w5 rfl 27 (.tmp 8) (.tmp 24) rfl 27 [.string ⟨#[]⟩, .int .i64 0, .int .i64 0, .slice none 0 0, .slice none 0 0, .slice none 0 0, .slice none 0 0] [.string ⟨um.toArray⟩, .int .i64 uq, .int .i64 ux, .slice ua ub uc, .slice va vb vc, .slice xa xb xc, .slice ya yb yc] rfl rfl rfl (by kernel_rfl) (by simp [Value.oneCell']) ?_; rw [show ([.string ⟨um.toArray⟩, .int .i64 uq, .int .i64 ux, .slice ua ub uc, .slice va vb vc, .slice xa xb xc, .slice ya yb yc] : List Value).toArray = #[.string ⟨um.toArray⟩, .int .i64 uq, .int .i64 ux, .slice ua ub uc, .slice va vb vc, .slice xa xb xc, .slice ya yb yc] from rfl, ← hWn, ← hBu]; clear hWn hBu)
  refine hc.mono ?_
  clear hc hSM c0 c1 c2 c3 c4 c5 c6 d0 d1 d2 d3 d4 d5 d6
  rintro e w7 ⟨rfl, hb⟩
  have HW7 := Lib.hid (HW6.out.trans (hb.mono HW6.out.size))
  have H47 := Lib.hid (H46.out.trans (hb.mono H46.out.size))
  have H37 := Lib.hid (H36.out.trans (hb.mono H36.out.size))
  have H67 := Lib.hid hb
  clear hb
  have hc := hSP.out w7 H37.out
  have kk := hKi.out w7 H47.out
  obtain ⟨c0, c1, c2, c3, c4, c5, c6⟩ := (⟨kk.cell 0, kk.cell 1, kk.cell 2, kk.cell 3, kk.cell 4, kk.cell 5, kk.cell 6⟩ : _ ∧ _ ∧ _ ∧ _ ∧ _ ∧ _ ∧ _)
  simp only [List.getElem?_toArray, List.getElem?_cons_succ, List.getElem?_cons_zero] at c0 c1 c2 c3 c4 c5 c6
  clear kk
  go_wp2_with fail
  refine hc.mono ?_
  clear hc hSP c0 c1 c2 c3 c4 c5 c6
  rintro e w8 ⟨rfl, ho8⟩
  have HB8 : Hid (Below w.heap.size w w8) := (hBW.out w7 HW7.out).trans (ho8.low.mono (by have := HS23.out; omega))
  have kt8 := (hKt.out w7 HW7.out).below ho8.low (by have := HS23.out; omega)
  have ku8 : Blk w8 Bu 27 #[.string ⟨um.toArray⟩, .int .i64 uq, .int .i64 ux, .slice ua ub uc, .slice va vb vc, .slice xa xb xc, .slice ya yb yc] := (ho8.high _ (by have h1 := HZu.out; have h2 := H45.out.size; have h3 := HZi.out; omega) (by have h1 := HZu.out; have h2 := H67.out.size; omega)).trans (hKu.out w7 H67.out)
  have hou8 := (HOU.out.below H67.out).only (by have h3 := HZi.out; omega) ho8
  obtain ⟨hr8, hm8⟩ := hrB.out w8 HB8.out
  have hc := pruneT_any ⟨nm, qu, nx, ⟨s1, sn, s3, sl⟩, ⟨u1, un, u3, ul⟩, ⟨t1, tn, t3, tl⟩, ⟨l1, ln, l3, ll⟩⟩ p keep w8 w.heap.size HB8.out.size hr8 HZ2.out hm8
  rw [← HV.out] at hc
  have HC : Hid (Calls Tryd.prog 6 #[.agg #[.string ⟨nm.toArray⟩, .int .i64 qu, .int .i64 nx, .slice s1 sn s3, .slice u1 un u3, .slice t1 tn t3, .slice l1 ln l3], .string ⟨p.toArray⟩, .int .i64 keep] w8 (PruneTold w8 V)) := hc
  have KU8 := Lib.hid ku8
  have HOU8 := Lib.hid hou8
  obtain ⟨c0, c1, c2, c3, c4, c5, c6⟩ := (⟨kt8.cell 0, kt8.cell 1, kt8.cell 2, kt8.cell 3, kt8.cell 4, kt8.cell 5, kt8.cell 6⟩ : _ ∧ _ ∧ _ ∧ _ ∧ _ ∧ _ ∧ _)
  simp only [List.getElem?_toArray, List.getElem?_cons_succ, List.getElem?_cons_zero] at c0 c1 c2 c3 c4 c5 c6
  clear kt8 ku8 hou8 hr8 hm8 hc ho8 HOU
  go_wp2_with fail
  refine HC.out.mono ?_
  clear HC c0 c1 c2 c3 c4 c5 c6
  rintro e w9 ⟨v, rfl, hb, ho9, hy9⟩
  have HB9 := Lib.hid (HB8.out.trans (hb.mono HB8.out.size))
  have KU9 := Lib.hid (KU8.out.below hb KU8.out.lt)
  have HOU9 := Lib.hid (HOU8.out.below hb)
  have HOV := Lib.hid ho9
  have HYV := Lib.hid hy9
  rw [← HE.out, ← HN.out]
  clear hb ho9 hy9 KU8 HOU8
  obtain ⟨nm2, nq2, nx2, ⟨na, nb, nc, nL⟩, ⟨oa, ob, oc, oL⟩, ⟨pa, pb, pc, pL⟩, ⟨qa, qb, qc, qL⟩⟩ := v
  simp only [TenR.val, TenR.cells, FS.val, strV]
  have hbn := (Below.refl w9.heap.size w9).alloc (Nat.le_refl _) (.cells #[.string ⟨nm2.toArray⟩, .int .i64 nq2, .int .i64 nx2, .slice na nb nc, .slice oa ob oc, .slice pa pb pc, .slice qa qb qc] 27)
  have kv := Blk.new w9 27 #[.string ⟨nm2.toArray⟩, .int .i64 nq2, .int .i64 nx2, .slice na nb nc, .slice oa ob oc, .slice pa pb pc, .slice qa qb qc]
  have ku := KU9.out.alloc (.cells #[.string ⟨nm2.toArray⟩, .int .i64 nq2, .int .i64 nx2, .slice na nb nc, .slice oa ob oc, .slice pa pb pc, .slice qa qb qc] 27)
  have hou := HOU9.out.below hbn
  have hov := HOV.out.below hbn
  have hB10 := HB9.out.trans (hbn.mono HB9.out.size)
  obtain ⟨Bv, hBv⟩ : ∃ g, g = w9.heap.size := ⟨_, rfl⟩
  obtain ⟨w10, hWn⟩ : ∃ W, W = w9.alloc (.cells #[.string ⟨nm2.toArray⟩, .int .i64 nq2, .int .i64 nx2, .slice na nb nc, .slice oa ob oc, .slice pa pb pc, .slice qa qb qc] 27) := ⟨_, rfl⟩
  rw [← hWn] at hbn kv ku hou hov hB10
  rw [← hBv] at kv
  have hc := same14_any ⟨um, uq, ux, ⟨ua, ub, uc, uL⟩, ⟨va, vb, vc, vL⟩, ⟨xa, xb, xc, xL⟩, ⟨ya, yb, yc, yL⟩⟩ ⟨nm2, nq2, nx2, ⟨na, nb, nc, nL⟩, ⟨oa, ob, oc, oL⟩, ⟨pa, pb, pc, pL⟩, ⟨qa, qb, qc, qL⟩⟩ ((TenR.eqv_iff _ _).2 (by rw [HYU.out, HYV.out])) w10 w10.heap.size (Nat.le_refl _) hou.rd hov.rd (TenR.sz_of hou.rd (by rw [HYU.out]; exact HVZ.out))
  have HC : Hid (Calls Tryd.prog 7 #[.agg #[.string ⟨um.toArray⟩, .int .i64 uq, .int .i64 ux, .slice ua ub uc, .slice va vb vc, .slice xa xb xc, .slice ya yb yc], .agg #[.string ⟨nm2.toArray⟩, .int .i64 nq2, .int .i64 nx2, .slice na nb nc, .slice oa ob oc, .slice pa pb pc, .slice qa qb qc]] w10 fun e w' => e = .returned (.bool true) ∧ Below w10.heap.size w10 w') := hc
  have HB10 := Lib.hid hB10
  have hee : (eV == eV) = true := by simp
  have hnn : (nV == nV) = true := by simp
  obtain ⟨c0, c1, c2, c3, c4, c5, c6⟩ := (⟨ku.cell 0, ku.cell 1, ku.cell 2, ku.cell 3, ku.cell 4, ku.cell 5, ku.cell 6⟩ : _ ∧ _ ∧ _ ∧ _ ∧ _ ∧ _ ∧ _)
  simp only [List.getElem?_toArray, List.getElem?_cons_succ, List.getElem?_cons_zero] at c0 c1 c2 c3 c4 c5 c6
  obtain ⟨d0, d1, d2, d3, d4, d5, d6⟩ := (⟨kv.cell 0, kv.cell 1, kv.cell 2, kv.cell 3, kv.cell 4, kv.cell 5, kv.cell 6⟩ : _ ∧ _ ∧ _ ∧ _ ∧ _ ∧ _ ∧ _)
  simp only [List.getElem?_toArray, List.getElem?_cons_succ, List.getElem?_cons_zero] at d0 d1 d2 d3 d4 d5 d6
  clear hbn kv ku hou hov hB10 hc
  go_wp2_with (refine wpList_store_new w9 rfl 27 (.tmp 12) (.tmp 37) rfl 27 [.string ⟨#[]⟩, .int .i64 0, .int .i64 0, .slice none 0 0, .slice none 0 0, .slice none 0 0, .slice none 0 0] [.string ⟨nm2.toArray⟩, .int .i64 nq2, .int .i64 nx2, .slice na nb nc, .slice oa ob oc, .slice pa pb pc, .slice qa qb qc] rfl rfl rfl (by kernel_rfl) (by simp [Value.oneCell']) ?_; rw [show ([.string ⟨nm2.toArray⟩, .int .i64 nq2, .int .i64 nx2, .slice na nb nc, .slice oa ob oc, .slice pa pb pc, .slice qa qb qc] : List Value).toArray = #[.string ⟨nm2.toArray⟩, .int .i64 nq2, .int .i64 nx2, .slice na nb nc, .slice oa ob oc, .slice pa pb pc, .slice qa qb qc] from rfl, ← hWn, ← hBv]; clear hWn hBv)
  refine HC.out.mono ?_
  clear HC c0 c1 c2 c3 c4 c5 c6 d0 d1 d2 d3 d4 d5 d6
  rintro e w11 ⟨rfl, hb⟩
  have hbf := HB10.out.trans (hb.mono HB10.out.size)
  clear hb
  go_wp2_with fail
  go_ret
  exact ⟨rfl, hbf⟩
end Go.Proofs.YtcgclpcocdappaaDoor
