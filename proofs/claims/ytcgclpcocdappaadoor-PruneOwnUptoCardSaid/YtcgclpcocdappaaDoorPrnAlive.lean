/-
  The example of chapter 39: of three snapshots the two old ones go.
-/
import Derived.Test.YtcgclpcocdappaaDoorPrnPr
namespace Go.Proofs.YtcgclpcocdappaaDoor
open Go.RowKit

def prn1 : TenC := ⟨[116], 20, 1, [⟨[], [], [], [⟨[97], 1, [], [], []⟩, ⟨[98], 2, [], [], []⟩, ⟨[99], 3, [], [], []⟩], []⟩], [], [], []⟩
def prn2 : TenC := ⟨[116], 20, 1, [⟨[], [], [], [⟨[99], 3, [], [], []⟩], []⟩], [], [], []⟩
theorem prn1_prune : prn1.prune [] 1 = (0, 2, prn2) := by kernel_rfl
theorem prn1_sz : prn1.sz where
  nm := by show (1 : Nat) ≤ 4000000000; decide
  sets := by show (1 : Nat) ≤ 1000000000000; decide
  eachS := by
    intro y hy
    rw [show prn1.sets = [⟨[], [], [], [⟨[97], 1, [], [], []⟩, ⟨[98], 2, [], [], []⟩, ⟨[99], 3, [], [], []⟩], []⟩] from rfl, List.mem_singleton] at hy
    subst hy
    exact ⟨by decide, by decide, by decide, by decide, fun z hz => by
      simp only [List.mem_cons, List.not_mem_nil, or_false] at hz
      rcases hz with rfl | rfl | rfl <;> exact ⟨by decide, by decide, by decide, (fun t ht => by cases ht), by decide, (fun t ht => by cases ht)⟩, by decide, fun t ht => by cases ht⟩
  grants := by show (0 : Nat) ≤ 1000000000000; decide
  eachG := fun y hy => by cases hy
  stages := by show (0 : Nat) ≤ 1000000000000; decide
  eachT := fun y hy => by cases hy
  log := by show (0 : Nat) ≤ 1000000000000; decide
  eachL := fun y hy => by cases hy
theorem alloc_set (W : World) (o : Obj) (g i : Nat) (v : Value) (h : g < W.heap.size) : (W.alloc o).setCell ⟨g, i, none⟩ v = (W.setCell ⟨g, i, none⟩ v).alloc o := by
  simp [go_sem, h]
theorem own_lit5 (W : World) (cs : Array Value) (T : TypeId) (h : cs.size = 15) : (W.alloc (.cells cs T)).ownsRow W.heap.size T 5 (.slice (some ⟨W.heap.size, 0, none⟩) 3 3) 3 cs.toList := by
  refine ⟨by simp [h], .inr ⟨W.heap.size, 3, cs, rfl, Nat.le_refl _, heap_alloc_new W _, Nat.le_refl _, by unfold maxLen; omega, by simp [h], ?_⟩⟩
  rw [List.take_of_length_le (by simp [h])]
set_option maxRecDepth 100000 in
set_option maxHeartbeats 4000000 in
theorem alive39_any (w : World) (hmx : HasMax w) : Calls Tryd.prog 4 #[] w fun e w' => e = .returned (.bool true) ∧ Below w.heap.size w w' := by
  go_enter Tryd.func4, Tryd.ntmps4
  go_wp2_with fail
  refine (rnew_any 20 (by decide) (by decide) _).mono ?_
  rintro e w1 ⟨y, rfl, ho, hy, hb⟩
  have HW1 := Lib.hid hb
  clear hb
  obtain ⟨mm, mq, mx, ⟨m1, m2, m3, ml⟩, ⟨n1, n2, n3, nl⟩, ⟨p1, p2, p3, pl⟩, ⟨q1, q2, q3, ql⟩⟩ := y
  simp only [TenR.val, TenR.cells, FS.val, strV]
  have hlen : ml.length = 1 := by
    have h := congrArg (fun c : TenC => c.sets.length) hy
    simpa [TenR.con, new0C] using h
  have hml0 : 0 < ml.length := by omega
  have hm2 : m2 = 1 := by have h := ho.sets.1; simp only at h; omega
  obtain ⟨gS, csS, hA, hbg, hblk⟩ := ho.sets.blk (by show 0 < m2; omega)
  replace hA : m1 = some ⟨gS, 0, none⟩ := hA
  subst hA
  have hx0 : (ml[0]'hml0).con = set0C [] := by
    have h := congrArg (fun c : TenC => c.sets[0]?) hy
    simp only [TenR.con, new0C, List.getElem?_map, List.getElem?_eq_getElem hml0, Option.map_some, List.getElem?_cons_zero] at h
    exact Option.some.inj h
  have hpw : ml.Pairwise ApartS := by
    match ml, hlen with
    | [z], _ => exact List.pairwise_singleton _ _
  have hgw1 : gS < w1.heap.size := hblk.lt
  have HO := Lib.hid ho
  have HY := Lib.hid hy
  have HX0 := Lib.hid hx0
  clear ho hy hx0 hblk
  have hbn := (HW1.out).alloc HW1.out.size (.cells #[.string ⟨mm.toArray⟩, .int .i64 mq, .int .i64 mx, .slice (some ⟨gS, 0, none⟩) m2 m3, .slice n1 n2 n3, .slice p1 p2 p3, .slice q1 q2 q3] 27)
  have kbn := Blk.new w1 27 #[.string ⟨mm.toArray⟩, .int .i64 mq, .int .i64 mx, .slice (some ⟨gS, 0, none⟩) m2 m3, .slice n1 n2 n3, .slice p1 p2 p3, .slice q1 q2 q3]
  have hsn : (w1.alloc (.cells #[.string ⟨mm.toArray⟩, .int .i64 mq, .int .i64 mx, .slice (some ⟨gS, 0, none⟩) m2 m3, .slice n1 n2 n3, .slice p1 p2 p3, .slice q1 q2 q3] 27)).heap.size = w1.heap.size + 1 := by simp
  have HOn := HO.out.below ((Below.refl w1.heap.size w1).alloc (Nat.le_refl _) (.cells #[.string ⟨mm.toArray⟩, .int .i64 mq, .int .i64 mx, .slice (some ⟨gS, 0, none⟩) m2 m3, .slice n1 n2 n3, .slice p1 p2 p3, .slice q1 q2 q3] 27))
  obtain ⟨By, hBy⟩ : ∃ g, g = w1.heap.size := ⟨_, rfl⟩
  obtain ⟨w2, hWn⟩ : ∃ W, W = (w1.alloc (.cells #[.string ⟨mm.toArray⟩, .int .i64 mq, .int .i64 mx, .slice (some ⟨gS, 0, none⟩) m2 m3, .slice n1 n2 n3, .slice p1 p2 p3, .slice q1 q2 q3] 27)) := ⟨_, rfl⟩
  rw [← hWn] at hbn kbn hsn HOn
  have HW2 := Lib.hid hbn
  rw [← hBy] at kbn
  have hKy : Hid (∀ W, Below w2.heap.size w2 W → Blk W By 27 #[.string ⟨mm.toArray⟩, .int .i64 mq, .int .i64 mx, .slice (some ⟨gS, 0, none⟩) m2 m3, .slice n1 n2 n3, .slice p1 p2 p3, .slice q1 q2 q3]) := fun W h => kbn.below h (by omega)
  have HZy := Lib.hid (show By = w1.heap.size ∧ w2.heap.size = w1.heap.size + 1 from ⟨hBy, hsn⟩)
  have HO := Lib.hid HOn
  clear hbn kbn hsn HOn
  have hal := (Below.refl w2.heap.size w2).alloc (Nat.le_refl _) (.cells #[.string ⟨#[97]⟩, .int .i64 1, .slice none 0 0, .slice none 0 0, .slice none 0 0, .string ⟨#[98]⟩, .int .i64 2, .slice none 0 0, .slice none 0 0, .slice none 0 0, .string ⟨#[99]⟩, .int .i64 3, .slice none 0 0, .slice none 0 0, .slice none 0 0] 42)
  have hg0 : ∀ row, w2.grownBy (w2.alloc (.cells #[.string ⟨#[97]⟩, .int .i64 1, .slice none 0 0, .slice none 0 0, .slice none 0 0, .string ⟨#[98]⟩, .int .i64 2, .slice none 0 0, .slice none 0 0, .slice none 0 0, .string ⟨#[99]⟩, .int .i64 3, .slice none 0 0, .slice none 0 0, .slice none 0 0] 42)) row := fun row => ⟨hal.os, hal.tape, hal.output, hal.size, fun k hk _ => hal.block k hk⟩
  have hAs := HO.out.aside hpw 0 hml0 (hg0 _)
  obtain ⟨-, hlt, hfz, -, -, -, hcS, -⟩ := row_cells hAs.sets hml0 rfl
  have hfz := hfz (0 * 5 + 3)
  simp only [Nat.zero_mul, Nat.zero_add] at hcS hfz
  have hgw2 : gS < w2.heap.size := by have h := HZy.out; omega
  have hst := hAs.store ⟨some ⟨w2.heap.size, 0, none⟩, 3, 3, [⟨[97], 1, ⟨none, 0, 0, []⟩, ⟨none, 0, 0, []⟩, ⟨none, 0, 0, []⟩⟩, ⟨[98], 2, ⟨none, 0, 0, []⟩, ⟨none, 0, 0, []⟩, ⟨none, 0, 0, []⟩⟩, ⟨[99], 3, ⟨none, 0, 0, []⟩, ⟨none, 0, 0, []⟩, ⟨none, 0, 0, []⟩⟩]⟩ ⟨rfl, own_mono (own_lit5 w2 #[.string ⟨#[97]⟩, .int .i64 1, .slice none 0 0, .slice none 0 0, .slice none 0 0, .string ⟨#[98]⟩, .int .i64 2, .slice none 0 0, .slice none 0 0, .slice none 0 0, .string ⟨#[99]⟩, .int .i64 3, .slice none 0 0, .slice none 0 0, .slice none 0 0] 42 rfl) (by have := HW2.out.size; omega)⟩ (fun z hz => by
    simp only [List.mem_cons, List.not_mem_nil, or_false] at hz
    rcases hz with rfl | rfl | rfl <;> exact ⟨⟨rfl, World.ownsRow_nil _ _ _ _⟩, ⟨rfl, World.ownsRow_nil _ _ _ _⟩, ⟨rfl, World.ownsRow_nil _ _ _ _⟩⟩) (gS := gS) rfl
  have kk := ((hKy.out w2 (Below.refl _ _)).alloc (.cells #[.string ⟨#[97]⟩, .int .i64 1, .slice none 0 0, .slice none 0 0, .slice none 0 0, .string ⟨#[98]⟩, .int .i64 2, .slice none 0 0, .slice none 0 0, .slice none 0 0, .string ⟨#[99]⟩, .int .i64 3, .slice none 0 0, .slice none 0 0, .slice none 0 0] 42)).far (p := ⟨gS, 3, none⟩) (by have h := HZy.out; simp only; omega) (.slice (some ⟨w2.heap.size, 0, none⟩) 3 3)
  have hW4b := (HW2.out.alloc HW2.out.size (.cells #[.string ⟨#[97]⟩, .int .i64 1, .slice none 0 0, .slice none 0 0, .slice none 0 0, .string ⟨#[98]⟩, .int .i64 2, .slice none 0 0, .slice none 0 0, .slice none 0 0, .string ⟨#[99]⟩, .int .i64 3, .slice none 0 0, .slice none 0 0, .slice none 0 0] 42)).setCell (p := ⟨gS, 3, none⟩) (by simp only; omega) (.slice (some ⟨w2.heap.size, 0, none⟩) 3 3)
  obtain ⟨YP, hYP⟩ : ∃ t : TenR, t = TenR.putS ⟨mm, mq, mx, ⟨some ⟨gS, 0, none⟩, m2, m3, ml⟩, ⟨n1, n2, n3, nl⟩, ⟨p1, p2, p3, pl⟩, ⟨q1, q2, q3, ql⟩⟩ 0 ((ml[0]'hml0).withSn ⟨some ⟨w2.heap.size, 0, none⟩, 3, 3, [⟨[97], 1, ⟨none, 0, 0, []⟩, ⟨none, 0, 0, []⟩, ⟨none, 0, 0, []⟩⟩, ⟨[98], 2, ⟨none, 0, 0, []⟩, ⟨none, 0, 0, []⟩, ⟨none, 0, 0, []⟩⟩, ⟨[99], 3, ⟨none, 0, 0, []⟩, ⟨none, 0, 0, []⟩, ⟨none, 0, 0, []⟩⟩]⟩) := ⟨_, rfl⟩
  have hyo : TenO ((w2.alloc (.cells #[.string ⟨#[97]⟩, .int .i64 1, .slice none 0 0, .slice none 0 0, .slice none 0 0, .string ⟨#[98]⟩, .int .i64 2, .slice none 0 0, .slice none 0 0, .slice none 0 0, .string ⟨#[99]⟩, .int .i64 3, .slice none 0 0, .slice none 0 0, .slice none 0 0] 42)).setCell ⟨gS, 3, none⟩ (.slice (some ⟨w2.heap.size, 0, none⟩) 3 3)) w.heap.size YP := by rw [hYP]; exact hst.1
  have hyc : YP.con = prn1 := by
    rw [hYP, TenR.con_putS, HY.out, withSn_con, HX0.out]
    rfl
  have hyv : YP.val = .agg #[.string ⟨mm.toArray⟩, .int .i64 mq, .int .i64 mx, .slice (some ⟨gS, 0, none⟩) m2 m3, .slice n1 n2 n3, .slice p1 p2 p3, .slice q1 q2 q3] := by rw [hYP]; rfl
  have hk3 := (hKy.out w2 (Below.refl _ _)).cell 3
  simp only [List.getElem?_toArray, List.getElem?_cons_succ, List.getElem?_cons_zero] at hk3
  obtain ⟨w4, hw4⟩ : ∃ W, W = ((w2.alloc (.cells #[.string ⟨#[97]⟩, .int .i64 1, .slice none 0 0, .slice none 0 0, .slice none 0 0, .string ⟨#[98]⟩, .int .i64 2, .slice none 0 0, .slice none 0 0, .slice none 0 0, .string ⟨#[99]⟩, .int .i64 3, .slice none 0 0, .slice none 0 0, .slice none 0 0] 42)).setCell ⟨gS, 3, none⟩ (.slice (some ⟨w2.heap.size, 0, none⟩) 3 3)) := ⟨_, rfl⟩
  have hyo4 : TenO w4 w.heap.size YP := by rw [hw4]; exact hyo
  have hW4c : Below w.heap.size w w4 := by rw [hw4]; exact hW4b
  rw [← hw4] at kk
  obtain ⟨c0, c1, c2, c3, c4, c5, c6⟩ := (⟨kk.cell 0, kk.cell 1, kk.cell 2, kk.cell 3, kk.cell 4, kk.cell 5, kk.cell 6⟩ : _ ∧ _ ∧ _ ∧ _ ∧ _ ∧ _ ∧ _)
  simp only [List.getElem?_toArray, List.getElem?_cons_succ, List.getElem?_cons_zero] at c0 c1 c2 c3 c4 c5 c6
  have hCR := prune_any YP [] 1 w4 w4.heap.size (Nat.le_refl _) hyo4.rd (TenR.sz_of hyo4.rd (by rw [hyc]; exact prn1_sz)) (hmx.below hW4c)
  rw [hyc, prn1_prune, hyv] at hCR
  have HCR : Hid (Calls Tryd.prog 6 #[.agg #[.string ⟨mm.toArray⟩, .int .i64 mq, .int .i64 mx, .slice (some ⟨gS, 0, none⟩) m2 m3, .slice n1 n2 n3, .slice p1 p2 p3, .slice q1 q2 q3], .string ⟨#[]⟩, .int .i64 1] w4 (PrunePost w4 (0, 2, prn2))) := hCR
  have HW4 := Lib.hid hW4c
  have hn0 : (0 : Int) < (m2 : Int) := by omega
  clear hm2 hgw1 hbg
  clear hCR hyo4 hW4c hyo hyc hyv hYP hst hAs hal hg0 hW4b kk hlen hpw hlt
  go_upto_region 2 with (refine wpList_store_new w1 rfl 27 (.tmp 1) (.tmp 8) rfl 27 [.string ⟨#[]⟩, .int .i64 0, .int .i64 0, .slice none 0 0, .slice none 0 0, .slice none 0 0, .slice none 0 0] [.string ⟨mm.toArray⟩, .int .i64 mq, .int .i64 mx, .slice (some ⟨gS, 0, none⟩) m2 m3, .slice n1 n2 n3, .slice p1 p2 p3, .slice q1 q2 q3] rfl rfl rfl (by kernel_rfl) (by simp [Value.oneCell']) ?_; rw [show ([.string ⟨mm.toArray⟩, .int .i64 mq, .int .i64 mx, .slice (some ⟨gS, 0, none⟩) m2 m3, .slice n1 n2 n3, .slice p1 p2 p3, .slice q1 q2 q3] : List Value).toArray = #[.string ⟨mm.toArray⟩, .int .i64 mq, .int .i64 mx, .slice (some ⟨gS, 0, none⟩) m2 m3, .slice n1 n2 n3, .slice p1 p2 p3, .slice q1 q2 q3] from rfl, ← hWn, ← hBy]; clear hWn hBy)
  go_upto_region 3 with (fail)
  rw [← alloc_set _ _ _ _ _ hgw2, ← hw4]
  clear hw4 hk3 hcS hfz
  go_wp2_with fail
  refine HCR.out.mono ?_
  clear HCR c0 c1 c2 c3 c4 c5 c6
  rintro e w5 ⟨v, ni, rfl, hb, ⟨h1, -⟩ | ⟨-, rfl, u, rfl, hou, hu⟩⟩
  · exact absurd (show (0 : Int) = 0 from rfl) h1
  have HW5 := Lib.hid (HW4.out.trans (hb.mono HW4.out.size))
  have HOU := Lib.hid hou
  have HU : Hid (u.con = prn2) := hu
  clear hb hou hu
  obtain ⟨am, aq, ax, ⟨a1, a2, a3, al⟩, ⟨f1, f2, f3, fl⟩, ⟨i1, i2, i3, il⟩, ⟨j1, j2, j3, jl⟩⟩ := u
  simp only [TenR.val, TenR.cells, FS.val, strV]
  have hbn := (HW5.out).alloc HW5.out.size (.cells #[.string ⟨am.toArray⟩, .int .i64 aq, .int .i64 ax, .slice a1 a2 a3, .slice f1 f2 f3, .slice i1 i2 i3, .slice j1 j2 j3] 27)
  have kbn := Blk.new w5 27 #[.string ⟨am.toArray⟩, .int .i64 aq, .int .i64 ax, .slice a1 a2 a3, .slice f1 f2 f3, .slice i1 i2 i3, .slice j1 j2 j3]
  have hsn : (w5.alloc (.cells #[.string ⟨am.toArray⟩, .int .i64 aq, .int .i64 ax, .slice a1 a2 a3, .slice f1 f2 f3, .slice i1 i2 i3, .slice j1 j2 j3] 27)).heap.size = w5.heap.size + 1 := by simp
  have HOUn := HOU.out.below ((Below.refl w5.heap.size w5).alloc (Nat.le_refl _) (.cells #[.string ⟨am.toArray⟩, .int .i64 aq, .int .i64 ax, .slice a1 a2 a3, .slice f1 f2 f3, .slice i1 i2 i3, .slice j1 j2 j3] 27))
  obtain ⟨Ba, hBa⟩ : ∃ g, g = w5.heap.size := ⟨_, rfl⟩
  obtain ⟨w6, hWn⟩ : ∃ W, W = (w5.alloc (.cells #[.string ⟨am.toArray⟩, .int .i64 aq, .int .i64 ax, .slice a1 a2 a3, .slice f1 f2 f3, .slice i1 i2 i3, .slice j1 j2 j3] 27)) := ⟨_, rfl⟩
  rw [← hWn] at hbn kbn hsn HOUn
  have HW6 := Lib.hid hbn
  rw [← hBa] at kbn
  have hKa : Hid (∀ W, Below w6.heap.size w6 W → Blk W Ba 27 #[.string ⟨am.toArray⟩, .int .i64 aq, .int .i64 ax, .slice a1 a2 a3, .slice f1 f2 f3, .slice i1 i2 i3, .slice j1 j2 j3]) := fun W h => kbn.below h (by omega)
  have HZa := Lib.hid (show Ba = w5.heap.size ∧ w6.heap.size = w5.heap.size + 1 from ⟨hBa, hsn⟩)
  have HOU := Lib.hid HOUn
  clear hbn kbn hsn HOUn
  have hlen : al.length = 1 := by
    have h := congrArg (fun c : TenC => c.sets.length) HU.out
    simpa [TenR.con, prn2] using h
  have hal0 : 0 < al.length := by omega
  obtain ⟨x, hx⟩ : ∃ x, x = al[0]'hal0 := ⟨_, rfl⟩
  have hxn : x.snaps.n = 1 := by
    have h := congrArg (fun c : TenC => (c.sets[0]?).map fun s => s.snaps.length) HU.out
    simp only [TenR.con, List.getElem?_map, List.getElem?_eq_getElem hal0, ← hx] at h
    have h2 := ((HOU.out.eachS _ (List.getElem_mem hal0))).snaps.1
    simp only [← hx] at h2
    rw [h2]
    simpa [SetR.con, prn2] using h
  have ha2 : a2 = 1 := by have h := HOU.out.sets.1; simp only at h; omega
  obtain ⟨ad, rfl, -, -, -, -, q3, -⟩ := set_at HOU.out.rd.sets.2.2 HOU.out.sets.1 (i := 0) (show 0 < a2 by omega)
  simp only [← hx] at q3
  replace q3 : w6.cell? ⟨ad.block, ad.off + 3, none⟩ = some (.slice x.snaps.A x.snaps.n x.snaps.c) := by simpa [Addr.add] using q3
  have kk := hKa.out w6 (Below.refl _ _)
  have d3 := kk.cell 3
  simp only [List.getElem?_toArray, List.getElem?_cons_succ, List.getElem?_cons_zero] at d3
  have hn1 : ((x.snaps.n : Int) == 1) = true := by rw [hxn]; rfl
  have hn2 : (0 : Int) < (a2 : Int) := by omega
  clear kk hlen hxn ha2 hx HOU HU HO HY hKy
  go_wp2_with (refine wpList_store_new w5 rfl 27 (.tmp 3) (.tmp 21) rfl 27 [.string ⟨#[]⟩, .int .i64 0, .int .i64 0, .slice none 0 0, .slice none 0 0, .slice none 0 0, .slice none 0 0] [.string ⟨am.toArray⟩, .int .i64 aq, .int .i64 ax, .slice (some ad) a2 a3, .slice f1 f2 f3, .slice i1 i2 i3, .slice j1 j2 j3] rfl rfl rfl (by kernel_rfl) (by simp [Value.oneCell']) ?_; rw [show ([.string ⟨am.toArray⟩, .int .i64 aq, .int .i64 ax, .slice (some ad) a2 a3, .slice f1 f2 f3, .slice i1 i2 i3, .slice j1 j2 j3] : List Value).toArray = #[.string ⟨am.toArray⟩, .int .i64 aq, .int .i64 ax, .slice (some ad) a2 a3, .slice f1 f2 f3, .slice i1 i2 i3, .slice j1 j2 j3] from rfl, ← hWn, ← hBa]; clear hWn hBa)
  exact bodyPost_ret (v := .bool true) (by simp [results, Tryd.results4, go_sem]) rfl ⟨rfl, HW6.out⟩
end Go.Proofs.YtcgclpcocdappaaDoor
