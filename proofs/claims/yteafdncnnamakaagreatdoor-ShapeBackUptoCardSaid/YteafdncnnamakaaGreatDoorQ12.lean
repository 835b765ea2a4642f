/-
 The example of chapter 16: the page's New, and a set made.
-/
import Derived.Test.YteafdncnnamakaaGreatDoorQ10
import Derived.Test.YteafdncnnamakaaGreatDoorQ11
import Derived.Test.YteafdncnnamakaaGreatDoorQ9
import Derived.Test.YteafdncnnamakaaGreatDoorQ8
import Derived.Test.YteafdncnnamakaaGreatDoorQ5
namespace Go.Proofs.YteafdncnnamakaaGreatDoor
open Go.RowKit

theorem num16_any (n : Int) (w : World) : Calls Tryz.prog 14 #[.int .i64 n] w fun e w' => e = .returned (.int .i64 n) ∧ w' = w := by
 go_enter Tryz.func14, Tryz.ntmps14
 go_wp2_with fail
 go_ret
 exact ⟨rfl, rfl⟩
theorem new0C_sz (q : Int) : (new0C q).sz where
 nm := by show (1 : Nat) ≤ 4000000000; decide
 sets := by show (1 : Nat) ≤ 1000000000000; decide
 eachS := by
  intro y hy
  rw [show (new0C q).sets = [set0C []] from rfl, List.mem_singleton] at hy
  subst hy
  exact set0C_sz [] (by decide)
 grants := by show (0 : Nat) ≤ 1000000000000; decide
 eachG := fun y hy => by cases hy
 stages := by show (0 : Nat) ≤ 1000000000000; decide
 eachT := fun y hy => by cases hy
 log := by show (0 : Nat) ≤ 1000000000000; decide
 eachL := fun y hy => by cases hy
theorem new0_create : (new0C 9).create [97] = (0, ⟨[116], 9, 1, [set0C [], set0C [97]], [], [], []⟩) := by
 unfold TenC.create
 rw [show (new0C 9).ask [97] = 0 by decide +kernel, if_neg (by decide), show (new0C 9).find [97] = -1 by decide +kernel, if_neg (by decide), show (new0C 9).find (upL [97]) = 0 by decide +kernel, if_neg (by decide), if_neg (by decide)]
 rw [show (new0C 9).withS (set0C [97]) = ⟨[116], 9, 1, [set0C [], set0C [97]], [], [], []⟩ by kernel_rfl]
 unfold TenC.settle
 rw [if_neg (by decide +kernel), if_neg (by decide)]
set_option maxRecDepth 100000 in
set_option maxHeartbeats 4000000 in
theorem alive16_any (w : World) (hmx : HasMax w) : Calls Tryz.prog 15 #[] w fun e w' => e = .returned (.bool true) ∧ Below w.heap.size w w' := by
 go_enter Tryz.func15, Tryz.ntmps15
 go_wp2_with fail
 refine (rnew_any 9 (by decide) (by decide) _).mono ?_
 rintro e w1 ⟨y, rfl, ho, hy, hb⟩
 have HW1 := Lib.hid hb
 have HO := Lib.hid ho
 have HY := Lib.hid hy
 clear hb ho hy
 obtain ⟨mm, mq, mx, ⟨m1, m2, m3, ml⟩, ⟨n1, n2, n3, nl⟩, ⟨p1, p2, p3, pl⟩, ⟨q1, q2, q3, ql⟩⟩ := y
 simp only [TenR.val, TenR.cells, FS.val, strV]
 have hbn := (HW1.out).alloc HW1.out.size (.cells #[.string ⟨mm.toArray⟩, .int .i64 mq, .int .i64 mx, .slice m1 m2 m3, .slice n1 n2 n3, .slice p1 p2 p3, .slice q1 q2 q3] 27)
 have kbn := Blk.new w1 27 #[.string ⟨mm.toArray⟩, .int .i64 mq, .int .i64 mx, .slice m1 m2 m3, .slice n1 n2 n3, .slice p1 p2 p3, .slice q1 q2 q3]
 have hsn : (w1.alloc (.cells #[.string ⟨mm.toArray⟩, .int .i64 mq, .int .i64 mx, .slice m1 m2 m3, .slice n1 n2 n3, .slice p1 p2 p3, .slice q1 q2 q3] 27)).heap.size = w1.heap.size + 1 := by simp
 have HOn := HO.out.below ((Below.refl w1.heap.size w1).alloc (Nat.le_refl _) (.cells #[.string ⟨mm.toArray⟩, .int .i64 mq, .int .i64 mx, .slice m1 m2 m3, .slice n1 n2 n3, .slice p1 p2 p3, .slice q1 q2 q3] 27))
 obtain ⟨By, hBy⟩ : ∃ g, g = w1.heap.size := ⟨_, rfl⟩
 obtain ⟨w2, hWn⟩ : ∃ W, W = (w1.alloc (.cells #[.string ⟨mm.toArray⟩, .int .i64 mq, .int .i64 mx, .slice m1 m2 m3, .slice n1 n2 n3, .slice p1 p2 p3, .slice q1 q2 q3] 27)) := ⟨_, rfl⟩
 rw [← hWn] at hbn kbn hsn HOn
 have HW2 := Lib.hid hbn
 rw [← hBy] at kbn
 have hKy : Hid (∀ W, Below w2.heap.size w2 W → Blk W By 27 #[.string ⟨mm.toArray⟩, .int .i64 mq, .int .i64 mx, .slice m1 m2 m3, .slice n1 n2 n3, .slice p1 p2 p3, .slice q1 q2 q3]) := fun W h => kbn.below h (by omega)
 have HZy := Lib.hid (show By = w1.heap.size ∧ w2.heap.size = w1.heap.size + 1 from ⟨hBy, hsn⟩)
 have HO := Lib.hid HOn
 clear hbn kbn hsn HOn
 have hCR := create_any ⟨mm, mq, mx, ⟨m1, m2, m3, ml⟩, ⟨n1, n2, n3, nl⟩, ⟨p1, p2, p3, pl⟩, ⟨q1, q2, q3, ql⟩⟩ [97] w2 w2.heap.size (Nat.le_refl _) HO.out.rd (TenR.sz_of HO.out.rd (by rw [HY.out]; exact new0C_sz 9)) (by decide) (hmx.below HW2.out)
 rw [HY.out, new0_create] at hCR
 have HCR := Lib.hid hCR
 clear hCR
 have kk := hKy.out w2 (Below.refl _ _)
 obtain ⟨c0, c1, c2, c3, c4, c5, c6⟩ := (⟨kk.cell 0, kk.cell 1, kk.cell 2, kk.cell 3, kk.cell 4, kk.cell 5, kk.cell 6⟩ : _ ∧ _ ∧ _ ∧ _ ∧ _ ∧ _ ∧ _)
 simp only [List.getElem?_toArray, List.getElem?_cons_succ, List.getElem?_cons_zero] at c0 c1 c2 c3 c4 c5 c6
 clear kk
 go_wp2_with (refine wpList_store_new w1 rfl 27 (.tmp 1) (.tmp 7) rfl 27 [.string ⟨#[]⟩, .int .i64 0, .int .i64 0, .slice none 0 0, .slice none 0 0, .slice none 0 0, .slice none 0 0] [.string ⟨mm.toArray⟩, .int .i64 mq, .int .i64 mx, .slice m1 m2 m3, .slice n1 n2 n3, .slice p1 p2 p3, .slice q1 q2 q3] rfl rfl rfl (by kernel_rfl) (by simp [Value.oneCell']) ?_; rw [show ([.string ⟨mm.toArray⟩, .int .i64 mq, .int .i64 mx, .slice m1 m2 m3, .slice n1 n2 n3, .slice p1 p2 p3, .slice q1 q2 q3] : List Value).toArray = #[.string ⟨mm.toArray⟩, .int .i64 mq, .int .i64 mx, .slice m1 m2 m3, .slice n1 n2 n3, .slice p1 p2 p3, .slice q1 q2 q3] from rfl, ← hWn, ← hBy]; clear hWn hBy)
 refine HCR.out.mono ?_
 clear HCR c0 c1 c2 c3 c4 c5 c6
 rintro e w3 ⟨v, rfl, hb, ⟨h1, -⟩ | ⟨-, u, rfl, hou, hu⟩⟩
 ·exact absurd (show (0 : Int) = 0 from rfl) h1
 have HW3 := Lib.hid (HW2.out.trans (hb.mono HW2.out.size))
 have HOU := Lib.hid hou
 have HU := Lib.hid hu
 clear hb hou hu
 obtain ⟨am, aq, ax, ⟨a1, a2, a3, al⟩, ⟨f1, f2, f3, fl⟩, ⟨i1, i2, i3, il⟩, ⟨j1, j2, j3, jl⟩⟩ := u
 simp only [TenR.val, TenR.cells, FS.val, strV]
 have hbn := (HW3.out).alloc HW3.out.size (.cells #[.string ⟨am.toArray⟩, .int .i64 aq, .int .i64 ax, .slice a1 a2 a3, .slice f1 f2 f3, .slice i1 i2 i3, .slice j1 j2 j3] 27)
 have kbn := Blk.new w3 27 #[.string ⟨am.toArray⟩, .int .i64 aq, .int .i64 ax, .slice a1 a2 a3, .slice f1 f2 f3, .slice i1 i2 i3, .slice j1 j2 j3]
 have hsn : (w3.alloc (.cells #[.string ⟨am.toArray⟩, .int .i64 aq, .int .i64 ax, .slice a1 a2 a3, .slice f1 f2 f3, .slice i1 i2 i3, .slice j1 j2 j3] 27)).heap.size = w3.heap.size + 1 := by simp
 have HOUn := HOU.out.below ((Below.refl w3.heap.size w3).alloc (Nat.le_refl _) (.cells #[.string ⟨am.toArray⟩, .int .i64 aq, .int .i64 ax, .slice a1 a2 a3, .slice f1 f2 f3, .slice i1 i2 i3, .slice j1 j2 j3] 27))
 obtain ⟨Ba, hBa⟩ : ∃ g, g = w3.heap.size := ⟨_, rfl⟩
 obtain ⟨w4, hWn⟩ : ∃ W, W = (w3.alloc (.cells #[.string ⟨am.toArray⟩, .int .i64 aq, .int .i64 ax, .slice a1 a2 a3, .slice f1 f2 f3, .slice i1 i2 i3, .slice j1 j2 j3] 27)) := ⟨_, rfl⟩
 rw [← hWn] at hbn kbn hsn HOUn
 have HW4 := Lib.hid hbn
 rw [← hBa] at kbn
 have hKa : Hid (∀ W, Below w4.heap.size w4 W → Blk W Ba 27 #[.string ⟨am.toArray⟩, .int .i64 aq, .int .i64 ax, .slice a1 a2 a3, .slice f1 f2 f3, .slice i1 i2 i3, .slice j1 j2 j3]) := fun W h => kbn.below h (by omega)
 have HZa := Lib.hid (show Ba = w3.heap.size ∧ w4.heap.size = w3.heap.size + 1 from ⟨hBa, hsn⟩)
 have HOU := Lib.hid HOUn
 clear hbn kbn hsn HOUn
 have hlen : al.length = 2 := by
  have h := congrArg (fun c : TenC => c.sets.length) HU.out
  simpa [TenR.con] using h
 have hpath : (al[1]'(by omega)).path = [97] := by
  have h := congrArg (fun c : TenC => (c.sets[1]?).map SetC.path) HU.out
  simp only [TenR.con, List.getElem?_map] at h
  rw [List.getElem?_eq_getElem (by omega)] at h
  simpa [SetR.con, set0C] using h
 have ha2 : a2 = 2 := by have h := HOU.out.sets.1; simp only at h; omega
 obtain ⟨ad, rfl, -, q0, -, -, -, -⟩ := set_at HOU.out.rd.sets.2.2 HOU.out.sets.1 (i := 1) (show 1 < a2 by omega)
 simp only [hpath] at q0
 replace q0 : w4.cell? ⟨ad.block, ad.off + 5, none⟩ = some (.string ⟨#[97]⟩) := by simpa [Addr.add] using q0
 have kk := hKa.out w4 (Below.refl _ _)
 have d3 := kk.cell 3
 simp only [List.getElem?_toArray, List.getElem?_cons_succ, List.getElem?_cons_zero] at d3
 have hn1 : ((a2 : Int) == 2) = true := by rw [ha2]; rfl
 have hn2 : (1 : Int) < (a2 : Int) := by omega
 clear kk hlen hpath ha2 HOU HU HO HY hKy
 go_wp2_with (refine wpList_store_new w3 rfl 27 (.tmp 3) (.tmp 12) rfl 27 [.string ⟨#[]⟩, .int .i64 0, .int .i64 0, .slice none 0 0, .slice none 0 0, .slice none 0 0, .slice none 0 0] [.string ⟨am.toArray⟩, .int .i64 aq, .int .i64 ax, .slice (some ad) a2 a3, .slice f1 f2 f3, .slice i1 i2 i3, .slice j1 j2 j3] rfl rfl rfl (by kernel_rfl) (by simp [Value.oneCell']) ?_; rw [show ([.string ⟨am.toArray⟩, .int .i64 aq, .int .i64 ax, .slice (some ad) a2 a3, .slice f1 f2 f3, .slice i1 i2 i3, .slice j1 j2 j3] : List Value).toArray = #[.string ⟨am.toArray⟩, .int .i64 aq, .int .i64 ax, .slice (some ad) a2 a3, .slice f1 f2 f3, .slice i1 i2 i3, .slice j1 j2 j3] from rfl, ← hWn, ← hBa]; clear hWn hBa)
 refine (num16_any _ _).mono ?_
 rintro e w5 ⟨rfl, hw5⟩
 rw [hw5]
 clear hw5 w5
 go_wp2_with fail
 exact bodyPost_ret (v := .bool true) (by simp [results, Tryz.results15, go_sem]) rfl ⟨rfl, HW4.out⟩
end Go.Proofs.YteafdncnnamakaaGreatDoor

/-
 A set that was made and is destroyed: the content is as it was (plain law).
-/
namespace Go.Proofs.YteafdncnnamakaaGreatDoor
open Go.RowKit

theorem upL_lt0 (p : BS) (h : p ≠ []) : (upL p).length < p.length := by
 unfold upL
 rw [List.length_take]
 cases hl : lastS p with
 | none => simp; exact List.length_pos_iff.2 h
 | some k => have := (lastS_some p k hl).1; simp; omega
theorem parB_len0 {p u : BS} (h : parB p = some u) : u.length < p.length ∧ p ≠ [] ∧ pathB p = true ∧ u = upL p := by
 unfold parB at h
 split at h
 ·cases h
 ·rename_i hh
  cases h
  have hne : p ≠ [] := fun e => hh (.inl e)
  exact ⟨upL_lt0 p hne, hne, by simpa using fun e => hh (.inr e), rfl⟩
theorem drop_put {α : Type} (l : List α) (i : Nat) (x : α) (h : i ≤ l.length) : (l.take i ++ x :: l.drop i).drop (i + 1) = l.drop i := by
 have hl : (l.take i ++ [x]).length = i + 1 := by simp; omega
 rw [show l.take i ++ x :: l.drop i = (l.take i ++ [x]) ++ l.drop i by simp, ← hl, List.drop_left]
theorem TenC.E_sets (c : TenC) (h : c.E = 0) : c.sets.length ≤ 32 ∧ (c.sets.any fun x => x.path == []) = true ∧ (∀ s ∈ c.sets, setB (c.sets.map SetC.r) s.r = true) ∧ c.sets.Pairwise fun a b => Op.bytesLess a.path b.path = true := by
 unfold TenC.E tenE at h
 have hb : tenB c.r = true := by
  by_cases hb : tenB c.r = true
  ·exact hb
  ·rw [if_neg hb] at h; exact absurd h (by decide)
 unfold tenB at hb
 simp only [Bool.and_eq_true] at hb
 have hS : setsB (c.sets.map SetC.r) = true := hb.1.1.1.2
 unfold setsB at hS
 simp only [Bool.and_eq_true, decide_eq_true_eq, List.length_map, List.any_map] at hS
 obtain ⟨⟨h1, h2⟩, h3⟩ := hS
 obtain ⟨h4, h5, -⟩ := (setsFrom_iff _ _ _).1 h3
 exact ⟨h1, h2, fun s hs => h4 _ (List.mem_map_of_mem hs), List.pairwise_map.1 h5⟩
theorem TenC.find_lt (c : TenC) (p : BS) (h : c.find p < 0) : ∀ s ∈ c.sets, s.path ≠ p := by
 have h1 := firstI_any (fun s : SetC => s.path == p) c.sets
 rw [show decide ((0 : Int) ≤ firstI (fun s : SetC => s.path == p) c.sets) = false from decide_eq_false (by unfold TenC.find at h; omega)] at h1
 intro s hs e
 have := List.any_eq_false.1 h1.symm s hs
 simp [e] at this
theorem TenC.find_ge (c : TenC) (p : BS) (h : ¬ c.find p < 0) : ∃ s ∈ c.sets, s.path = p := by
 have h1 := firstI_any (fun s : SetC => s.path == p) c.sets
 rw [show decide ((0 : Int) ≤ firstI (fun s : SetC => s.path == p) c.sets) = true from decide_eq_true (by unfold TenC.find at h; omega)] at h1
 obtain ⟨s, hs, e⟩ := List.any_eq_true.1 h1.symm
 exact ⟨s, hs, by simpa using e⟩
theorem firstI_at {α : Type} (q : α → Bool) (l : List α) (k : Nat) (x : α) (h : ∀ y ∈ l.take k, q y = false) (hx : l[k]? = some x) (hp : q x = true) : firstI q l = (k : Int) := by
 unfold firstI
 rw [firstP_eq q l k x h hx hp, if_pos (List.getElem?_eq_some_iff.1 hx).1]
theorem splitL_nil : splitL [] = none := by unfold splitL atL; rfl
theorem clP_nil (p q : BS) : clP p q [] = false := by unfold clP; rw [splitL_nil]
/-- where a set was put -/
theorem TenC.withS_at (c : TenC) (s : SetC) : ∃ i, i ≤ c.sets.length ∧ (c.withS s).sets = c.sets.take i ++ s :: c.sets.drop i := by
 refine ⟨posF (fun x : SetC => cmpS x.path s.path) c.sets, posF_le _ _, ?_⟩
 show c.sets.take _ ++ [s] ++ c.sets.drop _ = _
 rw [List.append_assoc]
 rfl
theorem mem_at {α : Type} {l : List α} {i : Nat} {x y : α} (h : y ∈ l.take i ++ x :: l.drop i) : y = x ∨ y ∈ l := by
 rcases List.mem_append.1 h with h | h
 ·exact .inr (List.mem_of_mem_take h)
 ·rcases List.mem_cons.1 h with h | h
  ·exact .inl h
  ·exact .inr (List.mem_of_mem_drop h)
/-- a place that no set has: nothing stands under it, nothing is a clone of it -/
theorem TenC.free_at (c : TenC) (p : BS) (hE : c.E = 0) (hf : c.find p < 0) : ∀ s ∈ c.sets, parB s.path ≠ some p ∧ ∀ q, clP p q s.org = false := by
 obtain ⟨_, _, hs, _⟩ := c.E_sets hE
 have hn := c.find_lt p hf
 intro s hm
 have h := hs s hm
 unfold setB at h
 simp only [Bool.and_eq_true] at h
 obtain ⟨⟨⟨⟨⟨h1, h2⟩, _⟩, _⟩, _⟩, h6⟩ := h
 constructor
 ·intro e
  have e' : parB s.r.path = some p := e
  rw [e'] at h2
  simp only [List.any_map] at h2
  obtain ⟨x, hx, e2⟩ := List.any_eq_true.1 h2
  exact hn x hx (by simpa [SetC.r] using e2)
 ·intro q
  unfold clP
  unfold originB at h6
  have e0 : s.r.org = s.org := rfl
  rw [e0] at h6
  cases hsp : splitL s.org with
  | none => rfl
  | some v =>
   obtain ⟨a, b⟩ := v
   rw [hsp] at h6
   simp only at h6 ⊢
   have ho : (s.org == []) = false := by
    rw [← Bool.not_eq_true]
    intro e
    have e : s.org = [] := by simpa using e
    rw [e, splitL_nil] at hsp
    cases hsp
   rw [ho, Bool.false_or, Bool.and_eq_true] at h6
   by_cases hap : a = p
   ·subst hap
    have h7 := h6.2
    rw [find_map] at h7
    have : (c.sets.find? fun x : SetC => (SetC.r x).path == a) = none := by
     rw [List.find?_eq_none]
     intro x hx
     simpa [SetC.r] using hn x hx
    rw [this] at h7
    cases h7
   ·have : (a == p) = false := by simpa using hap
    rw [this, Bool.false_and]
theorem filter_none {α : Type} {q : α → Bool} {l : List α} (h : ∀ x ∈ l, q x = false) : (l.filter q).length = 0 := by
 rw [List.length_eq_zero_iff, List.filter_eq_nil_iff]
 intro x hx
 rw [h x hx]
 decide
theorem withS_len (c : TenC) (s : SetC) : (c.withS s).sets.length = c.sets.length + 1 := by
 obtain ⟨i, hi, hw⟩ := c.withS_at s
 rw [hw, List.length_append, List.length_cons, List.length_take, List.length_drop]
 omega
/-- what a set that could be made tells -/
theorem create_ok (c : TenC) (p : BS) (c2 : TenC) (h : (0, c2) = c.create p) : c.E = 0 ∧ pathB p = true ∧ c.find p < 0 ∧ c2 = c.withS (set0C p) ∧ c2.E = 0 := by
 unfold TenC.create at h
 by_cases h1 : c.ask p ≠ 0
 ·rw [if_pos h1] at h
  injection h with h _
  exact absurd h.symm h1
 rw [if_neg h1] at h
 by_cases h2 : 0 ≤ c.find p
 ·rw [if_pos h2] at h
  injection h with h _
  cases h
 rw [if_neg h2] at h
 by_cases h3 : c.find (upL p) < 0
 ·rw [if_pos h3] at h
  injection h with h _
  cases h
 rw [if_neg h3] at h
 by_cases h4 : c.sets.length = 32
 ·rw [if_pos h4] at h
  injection h with h _
  cases h
 rw [if_neg h4] at h
 unfold TenC.settle at h
 by_cases h5 : (c.withS (set0C p)).E = 9
 ·rw [if_pos h5] at h
  injection h with h _
  cases h
 rw [if_neg h5] at h
 split at h
 ·injection h with h _
  cases h
 ·injection h with _ h
  unfold TenC.ask at h1
  have hE : c.E = 0 := by
   rcases c.E_two with h6 | h6
   ·exact h6
   ·rw [if_pos h6] at h1
    exact absurd (by decide) h1
  rw [if_neg (by rw [hE]; decide)] at h1
  have hp : pathB p = true := by
   cases hp : pathB p with
   | true => rfl
   | false => rw [if_pos hp] at h1; exact absurd (by decide) h1
  refine ⟨hE, hp, by omega, h, ?_⟩
  rw [h]
  rcases (c.withS (set0C p)).E_two with h6 | h6
  ·exact h6
  ·exact absurd h6 h5
/-- ShapeBack, by content -/
theorem back_law (c : TenC) (p : BS) (hE : c.E = 0) (hp : pathB p = true) (hf : c.find p < 0) (hst : ∀ s ∈ c.stages, s.into ≠ p) (hE' : (c.withS (set0C p)).E = 0) :
  (c.withS (set0C p)).destroy p = (0, c) ∧ 0 ≤ (c.withS (set0C p)).find p := by
 obtain ⟨i, hi, hw⟩ := c.withS_at (set0C p)
 have hn := c.find_lt p hf
 have hfr := c.free_at p hE hf
 have hne : p ≠ [] := by
  rintro rfl
  obtain ⟨x, hx, e⟩ := List.any_eq_true.1 (c.E_sets hE).2.1
  exact hn x hx (by simpa using e)
 have hask : (c.withS (set0C p)).ask p = 0 := by
  unfold TenC.ask
  rw [if_neg (by rw [hE']; decide), if_neg (by rw [hp]; decide)]
 have hfind : (c.withS (set0C p)).find p = (i : Int) := by
  unfold TenC.find
  rw [hw]
  refine firstI_at _ _ i (set0C p) (fun y hy => ?_) (by rw [List.getElem?_append_right (by rw [List.length_take]; omega), List.length_take, Nat.min_eq_left hi, Nat.sub_self]; rfl) (by simp [set0C])
  rw [List.take_append_of_le_length (by rw [List.length_take]; omega), List.take_take, Nat.min_self] at hy
  simpa using hn y (List.mem_of_mem_take hy)
 have hk : (c.withS (set0C p)).kids p = 0 := by
  unfold TenC.kids
  rw [hw]
  refine filter_none fun y hy => ?_
  rcases mem_at hy with rfl | hy
  ·show (parB p == some p) = false
   rw [← Bool.not_eq_true]
   intro e
   have e : parB p = some p := by simpa using e
   have := (parB_len0 e).1
   omega
  ·rw [← Bool.not_eq_true]
   intro e
   exact (hfr y hy).1 (by simpa using e)
 have hc : (c.withS (set0C p)).clones p [] = 0 := by
  unfold TenC.clones
  rw [hw]
  refine filter_none fun y hy => ?_
  rcases mem_at hy with rfl | hy
  ·exact clP_nil _ _
  ·exact (hfr y hy).2 []
 have hs : ((c.withS (set0C p)).stages.any fun s => s.into == p) = false := by
  rw [List.any_eq_false]
  intro x hx
  simpa using hst x hx
 have hh : (c.withS (set0C p)).heldAt i = false := by
  unfold TenC.heldAt
  rw [hw, List.getElem?_append_right (by rw [List.length_take]; omega), List.length_take, Nat.min_eq_left hi, Nat.sub_self]
  rfl
 refine ⟨?_, by rw [hfind]; omega⟩
 unfold TenC.destroy
 rw [hask, if_neg (by decide), hfind, if_neg (by omega), hk, hc, hs, if_neg (by simp [hne]), show ((i : Int)).toNat = i from Int.toNat_natCast i, hh, if_neg (by decide)]
 congr 1
 unfold TenC.dropS
 rw [hw, List.take_append_of_le_length (by rw [List.length_take]; omega), List.take_take, Nat.min_self, drop_put _ i _ hi]
 obtain ⟨nm, qu, nx, ss, gs, ts, ls⟩ := c
 show TenC.mk _ _ _ _ _ _ _ = _
 congr 1
 exact List.take_append_drop i ss
end Go.Proofs.YteafdncnnamakaaGreatDoor

/-
 ShapeBack: a set that was made is there, and gone when it is destroyed: the law's walk.
-/
namespace Go.Proofs.YteafdncnnamakaaGreatDoor
open Go.RowKit

theorem set0C_free (p : BS) : (set0C p).snaps = [] := rfl
set_option maxRecDepth 100000 in
set_option maxHeartbeats 8000000 in
theorem shapeBack_any (t : TenR) (p : BS) (w : World) (hr : t.rd w w.heap.size) (hz : t.sz) (hp : p.length ≤ 4000000000) (hmx : HasMax w) :
  Calls Tryz.prog 4 #[t.val, .string ⟨p.toArray⟩] w fun e w' => e = .returned (.bool true) ∧ Below w.heap.size w w' := by
 have hcz := TenC.sz_of hr hz
 obtain ⟨nm, qu, nx, ⟨s1, sn, s3, sl⟩, ⟨u1, un, u3, ul⟩, ⟨t1, tn, t3, tl⟩, ⟨l1, ln, l3, ll⟩⟩ := t
 show Calls Tryz.prog 4 #[.agg #[.string ⟨nm.toArray⟩, .int .i64 qu, .int .i64 nx, .slice s1 sn s3, .slice u1 un u3, .slice t1 tn t3, .slice l1 ln l3], .string ⟨p.toArray⟩] w _
 have hb := ((Below.refl w.heap.size w).alloc (Nat.le_refl _) (.cells #[.string ⟨nm.toArray⟩, .int .i64 qu, .int .i64 nx, .slice s1 sn s3, .slice u1 un u3, .slice t1 tn t3, .slice l1 ln l3] 27))
 have kt := Blk.new w 27 #[.string ⟨nm.toArray⟩, .int .i64 qu, .int .i64 nx, .slice s1 sn s3, .slice u1 un u3, .slice t1 tn t3, .slice l1 ln l3]
 have hsz : (w.alloc (.cells #[.string ⟨nm.toArray⟩, .int .i64 qu, .int .i64 nx, .slice s1 sn s3, .slice u1 un u3, .slice t1 tn t3, .slice l1 ln l3] 27)).heap.size = w.heap.size + 1 := by simp
 obtain ⟨W1, hW1⟩ : ∃ W, W = (w.alloc (.cells #[.string ⟨nm.toArray⟩, .int .i64 qu, .int .i64 nx, .slice s1 sn s3, .slice u1 un u3, .slice t1 tn t3, .slice l1 ln l3] 27)) := ⟨_, rfl⟩
 rw [← hW1] at hb hsz kt
 have hKt : Hid (∀ W, Below W1.heap.size W1 W → Blk W w.heap.size 27 #[.string ⟨nm.toArray⟩, .int .i64 qu, .int .i64 nx, .slice s1 sn s3, .slice u1 un u3, .slice t1 tn t3, .slice l1 ln l3]) := fun W h => kt.below h (by omega)
 have hBW : Hid (∀ W, Below W1.heap.size W1 W → Below w.heap.size w W) := fun W h => hb.trans (h.mono (by omega))
 have hSZ : Hid (∀ W, Below W1.heap.size W1 W → w.heap.size + 1 ≤ W.heap.size) := fun W h => by have := h.size; omega
 have hW0 : Hid (Below W1.heap.size W1 W1) := Below.refl _ _
 have hrw : Hid (∀ W, Below W1.heap.size W1 W → TenR.rd W w.heap.size ⟨nm, qu, nx, ⟨s1, sn, s3, sl⟩, ⟨u1, un, u3, ul⟩, ⟨t1, tn, t3, tl⟩, ⟨l1, ln, l3, ll⟩⟩ ∧ w.heap.size ≤ W.heap.size ∧ HasMax W) := fun W h =>
  ⟨TenR.rd.below hr (hBW.out W h), by have := hSZ.out W h; omega, hmx.below (hBW.out W h)⟩
 obtain ⟨C, hC⟩ : ∃ C, C = TenR.con ⟨nm, qu, nx, ⟨s1, sn, s3, sl⟩, ⟨u1, un, u3, ul⟩, ⟨t1, tn, t3, tl⟩, ⟨l1, ln, l3, ll⟩⟩ := ⟨_, rfl⟩
 have hHC := Lib.hid hC
 rw [← hC] at hcz
 have hAL : Hid (∀ W, Below W1.heap.size W1 W → Calls Tryz.prog 15 #[] W fun e w' => e = .returned (.bool true) ∧ Below W.heap.size W w') := fun W h => alive16_any W (hrw.out W h).2.2
 have hCR : Hid (∀ W, Below W1.heap.size W1 W → Calls Tryz.prog 7 #[.agg #[.string ⟨nm.toArray⟩, .int .i64 qu, .int .i64 nx, .slice s1 sn s3, .slice u1 un u3, .slice t1 tn t3, .slice l1 ln l3], .string ⟨p.toArray⟩] W (TenPost W (C.create p))) := fun W h => by
  rw [hC]
  exact create_any ⟨nm, qu, nx, ⟨s1, sn, s3, sl⟩, ⟨u1, un, u3, ul⟩, ⟨t1, tn, t3, tl⟩, ⟨l1, ln, l3, ll⟩⟩ p W w.heap.size (hrw.out W h).2.1 (hrw.out W h).1 hz hp (hrw.out W h).2.2
 have HTN := Lib.hid (show tn = tl.length from hr.stages.1)
 have HST : Hid (∀ s ∈ tl, s.into ≠ p) → ∀ s ∈ C.stages, s.into ≠ p := fun h s hs => by
  rw [hC] at hs
  obtain ⟨x, hx, rfl⟩ := List.mem_map.1 (show s ∈ tl.map StageR.con from hs)
  exact h.out x hx
 have HSTG := Lib.hid HST
 have HZ := Lib.hid hz
 have HCZ := Lib.hid hcz
 have htn : tn ≤ 1000000000000 := hz.stages
 have HP := Lib.hid hp
 clear hb hsz kt hr hz hp hmx hC HST hcz
 go_enter Tryz.func4, Tryz.ntmps4
 have hc := hAL.out  W1 hW0.out
 go_wp2_with fail
 rw [← hW1]
 clear hW1
 refine hc.mono ?_
 clear hc 
 rintro e w2 ⟨rfl, hb⟩
 have HW2 := Lib.hid (hW0.out.trans (hb.mono hW0.out.size))
 clear hb
 go_wp2_with fail
 go_loopw [5] (fun a wr => ∃ k : Nat, k ≤ tn ∧ a = .int .i64 (k : Int) ∧ Hid (∀ y ∈ tl.take k, y.into ≠ p) ∧ Below W1.heap.size W1 wr) (fun a _ => tn - (intOf a).toNat)
 case atStart => exact ⟨0, Nat.zero_le _, rfl, (show ∀ y ∈ _, _ by simp), HW2.out⟩
 case round =>
  obtain ⟨k, hk, rfl, hno, hbw⟩ := hrel
  have HWr := Lib.hid hbw
  have kk := hKt.out wr hbw
  have d5 := kk.cell 5
  simp only [List.getElem?_toArray, List.getElem?_cons_succ, List.getElem?_cons_zero] at d5
  clear kk
  by_cases hlt : k < tn
  ·have hki : (k : Int) < (tn : Int) := by omega
   have hk0 : (0 : Int) ≤ (k : Int) := by omega
   have hkl : k < tl.length := by have := HTN.out; omega
   obtain ⟨ad, rfl, _, hel⟩ := Reads.elK (k := 21) (enc := encStage) (fun _ => rfl) (hrw.out wr hbw).1.stages.2.2 HTN.out hlt
   have q0 : wr.cell? (ad.add (k * 21)) = some (.string ⟨(tl[k]'hkl).into.toArray⟩) := by
    have h := hel 0 (by decide)
    rw [add_zero] at h
    exact h
   obtain ⟨x, hx⟩ : ∃ x, x = tl[k]'hkl := ⟨_, rfl⟩
   rw [← hx] at q0
   have htk := List.take_succ_eq_append_getElem hkl
   rw [← hx] at htk
   have HTK := Lib.hid htk
   obtain ⟨xi, hxi⟩ : ∃ i, i = x.into := ⟨_, rfl⟩
   rw [← hxi] at q0
   have HXI := Lib.hid hxi
   clear hx htk hel hxi hbw
   by_cases he : xi = p
   ·subst he
    go_wp2_with fail
    go_ret
    exact ⟨rfl, hBW.out _ HWr.out⟩
   ·have he1 : (xi == p) = false := by simpa using he
    have he2 : (xi.toArray == p.toArray) = false := by simpa using he
    go_wp2_with fail
    go_roundw
    case rel =>
     refine ⟨k + 1, by omega, by go_num, ?_, HWr.out⟩
     show ∀ y ∈ tl.take (k + 1), y.into ≠ p
     intro y hy
     rw [HTK.out] at hy
     rcases List.mem_append.1 hy with hy | hy
     ·exact hno.out y hy
     ·simp at hy; subst hy; rw [← HXI.out]; exact he
    case measure => simp [intOf]; omega
  ·have hkn : k = tn := by omega
   have HNO := Lib.hid (HSTG.out (Lib.hid fun s hs => hno.out s (by rw [List.take_of_length_le (by rw [hkn, HTN.out]; exact Nat.le_refl _)]; exact hs)))
   clear hkn hno
   have hc := hCR.out wr HWr.out
   obtain ⟨⟨E, C2⟩, hV2⟩ : ∃ V2 : Int × TenC, V2 = C.create p := ⟨_, rfl⟩
   rw [← hV2] at hc
   have HV2 := Lib.hid hV2
   clear hV2 hCR
   have kk := hKt.out wr HWr.out
   obtain ⟨c0, c1, c2, c3, c4, c5, c6⟩ := (⟨kk.cell 0, kk.cell 1, kk.cell 2, kk.cell 3, kk.cell 4, kk.cell 5, kk.cell 6⟩ : _ ∧ _ ∧ _ ∧ _ ∧ _ ∧ _ ∧ _)
   simp only [List.getElem?_toArray, List.getElem?_cons_succ, List.getElem?_cons_zero] at c0 c1 c2 c3 c4 c5 c6
   clear kk
   clear d5
   go_wp2_with fail
   refine hc.mono ?_
   clear hc c0 c1 c2 c3 c4 c5 c6 hbw
   rintro e w3 ⟨v, rfl, hb, hcs⟩
   have HW3 := Lib.hid (HWr.out.trans (hb.mono HWr.out.size))
   have HB3 := Lib.hid hb
   clear hb
   rcases hcs with ⟨h1, rfl⟩ | ⟨h1, u, rfl, hou, hu⟩
   ·have hE : ¬ E = 0 := h1
    clear h1
    unfold ZEROT
    have hbn := (HW3.out).alloc HW3.out.size (.cells #[.string ⟨#[]⟩, .int .i64 0, .int .i64 0, .slice none 0 0, .slice none 0 0, .slice none 0 0, .slice none 0 0] 27)
    have kbn := Blk.new w3 27 #[.string ⟨#[]⟩, .int .i64 0, .int .i64 0, .slice none 0 0, .slice none 0 0, .slice none 0 0, .slice none 0 0]
    have hsn : (w3.alloc (.cells #[.string ⟨#[]⟩, .int .i64 0, .int .i64 0, .slice none 0 0, .slice none 0 0, .slice none 0 0, .slice none 0 0] 27)).heap.size = w3.heap.size + 1 := by simp
    obtain ⟨Ba, hBa⟩ : ∃ g, g = w3.heap.size := ⟨_, rfl⟩
    obtain ⟨w4, hWn⟩ : ∃ W, W = (w3.alloc (.cells #[.string ⟨#[]⟩, .int .i64 0, .int .i64 0, .slice none 0 0, .slice none 0 0, .slice none 0 0, .slice none 0 0] 27)) := ⟨_, rfl⟩
    rw [← hWn] at hbn kbn hsn 
    have HW4 := Lib.hid hbn
    rw [← hBa] at kbn
    have hKa : Hid (∀ W, Below w4.heap.size w4 W → Blk W Ba 27 #[.string ⟨#[]⟩, .int .i64 0, .int .i64 0, .slice none 0 0, .slice none 0 0, .slice none 0 0, .slice none 0 0]) := fun W h => kbn.below h (by omega)
    have HZa := Lib.hid (show Ba = w3.heap.size ∧ w4.heap.size = w3.heap.size + 1 from ⟨hBa, hsn⟩)
    clear hbn kbn hsn 
    have kk := hKa.out w4 (Below.refl _ _)
    have d3 := kk.cell 3
    simp only [List.getElem?_toArray, List.getElem?_cons_succ, List.getElem?_cons_zero] at d3
    clear kk
    go_wp2_with (refine wpList_store_new w3 rfl 27 (.tmp 6) (.tmp 31) rfl 27 [.string ⟨#[]⟩, .int .i64 0, .int .i64 0, .slice none 0 0, .slice none 0 0, .slice none 0 0, .slice none 0 0] [.string ⟨#[]⟩, .int .i64 0, .int .i64 0, .slice none 0 0, .slice none 0 0, .slice none 0 0, .slice none 0 0] rfl rfl rfl (by kernel_rfl) (by simp [Value.oneCell']) ?_; rw [show ([.string ⟨#[]⟩, .int .i64 0, .int .i64 0, .slice none 0 0, .slice none 0 0, .slice none 0 0, .slice none 0 0] : List Value).toArray = #[.string ⟨#[]⟩, .int .i64 0, .int .i64 0, .slice none 0 0, .slice none 0 0, .slice none 0 0, .slice none 0 0] from rfl, ← hWn, ← hBa]; clear hWn hBa)
    go_ret
    exact ⟨rfl, hBW.out _ HW4.out⟩
   ·simp only at h1 hu
    subst h1
    have HOU := Lib.hid hou
    have HU := Lib.hid hu
    have hmade : C.E = 0 ∧ pathB p = true ∧ C.find p < 0 ∧ C2 = C.withS (set0C p) ∧ C2.E = 0 := create_ok C p C2 HV2.out
    have HMD := Lib.hid hmade
    clear hou hu hmade
    have HBK : Hid (C2.destroy p = (0, C) ∧ 0 ≤ C2.find p) := by
     obtain ⟨h1, h2, h3, h4, h5⟩ := HMD.out
     subst h4
     exact back_law C p h1 h2 h3 HNO.out h5
    obtain ⟨am, aq, ax, ⟨a1, a2, a3, al⟩, ⟨f1, f2, f3, fl⟩, ⟨i1, i2, i3, il⟩, ⟨j1, j2, j3, jl⟩⟩ := u
    simp only [TenR.val, TenR.cells, FS.val, strV]
    have hbn := (HW3.out).alloc HW3.out.size (.cells #[.string ⟨am.toArray⟩, .int .i64 aq, .int .i64 ax, .slice a1 a2 a3, .slice f1 f2 f3, .slice i1 i2 i3, .slice j1 j2 j3] 27)
    have kbn := Blk.new w3 27 #[.string ⟨am.toArray⟩, .int .i64 aq, .int .i64 ax, .slice a1 a2 a3, .slice f1 f2 f3, .slice i1 i2 i3, .slice j1 j2 j3]
    have hsn : (w3.alloc (.cells #[.string ⟨am.toArray⟩, .int .i64 aq, .int .i64 ax, .slice a1 a2 a3, .slice f1 f2 f3, .slice i1 i2 i3, .slice j1 j2 j3] 27)).heap.size = w3.heap.size + 1 := by simp
    have HOUn := HOU.out.below ((Below.refl w3.heap.size w3).alloc (Nat.le_refl _) (.cells #[.string ⟨am.toArray⟩, .int .i64 aq, .int .i64 ax, .slice a1 a2 a3, .slice f1 f2 f3, .slice i1 i2 i3, .slice j1 j2 j3] 27))
    obtain ⟨Ba, hBa⟩ : ∃ g, g = w3.heap.size := ⟨_, rfl⟩
    obtain ⟨w4, hWn⟩ : ∃ W, W = (w3.alloc (.cells #[.string ⟨am.toArray⟩, .int .i64 aq, .int .i64 ax, .slice a1 a2 a3, .slice f1 f2 f3, .slice i1 i2 i3, .slice j1 j2 j3] 27)) := ⟨_, rfl⟩
    rw [← hWn] at hbn kbn hsn HOUn
    have HW4 := Lib.hid hbn
    rw [← hBa] at kbn
    have hKa : Hid (∀ W, Below w4.heap.size w4 W → Blk W Ba 27 #[.string ⟨am.toArray⟩, .int .i64 aq, .int .i64 ax, .slice a1 a2 a3, .slice f1 f2 f3, .slice i1 i2 i3, .slice j1 j2 j3]) := fun W h => kbn.below h (by omega)
    have HZa := Lib.hid (show Ba = w3.heap.size ∧ w4.heap.size = w3.heap.size + 1 from ⟨hBa, hsn⟩)
    have HOU := Lib.hid HOUn
    clear hbn kbn hsn HOUn
    have hDE := destroy_any ⟨am, aq, ax, ⟨a1, a2, a3, al⟩, ⟨f1, f2, f3, fl⟩, ⟨i1, i2, i3, il⟩, ⟨j1, j2, j3, jl⟩⟩ p w4 w4.heap.size (Nat.le_refl _) HOU.out.rd (TenR.sz_of HOU.out.rd (by rw [HU.out, HMD.out.2.2.2.1]; exact HCZ.out.withS (set0C_sz p HP.out) (by have := (C.E_sets HMD.out.1).1; omega))) HP.out (hrw.out w4 HW4.out).2.2
    rw [HU.out, HBK.out.1] at hDE
    have HDE := Lib.hid hDE
    clear hDE
    have kk := hKa.out w4 (Below.refl _ _)
    obtain ⟨d0, d1, d2, d3, d4, d5, d6⟩ := (⟨kk.cell 0, kk.cell 1, kk.cell 2, kk.cell 3, kk.cell 4, kk.cell 5, kk.cell 6⟩ : _ ∧ _ ∧ _ ∧ _ ∧ _ ∧ _ ∧ _)
    simp only [List.getElem?_toArray, List.getElem?_cons_succ, List.getElem?_cons_zero] at d0 d1 d2 d3 d4 d5 d6
    clear kk
    go_wp2_with (refine wpList_store_new w3 rfl 27 (.tmp 6) (.tmp 31) rfl 27 [.string ⟨#[]⟩, .int .i64 0, .int .i64 0, .slice none 0 0, .slice none 0 0, .slice none 0 0, .slice none 0 0] [.string ⟨am.toArray⟩, .int .i64 aq, .int .i64 ax, .slice a1 a2 a3, .slice f1 f2 f3, .slice i1 i2 i3, .slice j1 j2 j3] rfl rfl rfl (by kernel_rfl) (by simp [Value.oneCell']) ?_; rw [show ([.string ⟨am.toArray⟩, .int .i64 aq, .int .i64 ax, .slice a1 a2 a3, .slice f1 f2 f3, .slice i1 i2 i3, .slice j1 j2 j3] : List Value).toArray = #[.string ⟨am.toArray⟩, .int .i64 aq, .int .i64 ax, .slice a1 a2 a3, .slice f1 f2 f3, .slice i1 i2 i3, .slice j1 j2 j3] from rfl, ← hWn, ← hBa]; clear hWn hBa)
    refine HDE.out.mono ?_
    clear HDE d0 d1 d2 d3 d4 d5 d6
    rintro e w5 ⟨v, rfl, hb, ⟨h1, -⟩ | ⟨-, z, rfl, hoz, hz⟩⟩
    ·exact absurd (show (0 : Int) = 0 from rfl) h1
    have HW5 := Lib.hid (HW4.out.trans (hb.mono HW4.out.size))
    have HB5 := Lib.hid hb
    have HOZ := Lib.hid hoz
    have HZC := Lib.hid hz
    have HOU5 := Lib.hid (HOU.out.below hb)
    clear hb hoz hz
    obtain ⟨mm, mq, mx, ⟨m1, m2, m3, ml⟩, ⟨n1, n2, n3, nl⟩, ⟨p1, p2, p3, pl⟩, ⟨q1, q2, q3, ql⟩⟩ := z
    simp only [TenR.val, TenR.cells, FS.val, strV]
    have hbn := (HW5.out).alloc HW5.out.size (.cells #[.string ⟨mm.toArray⟩, .int .i64 mq, .int .i64 mx, .slice m1 m2 m3, .slice n1 n2 n3, .slice p1 p2 p3, .slice q1 q2 q3] 27)
    have kbn := Blk.new w5 27 #[.string ⟨mm.toArray⟩, .int .i64 mq, .int .i64 mx, .slice m1 m2 m3, .slice n1 n2 n3, .slice p1 p2 p3, .slice q1 q2 q3]
    have hsn : (w5.alloc (.cells #[.string ⟨mm.toArray⟩, .int .i64 mq, .int .i64 mx, .slice m1 m2 m3, .slice n1 n2 n3, .slice p1 p2 p3, .slice q1 q2 q3] 27)).heap.size = w5.heap.size + 1 := by simp
    have HOZn := HOZ.out.below ((Below.refl w5.heap.size w5).alloc (Nat.le_refl _) (.cells #[.string ⟨mm.toArray⟩, .int .i64 mq, .int .i64 mx, .slice m1 m2 m3, .slice n1 n2 n3, .slice p1 p2 p3, .slice q1 q2 q3] 27))
    have HOU5n := HOU5.out.below ((Below.refl w5.heap.size w5).alloc (Nat.le_refl _) (.cells #[.string ⟨mm.toArray⟩, .int .i64 mq, .int .i64 mx, .slice m1 m2 m3, .slice n1 n2 n3, .slice p1 p2 p3, .slice q1 q2 q3] 27))
    obtain ⟨By, hBy⟩ : ∃ g, g = w5.heap.size := ⟨_, rfl⟩
    obtain ⟨w6, hWn⟩ : ∃ W, W = (w5.alloc (.cells #[.string ⟨mm.toArray⟩, .int .i64 mq, .int .i64 mx, .slice m1 m2 m3, .slice n1 n2 n3, .slice p1 p2 p3, .slice q1 q2 q3] 27)) := ⟨_, rfl⟩
    rw [← hWn] at hbn kbn hsn HOZn HOU5n
    have HW6 := Lib.hid hbn
    rw [← hBy] at kbn
    have hKy : Hid (∀ W, Below w6.heap.size w6 W → Blk W By 27 #[.string ⟨mm.toArray⟩, .int .i64 mq, .int .i64 mx, .slice m1 m2 m3, .slice n1 n2 n3, .slice p1 p2 p3, .slice q1 q2 q3]) := fun W h => kbn.below h (by omega)
    have HZy := Lib.hid (show By = w5.heap.size ∧ w6.heap.size = w5.heap.size + 1 from ⟨hBy, hsn⟩)
    have HOZ := Lib.hid HOZn
    have HOU5 := Lib.hid HOU5n
    clear hbn kbn hsn HOZn HOU5n
    have hSM := same14_any ⟨mm, mq, mx, ⟨m1, m2, m3, ml⟩, ⟨n1, n2, n3, nl⟩, ⟨p1, p2, p3, pl⟩, ⟨q1, q2, q3, ql⟩⟩ ⟨nm, qu, nx, ⟨s1, sn, s3, sl⟩, ⟨u1, un, u3, ul⟩, ⟨t1, tn, t3, tl⟩, ⟨l1, ln, l3, ll⟩⟩ ((TenR.eqv_iff _ _).2 (by rw [HZC.out, hHC.out])) w6 w6.heap.size (Nat.le_refl _) HOZ.out.rd ((hrw.out w6 HW6.out).1.more (hrw.out w6 HW6.out).2.1) (TenR.sz_of HOZ.out.rd (by rw [HZC.out]; exact HCZ.out))
    have HSM := Lib.hid hSM
    have HFD : Hid (∀ W, Below w6.heap.size w6 W → Calls Tryz.prog 16 #[.agg #[.string ⟨am.toArray⟩, .int .i64 aq, .int .i64 ax, .slice a1 a2 a3, .slice f1 f2 f3, .slice i1 i2 i3, .slice j1 j2 j3], .string ⟨p.toArray⟩] W fun e w' => e = .returned (.int .i64 (C2.find p)) ∧ Below W.heap.size W w') := fun W h => by
     have h1 := refFind_any (.string ⟨am.toArray⟩) (.int .i64 aq) (.int .i64 ax) (.slice f1 f2 f3) (.slice i1 i2 i3) (.slice j1 j2 j3) al a2 HOU5.out.sets.1 a1 a3 p W w6.heap.size (HOU5.out.rd.sets.2.2.below h) h.size (by have h1 := (C.E_sets HMD.out.1).1; have h2 := congrArg (fun c : TenC => c.sets.length) HU.out; have h3 := congrArg (fun c : TenC => c.sets.length) HMD.out.2.2.2.1; have h4 := HOU5.out.sets.1; have h5 : (C.withS (set0C p)).sets.length = C.sets.length + 1 := withS_len _ _; simp only [TenR.con, List.length_map] at h2 h3 h4; omega)
     rw [show findS al p = C2.find p by rw [← HU.out]; exact findS_con ⟨am, aq, ax, ⟨a1, a2, a3, al⟩, ⟨f1, f2, f3, fl⟩, ⟨i1, i2, i3, il⟩, ⟨j1, j2, j3, jl⟩⟩ p] at h1
     exact h1
    obtain ⟨F, hF⟩ : ∃ F, F = C2.find p := ⟨_, rfl⟩
    have hF0 : 0 ≤ F := by rw [hF]; exact HBK.out.2
    rw [← hF] at HFD
    have hS6 : Hid (∀ W, Below w6.heap.size w6 W → Below w4.heap.size w4 W) := fun W h => by
     have h1 := HB5.out.trans ((((Below.refl w5.heap.size w5).alloc (Nat.le_refl _) (.cells #[.string ⟨mm.toArray⟩, .int .i64 mq, .int .i64 mx, .slice m1 m2 m3, .slice n1 n2 n3, .slice p1 p2 p3, .slice q1 q2 q3] 27))).mono HB5.out.size)
     rw [← hWn] at h1
     exact h1.trans (h.mono h1.size)
    have kk := hKt.out w6 HW6.out
    obtain ⟨c0, c1, c2, c3, c4, c5, c6⟩ := (⟨kk.cell 0, kk.cell 1, kk.cell 2, kk.cell 3, kk.cell 4, kk.cell 5, kk.cell 6⟩ : _ ∧ _ ∧ _ ∧ _ ∧ _ ∧ _ ∧ _)
    simp only [List.getElem?_toArray, List.getElem?_cons_succ, List.getElem?_cons_zero] at c0 c1 c2 c3 c4 c5 c6
    have kk := hKy.out w6 (Below.refl _ _)
    obtain ⟨d0, d1, d2, d3, d4, d5, d6⟩ := (⟨kk.cell 0, kk.cell 1, kk.cell 2, kk.cell 3, kk.cell 4, kk.cell 5, kk.cell 6⟩ : _ ∧ _ ∧ _ ∧ _ ∧ _ ∧ _ ∧ _)
    simp only [List.getElem?_toArray, List.getElem?_cons_succ, List.getElem?_cons_zero] at d0 d1 d2 d3 d4 d5 d6
    clear kk hF hSM
    go_wp2_with (refine wpList_store_new w5 rfl 27 (.tmp 8) (.tmp 43) rfl 27 [.string ⟨#[]⟩, .int .i64 0, .int .i64 0, .slice none 0 0, .slice none 0 0, .slice none 0 0, .slice none 0 0] [.string ⟨mm.toArray⟩, .int .i64 mq, .int .i64 mx, .slice m1 m2 m3, .slice n1 n2 n3, .slice p1 p2 p3, .slice q1 q2 q3] rfl rfl rfl (by kernel_rfl) (by simp [Value.oneCell']) ?_; rw [show ([.string ⟨mm.toArray⟩, .int .i64 mq, .int .i64 mx, .slice m1 m2 m3, .slice n1 n2 n3, .slice p1 p2 p3, .slice q1 q2 q3] : List Value).toArray = #[.string ⟨mm.toArray⟩, .int .i64 mq, .int .i64 mx, .slice m1 m2 m3, .slice n1 n2 n3, .slice p1 p2 p3, .slice q1 q2 q3] from rfl, ← hWn, ← hBy]; clear hWn hBy)
    refine HSM.out.mono ?_
    clear HSM c0 c1 c2 c3 c4 c5 c6 d0 d1 d2 d3 d4 d5 d6
    rintro e w7 ⟨rfl, hb⟩
    have HB7 := Lib.hid hb
    have HW7 := Lib.hid (HW6.out.trans (hb.mono HW6.out.size))
    clear hb
    have hc := HFD.out w7 HB7.out
    have kk := hKa.out w7 (hS6.out w7 HB7.out)
    obtain ⟨c0, c1, c2, c3, c4, c5, c6⟩ := (⟨kk.cell 0, kk.cell 1, kk.cell 2, kk.cell 3, kk.cell 4, kk.cell 5, kk.cell 6⟩ : _ ∧ _ ∧ _ ∧ _ ∧ _ ∧ _ ∧ _)
    simp only [List.getElem?_toArray, List.getElem?_cons_succ, List.getElem?_cons_zero] at c0 c1 c2 c3 c4 c5 c6
    clear kk
    go_wp2_with fail
    refine hc.mono ?_
    clear hc c0 c1 c2 c3 c4 c5 c6
    rintro e w8 ⟨rfl, hb⟩
    have HW8 := Lib.hid (HW7.out.trans (hb.mono HW7.out.size))
    clear hb
    go_wp2_with fail
    go_ret
    exact ⟨rfl, hBW.out _ HW8.out⟩
end Go.Proofs.YteafdncnnamakaaGreatDoor
