/-
  The example of chapter 16: the page's New, and a set made. shape.changed: a tenant with a set turned by something. A set that was made and is destroyed: the content is as it was (plain law). shape.Write, Free, Set, Unset: a set's body or its properties turned.
-/
import Derived.Test.YteafdncnnamakaaGreatDoorK0
import Derived.Test.YteafdncnnamakaaGreatDoorK23
import Derived.Test.YteafdncnnamakaaGreatDoorK24
namespace Go.Proofs.YteafdncnnamakaaGreatDoor
open Go.RowKit
theorem num16_any (n : Int) (w : World) : Calls Tryz.prog 14 #[.int .i64 n] w fun e w' => e = .returned (.int .i64 n) ∧ w' = w := by
 go_enter Tryz.func14, Tryz.ntmps14
 go_wp2_with fail
 go_ret
 exact ⟨rfl, rfl⟩
theorem new0C_sz (q : Int) : (new0C q).sz where
 nm := by show (1 : Nat) ≤ 4000000000; decide
 sets := by show (1 : Nat) ≤ 1000000000000; decide
 eachS := by
  intro y hy
  rw [show (new0C q).sets = [set0C []] from rfl, List.mem_singleton] at hy
  subst hy
  exact set0C_sz [] (by decide)
 grants := by show (0 : Nat) ≤ 1000000000000; decide
 eachG := fun y hy => by cases hy
 stages := by show (0 : Nat) ≤ 1000000000000; decide
 eachT := fun y hy => by cases hy
 log := by show (0 : Nat) ≤ 1000000000000; decide
 eachL := fun y hy => by cases hy
theorem new0_create : (new0C 9).create [97] = (0, ⟨[116], 9, 1, [set0C [], set0C [97]], [], [], []⟩) := by
 unfold TenC.create
 rw [show (new0C 9).ask [97] = 0 by decide +kernel, if_neg (by decide), show (new0C 9).find [97] = -1 by decide +kernel, if_neg (by decide), show (new0C 9).find (upL [97]) = 0 by decide +kernel, if_neg (by decide), if_neg (by decide)]
 rw [show (new0C 9).withS (set0C [97]) = ⟨[116], 9, 1, [set0C [], set0C [97]], [], [], []⟩ by kernel_rfl]
 unfold TenC.settle
 rw [if_neg (by decide +kernel), if_neg (by decide)]
set_option maxRecDepth 100000 in
set_option maxHeartbeats 4000000 in
theorem alive16_any (w : World) (hmx : HasMax w) : Calls Tryz.prog 15 #[] w fun e w' => e = .returned (.bool true) ∧ Below w.heap.size w w' := by
 go_enter Tryz.func15, Tryz.ntmps15
 go_wp2_with fail
 refine (rnew_any 9 (by decide) (by decide) _).mono ?_
 rintro e w1 ⟨y, rfl, ho, hy, hb⟩
 have HW1 := Lib.hid hb
 have HO := Lib.hid ho
 have HY := Lib.hid hy
 clear hb ho hy
 obtain ⟨mm, mq, mx, ⟨m1, m2, m3, ml⟩, ⟨n1, n2, n3, nl⟩, ⟨p1, p2, p3, pl⟩, ⟨q1, q2, q3, ql⟩⟩ := y
 simp only [TenR.val, TenR.cells, FS.val, strV]
 have hbn := (HW1.out).alloc HW1.out.size (.cells #[.string ⟨mm.toArray⟩, .int .i64 mq, .int .i64 mx, .slice m1 m2 m3, .slice n1 n2 n3, .slice p1 p2 p3, .slice q1 q2 q3] 27)
 have kbn := Blk.new w1 27 #[.string ⟨mm.toArray⟩, .int .i64 mq, .int .i64 mx, .slice m1 m2 m3, .slice n1 n2 n3, .slice p1 p2 p3, .slice q1 q2 q3]
 have hsn : (w1.alloc (.cells #[.string ⟨mm.toArray⟩, .int .i64 mq, .int .i64 mx, .slice m1 m2 m3, .slice n1 n2 n3, .slice p1 p2 p3, .slice q1 q2 q3] 27)).heap.size = w1.heap.size + 1 := by simp
 have HOn := HO.out.below ((Below.refl w1.heap.size w1).alloc (Nat.le_refl _) (.cells #[.string ⟨mm.toArray⟩, .int .i64 mq, .int .i64 mx, .slice m1 m2 m3, .slice n1 n2 n3, .slice p1 p2 p3, .slice q1 q2 q3] 27))
 obtain ⟨By, hBy⟩ : ∃ g, g = w1.heap.size := ⟨_, rfl⟩
 obtain ⟨w2, hWn⟩ : ∃ W, W = (w1.alloc (.cells #[.string ⟨mm.toArray⟩, .int .i64 mq, .int .i64 mx, .slice m1 m2 m3, .slice n1 n2 n3, .slice p1 p2 p3, .slice q1 q2 q3] 27)) := ⟨_, rfl⟩
 rw [← hWn] at hbn kbn hsn HOn
 have HW2 := Lib.hid hbn
 rw [← hBy] at kbn
 have hKy : Hid (∀ W, Below w2.heap.size w2 W → Blk W By 27 #[.string ⟨mm.toArray⟩, .int .i64 mq, .int .i64 mx, .slice m1 m2 m3, .slice n1 n2 n3, .slice p1 p2 p3, .slice q1 q2 q3]) := fun W h => kbn.below h (by omega)
 have HZy := Lib.hid (show By = w1.heap.size ∧ w2.heap.size = w1.heap.size + 1 from ⟨hBy, hsn⟩)
 have HO := Lib.hid HOn
 clear hbn kbn hsn HOn
 have hCR := create_any ⟨mm, mq, mx, ⟨m1, m2, m3, ml⟩, ⟨n1, n2, n3, nl⟩, ⟨p1, p2, p3, pl⟩, ⟨q1, q2, q3, ql⟩⟩ [97] w2 w2.heap.size (Nat.le_refl _) HO.out.rd (TenR.sz_of HO.out.rd (by rw [HY.out]; exact new0C_sz 9)) (by decide) (hmx.below HW2.out)
 rw [HY.out, new0_create] at hCR
 have HCR := Lib.hid hCR
 clear hCR
 have kk := hKy.out w2 (Below.refl _ _)
 obtain ⟨c0, c1, c2, c3, c4, c5, c6⟩ := (⟨kk.cell 0, kk.cell 1, kk.cell 2, kk.cell 3, kk.cell 4, kk.cell 5, kk.cell 6⟩ : _ ∧ _ ∧ _ ∧ _ ∧ _ ∧ _ ∧ _)
 simp only [zF, zD, zE] at c0 c1 c2 c3 c4 c5 c6
 clear kk
 go_wp2_with (refine wpList_store_new w1 rfl 27 (.tmp 1) (.tmp 7) rfl 27 [.string ⟨#[]⟩, .int .i64 0, .int .i64 0, .slice none 0 0, .slice none 0 0, .slice none 0 0, .slice none 0 0] [.string ⟨mm.toArray⟩, .int .i64 mq, .int .i64 mx, .slice m1 m2 m3, .slice n1 n2 n3, .slice p1 p2 p3, .slice q1 q2 q3] rfl rfl rfl (by kernel_rfl) (by simp [Value.oneCell']) ?_; rw [show ([.string ⟨mm.toArray⟩, .int .i64 mq, .int .i64 mx, .slice m1 m2 m3, .slice n1 n2 n3, .slice p1 p2 p3, .slice q1 q2 q3] : List Value).toArray = #[.string ⟨mm.toArray⟩, .int .i64 mq, .int .i64 mx, .slice m1 m2 m3, .slice n1 n2 n3, .slice p1 p2 p3, .slice q1 q2 q3] from rfl, ← hWn, ← hBy]; clear hWn hBy)
 refine HCR.out.mono ?_
 clear HCR c0 c1 c2 c3 c4 c5 c6
 rintro e w3 ⟨v, rfl, hb, ⟨h1, -⟩ | ⟨-, u, rfl, hou, hu⟩⟩
 ·exact absurd (show (0 : Int) = 0 from rfl) h1
 have HW3 := Lib.hid (HW2.out.trans (hb.mono HW2.out.size))
 have HOU := Lib.hid hou
 have HU := Lib.hid hu
 clear hb hou hu
 obtain ⟨am, aq, ax, ⟨a1, a2, a3, al⟩, ⟨f1, f2, f3, fl⟩, ⟨i1, i2, i3, il⟩, ⟨j1, j2, j3, jl⟩⟩ := u
 simp only [TenR.val, TenR.cells, FS.val, strV]
 have hbn := (HW3.out).alloc HW3.out.size (.cells #[.string ⟨am.toArray⟩, .int .i64 aq, .int .i64 ax, .slice a1 a2 a3, .slice f1 f2 f3, .slice i1 i2 i3, .slice j1 j2 j3] 27)
 have kbn := Blk.new w3 27 #[.string ⟨am.toArray⟩, .int .i64 aq, .int .i64 ax, .slice a1 a2 a3, .slice f1 f2 f3, .slice i1 i2 i3, .slice j1 j2 j3]
 have hsn : (w3.alloc (.cells #[.string ⟨am.toArray⟩, .int .i64 aq, .int .i64 ax, .slice a1 a2 a3, .slice f1 f2 f3, .slice i1 i2 i3, .slice j1 j2 j3] 27)).heap.size = w3.heap.size + 1 := by simp
 have HOUn := HOU.out.below ((Below.refl w3.heap.size w3).alloc (Nat.le_refl _) (.cells #[.string ⟨am.toArray⟩, .int .i64 aq, .int .i64 ax, .slice a1 a2 a3, .slice f1 f2 f3, .slice i1 i2 i3, .slice j1 j2 j3] 27))
 obtain ⟨Ba, hBa⟩ : ∃ g, g = w3.heap.size := ⟨_, rfl⟩
 obtain ⟨w4, hWn⟩ : ∃ W, W = (w3.alloc (.cells #[.string ⟨am.toArray⟩, .int .i64 aq, .int .i64 ax, .slice a1 a2 a3, .slice f1 f2 f3, .slice i1 i2 i3, .slice j1 j2 j3] 27)) := ⟨_, rfl⟩
 rw [← hWn] at hbn kbn hsn HOUn
 have HW4 := Lib.hid hbn
 rw [← hBa] at kbn
 have hKa : Hid (∀ W, Below w4.heap.size w4 W → Blk W Ba 27 #[.string ⟨am.toArray⟩, .int .i64 aq, .int .i64 ax, .slice a1 a2 a3, .slice f1 f2 f3, .slice i1 i2 i3, .slice j1 j2 j3]) := fun W h => kbn.below h (by omega)
 have HZa := Lib.hid (show Ba = w3.heap.size ∧ w4.heap.size = w3.heap.size + 1 from ⟨hBa, hsn⟩)
 have HOU := Lib.hid HOUn
 clear hbn kbn hsn HOUn
 have hlen : al.length = 2 := by
  have h := congrArg (fun c : TenC => c.sets.length) HU.out
  simpa [TenR.con] using h
 have hpath : (al[1]'(by omega)).path = [97] := by
  have h := congrArg (fun c : TenC => (c.sets[1]?).map SetC.path) HU.out
  simp only [TenR.con, List.getElem?_map] at h
  rw [List.getElem?_eq_getElem (by omega)] at h
  simpa [SetR.con, set0C] using h
 have ha2 : a2 = 2 := by have h := HOU.out.sets.1; simp only at h; omega
 obtain ⟨ad, rfl, -, q0, -, -, -, -⟩ := set_at HOU.out.rd.sets.2.2 HOU.out.sets.1 (i := 1) (show 1 < a2 by omega)
 simp only [hpath] at q0
 replace q0 : w4.cell? ⟨ad.block, ad.off + 5, none⟩ = some (.string ⟨#[97]⟩) := by simpa [Addr.add] using q0
 have kk := hKa.out w4 (Below.refl _ _)
 have d3 := kk.cell 3
 simp only [zF, zD, zE] at d3
 have hn1 : ((a2 : Int) == 2) = true := by rw [ha2]; rfl
 have hn2 : (1 : Int) < (a2 : Int) := by omega
 clear kk hlen hpath ha2 HOU HU HO HY hKy
 go_wp2_with (refine wpList_store_new w3 rfl 27 (.tmp 3) (.tmp 12) rfl 27 [.string ⟨#[]⟩, .int .i64 0, .int .i64 0, .slice none 0 0, .slice none 0 0, .slice none 0 0, .slice none 0 0] [.string ⟨am.toArray⟩, .int .i64 aq, .int .i64 ax, .slice (some ad) a2 a3, .slice f1 f2 f3, .slice i1 i2 i3, .slice j1 j2 j3] rfl rfl rfl (by kernel_rfl) (by simp [Value.oneCell']) ?_; rw [show ([.string ⟨am.toArray⟩, .int .i64 aq, .int .i64 ax, .slice (some ad) a2 a3, .slice f1 f2 f3, .slice i1 i2 i3, .slice j1 j2 j3] : List Value).toArray = #[.string ⟨am.toArray⟩, .int .i64 aq, .int .i64 ax, .slice (some ad) a2 a3, .slice f1 f2 f3, .slice i1 i2 i3, .slice j1 j2 j3] from rfl, ← hWn, ← hBa]; clear hWn hBa)
 refine (num16_any _ _).mono ?_
 rintro e w5 ⟨rfl, hw5⟩
 rw [hw5]
 clear hw5 w5
 go_wp2_with fail
 exact bodyPost_ret (v := .bool true) (by simp [results, Tryz.results15, go_sem]) rfl ⟨rfl, HW4.out⟩
end Go.Proofs.YteafdncnnamakaaGreatDoor
namespace Go.Proofs.YteafdncnnamakaaGreatDoor
open Go.RowKit
/-- a set is turned by something -/
def TenC.changed (c : TenC) (p : BS) (F : SetC → Int × SetC) : Int × TenC := if c.ask p ≠ 0 then (c.ask p, c) else if c.find p < 0 then (71, c) else match c.sets[(c.find p).toNat]? with
 | none => (71, c)
 | some s => if (F s).1 ≠ 0 then ((F s).1, c) else (0, c.putS (c.find p).toNat (F s).2)
theorem enterC {P : Program} {f : FuncId} {fn : Func} (hf : P.funcs[f]? = some fn) (hname : (fn.name == "runtime.NumGoroutine") = false) (hb : fn.body.isNone = false) (args : Array Value) (w : World) :
  (callFunc f args).run P w = .ok (.enter f args) w := by
 have h1 : fn.name ≠ "runtime.NumGoroutine" := by simpa using hname
 cases hc : fn.body with
 | none => rw [hc] at hb; cases hb
 | some c => simp [callFunc, hf, h1, hc]
/-- what turns one set, in place -/
def Turns (fn : FuncId) (caps : Array Value) (F : SetC → Int × SetC) (w : World) : Prop := ∀ (y : TenR) (k : Nat) (hk : k < y.sets.l.length) (gS base : Nat) (W : World), Below w.heap.size w W → w.heap.size ≤ base → TenO W base y → y.con.sz → y.sets.A = some ⟨gS, 0, none⟩ →
 Calls Tryz.prog fn (#[.pointer (some ⟨gS, k * 5, none⟩)] ++ caps) W fun e W' => e = .returned (.int .i64 (F (y.sets.l[k]'hk).con).1) ∧ W.grownBy W' (some gS) ∧ ((F (y.sets.l[k]'hk).con).1 = 0 → ∃ x' : SetR, x'.con = (F (y.sets.l[k]'hk).con).2 ∧ TenO W' base (y.putS k x'))
set_option maxRecDepth 100000 in
set_option maxHeartbeats 8000000 in
theorem changed2_any (t : TenR) (p : BS) (fn : FuncId) (cp1 cp2 : Addr) (F : SetC → Int × SetC) (w : World) (B : Nat) (hB : B ≤ w.heap.size) (hr : t.rd w B) (hz : t.sz) (hp : p.length ≤ 4000000000) (hmx : HasMax w) (hF : Turns fn #[.pointer (some cp1), .pointer (some cp2)] F w) (hen : ∀ args W, (callFunc fn args).run Tryz.prog W = .ok (.enter fn args) W) :
  Calls Tryz.prog 50 #[t.val, .string ⟨p.toArray⟩, .func (.func fn) #[] #[.pointer (some cp1), .pointer (some cp2)]] w (TenPost w (t.con.changed p F)) := by
 have h3 : t.con.ask p = 0 ∨ t.con.ask p = 9 ∨ t.con.ask p = 31 := by rw [← askP_con]; exact askP_in t p
 obtain ⟨V, hV⟩ : ∃ V, V = t.con.changed p F := ⟨_, rfl⟩
 have hVe : V = if t.con.ask p ≠ 0 then (t.con.ask p, t.con) else if t.con.find p < 0 then (71, t.con) else match t.con.sets[(t.con.find p).toNat]? with
  | none => (71, t.con)
  | some s => if (F s).1 ≠ 0 then ((F s).1, t.con) else (0, t.con.putS (t.con.find p).toNat (F s).2) := hV
 rw [← hV]
 have hcz := TenC.sz_of hr hz
 have hpl := placeP_con t p
 have hfk : ∀ k : Nat, t.con.find p = (k : Int) → k < t.sets.l.length := fun k hk => by
  rw [← findS_con] at hk
  rcases firstI_cases (fun s : SetR => s.path == p) t.sets.l with ⟨h1, h2⟩ | ⟨j, hj, h1, h2⟩
  ·have h1 : findS t.sets.l p = -1 := h1
   omega
  ·have h1 : findS t.sets.l p = (j : Int) := h1
   omega
 have hfk2 : t.con.find p < 0 ∨ ∃ k : Nat, t.con.find p = (k : Int) := by
  by_cases h : t.con.find p < 0
  ·exact .inl h
  ·exact .inr ⟨(t.con.find p).toNat, by omega⟩
 obtain ⟨nm, qu, nx, ⟨s1, sn, s3, sl⟩, ⟨u1, un, u3, ul⟩, ⟨t1, tn, t3, tl⟩, ⟨l1, ln, l3, ll⟩⟩ := t
 show Calls Tryz.prog 50 #[.agg #[.string ⟨nm.toArray⟩, .int .i64 qu, .int .i64 nx, .slice s1 sn s3, .slice u1 un u3, .slice t1 tn t3, .slice l1 ln l3], .string ⟨p.toArray⟩, .func (.func fn) #[] #[.pointer (some cp1), .pointer (some cp2)]] w _
 have hb := (((Below.refl w.heap.size w).alloc (Nat.le_refl _) (.cells #[.string ⟨nm.toArray⟩, .int .i64 qu, .int .i64 nx, .slice s1 sn s3, .slice u1 un u3, .slice t1 tn t3, .slice l1 ln l3] 27)).alloc (by simp) (.cells #[.string ⟨#[]⟩, .int .i64 0, .int .i64 0, .slice none 0 0, .slice none 0 0, .slice none 0 0, .slice none 0 0] 27))
 have kt := Blk.new w 27 #[.string ⟨nm.toArray⟩, .int .i64 qu, .int .i64 nx, .slice s1 sn s3, .slice u1 un u3, .slice t1 tn t3, .slice l1 ln l3]
 replace kt := kt.alloc (.cells #[.string ⟨#[]⟩, .int .i64 0, .int .i64 0, .slice none 0 0, .slice none 0 0, .slice none 0 0, .slice none 0 0] 27)
 have kz := Blk.new (w.alloc (.cells #[.string ⟨nm.toArray⟩, .int .i64 qu, .int .i64 nx, .slice s1 sn s3, .slice u1 un u3, .slice t1 tn t3, .slice l1 ln l3] 27)) 27 #[.string ⟨#[]⟩, .int .i64 0, .int .i64 0, .slice none 0 0, .slice none 0 0, .slice none 0 0, .slice none 0 0]
 rw [show (w.alloc (.cells #[.string ⟨nm.toArray⟩, .int .i64 qu, .int .i64 nx, .slice s1 sn s3, .slice u1 un u3, .slice t1 tn t3, .slice l1 ln l3] 27)).heap.size = w.heap.size + 1 by simp] at kz
 have hsz : ((w.alloc (.cells #[.string ⟨nm.toArray⟩, .int .i64 qu, .int .i64 nx, .slice s1 sn s3, .slice u1 un u3, .slice t1 tn t3, .slice l1 ln l3] 27)).alloc (.cells #[.string ⟨#[]⟩, .int .i64 0, .int .i64 0, .slice none 0 0, .slice none 0 0, .slice none 0 0, .slice none 0 0] 27)).heap.size = w.heap.size + 2 := by simp
 obtain ⟨W1, hW1⟩ : ∃ W, W = ((w.alloc (.cells #[.string ⟨nm.toArray⟩, .int .i64 qu, .int .i64 nx, .slice s1 sn s3, .slice u1 un u3, .slice t1 tn t3, .slice l1 ln l3] 27)).alloc (.cells #[.string ⟨#[]⟩, .int .i64 0, .int .i64 0, .slice none 0 0, .slice none 0 0, .slice none 0 0, .slice none 0 0] 27)) := ⟨_, rfl⟩
 rw [← hW1] at hb hsz kt kz
 have hKt : Hid (∀ W, Below W1.heap.size W1 W → Blk W w.heap.size 27 #[.string ⟨nm.toArray⟩, .int .i64 qu, .int .i64 nx, .slice s1 sn s3, .slice u1 un u3, .slice t1 tn t3, .slice l1 ln l3]) := fun W h => kt.below h (by omega)
 have hKz : Hid (∀ W, Below W1.heap.size W1 W → Blk W (w.heap.size + 1) 27 #[.string ⟨#[]⟩, .int .i64 0, .int .i64 0, .slice none 0 0, .slice none 0 0, .slice none 0 0, .slice none 0 0]) := fun W h => kz.below h (by omega)
 have hBW : Hid (∀ W, Below W1.heap.size W1 W → Below w.heap.size w W) := fun W h => hb.trans (h.mono (by omega))
 have hSZ : Hid (∀ W, Below W1.heap.size W1 W → w.heap.size + 2 ≤ W.heap.size) := fun W h => by have := h.size; omega
 have hW0 : Hid (Below W1.heap.size W1 W1) := Below.refl _ _
 have hrw : Hid (∀ W, Below W1.heap.size W1 W → TenR.rd W B ⟨nm, qu, nx, ⟨s1, sn, s3, sl⟩, ⟨u1, un, u3, ul⟩, ⟨t1, tn, t3, tl⟩, ⟨l1, ln, l3, ll⟩⟩ ∧ B ≤ W.heap.size ∧ HasMax W) := fun W h =>
  ⟨TenR.rd.below hr ((hBW.out W h).mono hB), by have := hSZ.out W h; omega, hmx.below (hBW.out W h)⟩
 obtain ⟨C, hC⟩ : ∃ C, C = TenR.con ⟨nm, qu, nx, ⟨s1, sn, s3, sl⟩, ⟨u1, un, u3, ul⟩, ⟨t1, tn, t3, tl⟩, ⟨l1, ln, l3, ll⟩⟩ := ⟨_, rfl⟩
 have hHC := Lib.hid hC
 rw [← hC] at h3 hVe hpl hfk hfk2 hcz
 obtain ⟨E0, hE0⟩ : ∃ E, E = C.ask p := ⟨_, rfl⟩
 obtain ⟨F0, hF0⟩ : ∃ F, F = C.find p := ⟨_, rfl⟩
 have hPL : Hid (∀ W, Below W1.heap.size W1 W → Calls Tryz.prog 32 #[.agg #[.string ⟨nm.toArray⟩, .int .i64 qu, .int .i64 nx, .slice s1 sn s3, .slice u1 un u3, .slice t1 tn t3, .slice l1 ln l3], .string ⟨p.toArray⟩] W fun e w' => e = .returned (.tuple #[.int .i64 (if E0 ≠ 0 then (0, E0) else if F0 < 0 then (0, 71) else (F0, 0)).1, .int .i64 (if E0 ≠ 0 then (0, E0) else if F0 < 0 then (0, 71) else (F0, 0)).2]) ∧ Below W.heap.size W w') := fun W h => by
  rw [hE0, hF0, ← hpl]
  exact place_any ⟨nm, qu, nx, ⟨s1, sn, s3, sl⟩, ⟨u1, un, u3, ul⟩, ⟨t1, tn, t3, tl⟩, ⟨l1, ln, l3, ll⟩⟩ p W B (hrw.out W h).2.1 (hrw.out W h).1 hz hp (hrw.out W h).2.2
 rw [← hE0, ← hF0] at hVe
 rw [← hE0] at h3
 rw [← hF0] at hfk hfk2
 have hCP : Hid (∀ W, Below W1.heap.size W1 W → Calls Tryz.prog 38 #[.agg #[.string ⟨nm.toArray⟩, .int .i64 qu, .int .i64 nx, .slice s1 sn s3, .slice u1 un u3, .slice t1 tn t3, .slice l1 ln l3]] W fun e w' => ∃ y : TenR, e = .returned y.val ∧ TenO w' W.heap.size y ∧ TenR.eqv ⟨nm, qu, nx, ⟨s1, sn, s3, sl⟩, ⟨u1, un, u3, ul⟩, ⟨t1, tn, t3, tl⟩, ⟨l1, ln, l3, ll⟩⟩ y ∧ Below W.heap.size W w') := fun W h =>
  tcopy_any ⟨nm, qu, nx, ⟨s1, sn, s3, sl⟩, ⟨u1, un, u3, ul⟩, ⟨t1, tn, t3, tl⟩, ⟨l1, ln, l3, ll⟩⟩ W B (hrw.out W h).2.1 (hrw.out W h).1 hz
 have hSN := Lib.hid (show sn = sl.length from hr.sets.1)
 have HFK := Lib.hid hfk
 have HCZ := Lib.hid hcz
 have HF := Lib.hid hF
 have HV := Lib.hid hVe
 have HZS := Lib.hid (show sn ≤ 1000000000000 from hz.sets)
 clear hb hsz kt kz hr hp hmx hVe hV hpl hfk hC hE0 hF0 hz hF hcz
 go_enter Tryz.func50, Tryz.ntmps50
 obtain ⟨pv, hpv⟩ : ∃ v, v = (if E0 ≠ 0 then ((0 : Int), E0) else if F0 < 0 then (0, 71) else (F0, 0)) := ⟨_, rfl⟩
 rw [← hpv] at hPL
 have HPV := Lib.hid hpv
 clear hpv
 obtain ⟨pv1, pv2⟩ := pv
 have hc := hPL.out  W1 hW0.out
 have kk := hKt.out W1 hW0.out
 obtain ⟨c0, c1, c2, c3, c4, c5, c6⟩ := (⟨kk.cell 0, kk.cell 1, kk.cell 2, kk.cell 3, kk.cell 4, kk.cell 5, kk.cell 6⟩ : _ ∧ _ ∧ _ ∧ _ ∧ _ ∧ _ ∧ _)
 simp only [zF, zD, zE] at c0 c1 c2 c3 c4 c5 c6
 clear kk
 go_wp2_with fail
 rw [← hW1]
 clear hW1
 refine hc.mono ?_
 clear hc c0 c1 c2 c3 c4 c5 c6
 rintro e w2 ⟨rfl, hb⟩
 have HW2 := Lib.hid (hW0.out.trans (hb.mono hW0.out.size))
 clear hb
 rcases h3 with rfl | rfl | rfl
 ·have HV := Lib.hid (HV.out.trans (if_neg (by decide)))
  by_cases hf0 : F0 < 0
  ·have hpv : pv1 = 0 ∧ pv2 = 71 := by have h := HPV.out; rw [if_neg (by decide), if_pos hf0] at h; injection h with h1 h2; exact ⟨h1, h2⟩
   obtain ⟨rfl, rfl⟩ := hpv
   have HX := Lib.hid (HV.out.trans (if_pos hf0))
   clear HV HPV
   have KZ := Lib.hid (hKz.out w2 HW2.out)
   have HB := Lib.hid (hBW.out w2 HW2.out)
   obtain ⟨WR, hW4, hth, HL, HBW, hgw⟩ := res7 (g := (w.heap.size + 1)) [.string ⟨#[]⟩, .int .i64 0, .int .i64 0, .slice none 0 0, .slice none 0 0, .slice none 0 0, .slice none 0 0] KZ.out HB.out (by omega)
   clear hgw
   go_wp2_with (refine wpList_store_mid rfl 27 (.tmp 6) (.tmp 20) rfl ((w.heap.size + 1)) 0 #[.string ⟨#[]⟩, .int .i64 0, .int .i64 0, .slice none 0 0, .slice none 0 0, .slice none 0 0, .slice none 0 0] rfl rfl hth.out (by kernel_rfl) (by simp [Value.oneCell']) ?_; rw [← hW4]; clear hW4)
   exact bodyPost_ret (v := .tuple #[.agg #[.string ⟨#[]⟩, .int .i64 0, .int .i64 0, .slice none 0 0, .slice none 0 0, .slice none 0 0, .slice none 0 0], .int .i64 71]) (results_cell_tmp rfl rfl HL.out) rfl (tenPost_err HX.out (by decide) HBW.out)
  ·have hpv : F0 = pv1 ∧ pv2 = 0 := by have h := HPV.out; rw [if_neg (by decide), if_neg hf0] at h; injection h with h1 h2; exact ⟨h1.symm, h2⟩
   obtain ⟨rfl, rfl⟩ := hpv
   have HV := Lib.hid (HV.out.trans (if_neg hf0))
   clear HPV
   have hFD : ∃ k : Nat, F0 = (k : Int) := by
    rcases hfk2 with h | h
    ·omega
    ·exact h
   obtain ⟨k, rfl⟩ := hFD
   have HKL := Lib.hid (HFK.out k rfl)
   clear hfk2 hf0 HFK
   have hc := hCP.out w2 HW2.out
   have kk := hKt.out w2 HW2.out
   obtain ⟨c0, c1, c2, c3, c4, c5, c6⟩ := (⟨kk.cell 0, kk.cell 1, kk.cell 2, kk.cell 3, kk.cell 4, kk.cell 5, kk.cell 6⟩ : _ ∧ _ ∧ _ ∧ _ ∧ _ ∧ _ ∧ _)
   simp only [zF, zD, zE] at c0 c1 c2 c3 c4 c5 c6
   clear kk
   clear hCP
   go_wp2_with fail
   refine hc.mono ?_
   clear hc c0 c1 c2 c3 c4 c5 c6
   rintro e w6 ⟨y, rfl, ho6, he6, hb6⟩
   have HW6 := Lib.hid (HW2.out.trans (hb6.mono HW2.out.size))
   have HCON := Lib.hid ((TenR.eqv_iff _ _).1 he6)
   have hlen : y.sets.n = sn := by
    have h1 := he6.lenS
    have h2 := ho6.sets.1
    have := hSN.out
    simp only at h1
    omega
   obtain ⟨mm, mq, mx, ⟨m1, m2, m3, ml⟩, ⟨n1, n2, n3, nl⟩, ⟨p1, p2, p3, pl⟩, ⟨q1, q2, q3, ql⟩⟩ := y
   replace hlen : m2 = sn := hlen
   have hms : m2 = ml.length := ho6.sets.1
   have hkm : k < m2 := by have := HKL.out; have := hSN.out; omega
   obtain ⟨gS, csS, hA, hbg, hblk⟩ := ho6.sets.blk (by show 0 < m2; omega)
   replace hA : m1 = some ⟨gS, 0, none⟩ := hA
   subst hA
   have hgS6 := hblk.lt
   simp only [TenR.val, TenR.cells, FS.val, strV]
   have hsz3 := hSZ.out w2 HW2.out
   have hsz6 := hSZ.out w6 HW6.out
   have ho7 := ho6.below ((Below.refl w6.heap.size w6).alloc (Nat.le_refl _) (.cells #[.string ⟨mm.toArray⟩, .int .i64 mq, .int .i64 mx, .slice (some ⟨gS, 0, none⟩) m2 m3, .slice n1 n2 n3, .slice p1 p2 p3, .slice q1 q2 q3] 27))
   have k7 := Blk.new w6 27 #[.string ⟨mm.toArray⟩, .int .i64 mq, .int .i64 mx, .slice (some ⟨gS, 0, none⟩) m2 m3, .slice n1 n2 n3, .slice p1 p2 p3, .slice q1 q2 q3]
   have kz7 := (hKz.out w6 HW6.out).alloc (.cells #[.string ⟨mm.toArray⟩, .int .i64 mq, .int .i64 mx, .slice (some ⟨gS, 0, none⟩) m2 m3, .slice n1 n2 n3, .slice p1 p2 p3, .slice q1 q2 q3] 27)
   have hbw7 := (hBW.out w6 HW6.out).alloc (by omega) (.cells #[.string ⟨mm.toArray⟩, .int .i64 mq, .int .i64 mx, .slice (some ⟨gS, 0, none⟩) m2 m3, .slice n1 n2 n3, .slice p1 p2 p3, .slice q1 q2 q3] 27)
   obtain ⟨g5, hg5⟩ : ∃ g, g = w6.heap.size := ⟨_, rfl⟩
   have HG5 := Lib.hid (show g5 = w6.heap.size ∧ w.heap.size + 2 ≤ g5 ∧ w.heap.size + 2 ≤ w2.heap.size ∧ gS < g5 ∧ w2.heap.size ≤ gS by omega)
   have hki : (k : Int) < (m2 : Int) := by omega
   have hk0 : (0 : Int) ≤ (k : Int) := by omega
   obtain ⟨W7, hW7⟩ : ∃ W, W = w6.alloc (.cells #[.string ⟨mm.toArray⟩, .int .i64 mq, .int .i64 mx, .slice (some ⟨gS, 0, none⟩) m2 m3, .slice n1 n2 n3, .slice p1 p2 p3, .slice q1 q2 q3] 27) := ⟨_, rfl⟩
   rw [← hW7] at ho7 k7 kz7 hbw7
   rw [← hg5] at k7
   have hyc : Hid (TenR.con ⟨mm, mq, mx, ⟨some ⟨gS, 0, none⟩, m2, m3, ml⟩, ⟨n1, n2, n3, nl⟩, ⟨p1, p2, p3, pl⟩, ⟨q1, q2, q3, ql⟩⟩ = C) := by show _ = _; rw [hHC.out]; exact HCON.out.symm
   have hcF0 := HF.out ⟨mm, mq, mx, ⟨some ⟨gS, 0, none⟩, m2, m3, ml⟩, ⟨n1, n2, n3, nl⟩, ⟨p1, p2, p3, pl⟩, ⟨q1, q2, q3, ql⟩⟩ k (by show k < ml.length; omega) gS w2.heap.size W7 hbw7 (by omega) ho7 (by rw [hyc.out]; exact HCZ.out) rfl
   obtain ⟨xs, hxs⟩ : ∃ x, x = ml[k]'(by omega) := ⟨_, rfl⟩
   have hcF : Calls Tryz.prog fn (#[.pointer (some ⟨gS, k * 5, none⟩)] ++ #[.pointer (some cp1), .pointer (some cp2)]) W7 fun e W' => e = .returned (.int .i64 (F xs.con).1) ∧ W7.grownBy W' (some gS) ∧ ((F xs.con).1 = 0 → ∃ x' : SetR, x'.con = (F xs.con).2 ∧ TenO W' w2.heap.size (TenR.putS ⟨mm, mq, mx, ⟨some ⟨gS, 0, none⟩, m2, m3, ml⟩, ⟨n1, n2, n3, nl⟩, ⟨p1, p2, p3, pl⟩, ⟨q1, q2, q3, ql⟩⟩ k x')) := by rw [hxs]; exact hcF0
   have HGET : Hid (C.sets[((k : Nat) : Int).toNat]? = some xs.con) := by
    show _ = _
    rw [Int.toNat_natCast, ← hyc.out, hxs]
    show (ml.map SetR.con)[k]? = _
    rw [List.getElem?_map, List.getElem?_eq_getElem (by omega)]
    rfl
   have HV := Lib.hid (HV.out.trans (by rw [HGET.out]))
   obtain ⟨E, hE⟩ : ∃ E, E = (F xs.con).1 := ⟨_, rfl⟩
   rw [← hE] at hcF
   have HE := Lib.hid hE
   have K7 := Lib.hid k7
   have KZ7 := Lib.hid kz7
   have HB7 := Lib.hid hbw7
   have d3 := k7.cell 3
   simp only [zF, zD, zE] at d3
   have hcS := Lib.hid hcF
   clear ho6 he6 hb6 hlen hms hbg hblk hgS6 hsz3 hsz6 ho7 k7 kz7 hbw7 hrw hPL hKt hBW hSZ hcF hcF0 hxs hE HF HCON hkm
   go_wp2_with (first | (simp only [hen]) | (refine wpList_store_new w6 rfl 27 (.tmp 10) (.tmp 23) rfl 27 [.string ⟨#[]⟩, .int .i64 0, .int .i64 0, .slice none 0 0, .slice none 0 0, .slice none 0 0, .slice none 0 0] [.string ⟨mm.toArray⟩, .int .i64 mq, .int .i64 mx, .slice (some ⟨gS, 0, none⟩) m2 m3, .slice n1 n2 n3, .slice p1 p2 p3, .slice q1 q2 q3] rfl rfl rfl (by kernel_rfl) (by simp [Value.oneCell']) ?_; rw [show ([.string ⟨mm.toArray⟩, .int .i64 mq, .int .i64 mx, .slice (some ⟨gS, 0, none⟩) m2 m3, .slice n1 n2 n3, .slice p1 p2 p3, .slice q1 q2 q3] : List Value).toArray = #[.string ⟨mm.toArray⟩, .int .i64 mq, .int .i64 mx, .slice (some ⟨gS, 0, none⟩) m2 m3, .slice n1 n2 n3, .slice p1 p2 p3, .slice q1 q2 q3] from rfl, ← hW7, ← hg5]; clear hW7 hg5))
   refine hcS.out.mono ?_
   clear hcS d3
   rintro e w8 ⟨rfl, hg8, hx8⟩
   have k8 : Blk w8 g5 27 #[.string ⟨mm.toArray⟩, .int .i64 mq, .int .i64 mx, .slice (some ⟨gS, 0, none⟩) m2 m3, .slice n1 n2 n3, .slice p1 p2 p3, .slice q1 q2 q3] := K7.out.grown hg8 (by intro e; injection e with e; have := HG5.out; omega)
   have kz8 := KZ7.out.grown hg8 (by intro e; injection e with e; have := HG5.out; omega)
   have hb8 : Below w.heap.size w w8 := HB7.out.grown hg8 HB7.out.size (fun k hk => by injection hk with hk; have := HG5.out; omega)
   have K8 := Lib.hid k8
   have KZ8 := Lib.hid kz8
   have HB8 := Lib.hid hb8
   clear k8 kz8 hb8 hg8 K7 KZ7 HB7
   by_cases hE0 : E = 0
   ·subst hE0
    obtain ⟨x', hx1, hx2⟩ := hx8 rfl
    have HX := Lib.hid (HV.out.trans (if_neg (by rw [← HE.out]; decide)))
    have HO8 := Lib.hid (hx2.mono (base' := w.heap.size) (by have := HG5.out; omega))
    have HC8 : Hid (TenR.con (TenR.putS ⟨mm, mq, mx, ⟨some ⟨gS, 0, none⟩, m2, m3, ml⟩, ⟨n1, n2, n3, nl⟩, ⟨p1, p2, p3, pl⟩, ⟨q1, q2, q3, ql⟩⟩ k x') = C.putS ((k : Nat) : Int).toNat (F xs.con).2) := by show _ = _; rw [TenR.con_putS, hyc.out, hx1, Int.toNat_natCast]
    obtain ⟨d0, d1, d2, d3, d4, d5, d6⟩ := (⟨K8.out.cell 0, K8.out.cell 1, K8.out.cell 2, K8.out.cell 3, K8.out.cell 4, K8.out.cell 5, K8.out.cell 6⟩ : _ ∧ _ ∧ _ ∧ _ ∧ _ ∧ _ ∧ _)
    simp only [zF, zD, zE] at d0 d1 d2 d3 d4 d5 d6
    clear hx1 hx2 hx8 HV
    go_upto_region 8 with (fail)
    obtain ⟨WR, hW4, hth, HL, HBW, hgw⟩ := res7 (g := (w.heap.size + 1)) [.string ⟨mm.toArray⟩, .int .i64 mq, .int .i64 mx, .slice (some ⟨gS, 0, none⟩) m2 m3, .slice n1 n2 n3, .slice p1 p2 p3, .slice q1 q2 q3] KZ8.out HB8.out (by omega)
    have HOO := Lib.hid (TenO.keptT HO8.out hgw KZ8.out offT_ten)
    clear hgw
    go_wp2_with (refine wpList_store_mid rfl 27 (.tmp 6) (.tmp 34) rfl ((w.heap.size + 1)) 0 #[.string ⟨mm.toArray⟩, .int .i64 mq, .int .i64 mx, .slice (some ⟨gS, 0, none⟩) m2 m3, .slice n1 n2 n3, .slice p1 p2 p3, .slice q1 q2 q3] rfl rfl hth.out (by kernel_rfl) (by simp [Value.oneCell']) ?_; rw [← hW4]; clear hW4)
    exact bodyPost_ret (v := .tuple #[.agg #[.string ⟨mm.toArray⟩, .int .i64 mq, .int .i64 mx, .slice (some ⟨gS, 0, none⟩) m2 m3, .slice n1 n2 n3, .slice p1 p2 p3, .slice q1 q2 q3], .int .i64 0]) (results_cell_tmp rfl rfl HL.out) rfl (tenPost_ok HX.out HBW.out (TenR.putS ⟨mm, mq, mx, ⟨some ⟨gS, 0, none⟩, m2, m3, ml⟩, ⟨n1, n2, n3, nl⟩, ⟨p1, p2, p3, pl⟩, ⟨q1, q2, q3, ql⟩⟩ k x') HOO.out HC8.out)
   ·have HX := Lib.hid (HV.out.trans (if_pos (by rw [← HE.out]; exact hE0)))
    rw [← HE.out] at HX
    have HNE := Lib.hid hE0
    clear hx8 HV
    obtain ⟨WR, hW4, hth, HL, HBW, hgw⟩ := res7 (g := (w.heap.size + 1)) [.string ⟨#[]⟩, .int .i64 0, .int .i64 0, .slice none 0 0, .slice none 0 0, .slice none 0 0, .slice none 0 0] KZ8.out HB8.out (by omega)
    clear hgw
    go_wp2_with (refine wpList_store_mid rfl 27 (.tmp 6) (.tmp 32) rfl ((w.heap.size + 1)) 0 #[.string ⟨#[]⟩, .int .i64 0, .int .i64 0, .slice none 0 0, .slice none 0 0, .slice none 0 0, .slice none 0 0] rfl rfl hth.out (by kernel_rfl) (by simp [Value.oneCell']) ?_; rw [← hW4]; clear hW4)
    exact bodyPost_ret (v := .tuple #[.agg #[.string ⟨#[]⟩, .int .i64 0, .int .i64 0, .slice none 0 0, .slice none 0 0, .slice none 0 0, .slice none 0 0], .int .i64 E]) (results_cell_tmp rfl rfl HL.out) rfl (tenPost_err HX.out HNE.out HBW.out)
 ·have HX := Lib.hid (HV.out.trans (if_pos (by decide)))
  have hpv : pv1 = 0 ∧ pv2 = 9 := by have h := HPV.out; rw [if_pos (by decide)] at h; injection h with h1 h2; exact ⟨h1, h2⟩
  obtain ⟨rfl, rfl⟩ := hpv
  clear HV HPV
  have KZ := Lib.hid (hKz.out w2 HW2.out)
  have HB := Lib.hid (hBW.out w2 HW2.out)
  obtain ⟨WR, hW4, hth, HL, HBW, hgw⟩ := res7 (g := (w.heap.size + 1)) [.string ⟨#[]⟩, .int .i64 0, .int .i64 0, .slice none 0 0, .slice none 0 0, .slice none 0 0, .slice none 0 0] KZ.out HB.out (by omega)
  clear hgw
  go_wp2_with (refine wpList_store_mid rfl 27 (.tmp 6) (.tmp 20) rfl ((w.heap.size + 1)) 0 #[.string ⟨#[]⟩, .int .i64 0, .int .i64 0, .slice none 0 0, .slice none 0 0, .slice none 0 0, .slice none 0 0] rfl rfl hth.out (by kernel_rfl) (by simp [Value.oneCell']) ?_; rw [← hW4]; clear hW4)
  exact bodyPost_ret (v := .tuple #[.agg #[.string ⟨#[]⟩, .int .i64 0, .int .i64 0, .slice none 0 0, .slice none 0 0, .slice none 0 0, .slice none 0 0], .int .i64 9]) (results_cell_tmp rfl rfl HL.out) rfl (tenPost_err HX.out (by decide) HBW.out)
 ·have HX := Lib.hid (HV.out.trans (if_pos (by decide)))
  have hpv : pv1 = 0 ∧ pv2 = 31 := by have h := HPV.out; rw [if_pos (by decide)] at h; injection h with h1 h2; exact ⟨h1, h2⟩
  obtain ⟨rfl, rfl⟩ := hpv
  clear HV HPV
  have KZ := Lib.hid (hKz.out w2 HW2.out)
  have HB := Lib.hid (hBW.out w2 HW2.out)
  obtain ⟨WR, hW4, hth, HL, HBW, hgw⟩ := res7 (g := (w.heap.size + 1)) [.string ⟨#[]⟩, .int .i64 0, .int .i64 0, .slice none 0 0, .slice none 0 0, .slice none 0 0, .slice none 0 0] KZ.out HB.out (by omega)
  clear hgw
  go_wp2_with (refine wpList_store_mid rfl 27 (.tmp 6) (.tmp 20) rfl ((w.heap.size + 1)) 0 #[.string ⟨#[]⟩, .int .i64 0, .int .i64 0, .slice none 0 0, .slice none 0 0, .slice none 0 0, .slice none 0 0] rfl rfl hth.out (by kernel_rfl) (by simp [Value.oneCell']) ?_; rw [← hW4]; clear hW4)
  exact bodyPost_ret (v := .tuple #[.agg #[.string ⟨#[]⟩, .int .i64 0, .int .i64 0, .slice none 0 0, .slice none 0 0, .slice none 0 0, .slice none 0 0], .int .i64 31]) (results_cell_tmp rfl rfl HL.out) rfl (tenPost_err HX.out (by decide) HBW.out)
end Go.Proofs.YteafdncnnamakaaGreatDoor
namespace Go.Proofs.YteafdncnnamakaaGreatDoor
open Go.RowKit
theorem TenC.E_sets (c : TenC) (h : c.E = 0) : c.sets.length ≤ 32 ∧ (c.sets.any fun x => x.path == []) = true ∧ (∀ s ∈ c.sets, setB (c.sets.map SetC.r) s.r = true) ∧ c.sets.Pairwise fun a b => Op.bytesLess a.path b.path = true := by
 unfold TenC.E tenE at h
 have hb : tenB c.r = true := by
  by_cases hb : tenB c.r = true
  ·exact hb
  ·rw [if_neg hb] at h; exact absurd h (by decide)
 unfold tenB at hb
 simp only [Bool.and_eq_true] at hb
 have hS : setsB (c.sets.map SetC.r) = true := hb.1.1.1.2
 unfold setsB at hS
 simp only [Bool.and_eq_true, decide_eq_true_eq, List.length_map, List.any_map] at hS
 obtain ⟨⟨h1, h2⟩, h3⟩ := hS
 obtain ⟨h4, h5, -⟩ := (setsFrom_iff _ _ _).1 h3
 exact ⟨h1, h2, fun s hs => h4 _ (List.mem_map_of_mem hs), List.pairwise_map.1 h5⟩
/-- what a set that could be made tells -/
theorem create_ok (c : TenC) (p : BS) (c2 : TenC) (h : (0, c2) = c.create p) : c.E = 0 ∧ pathB p = true ∧ c.find p < 0 ∧ c2 = c.withS (set0C p) ∧ c2.E = 0 := by
 unfold TenC.create at h
 by_cases h1 : c.ask p ≠ 0
 ·rw [if_pos h1] at h
  injection h with h _
  exact absurd h.symm h1
 rw [if_neg h1] at h
 by_cases h2 : 0 ≤ c.find p
 ·rw [if_pos h2] at h
  injection h with h _
  cases h
 rw [if_neg h2] at h
 by_cases h3 : c.find (upL p) < 0
 ·rw [if_pos h3] at h
  injection h with h _
  cases h
 rw [if_neg h3] at h
 by_cases h4 : c.sets.length = 32
 ·rw [if_pos h4] at h
  injection h with h _
  cases h
 rw [if_neg h4] at h
 unfold TenC.settle at h
 by_cases h5 : (c.withS (set0C p)).E = 9
 ·rw [if_pos h5] at h
  injection h with h _
  cases h
 rw [if_neg h5] at h
 split at h
 ·injection h with h _
  cases h
 ·injection h with _ h
  unfold TenC.ask at h1
  have hE : c.E = 0 := by
   rcases c.E_two with h6 | h6
   ·exact h6
   ·rw [if_pos h6] at h1
    exact absurd (by decide) h1
  rw [if_neg (by rw [hE]; decide)] at h1
  have hp : pathB p = true := by
   cases hp : pathB p with
   | true => rfl
   | false => rw [if_pos hp] at h1; exact absurd (by decide) h1
  refine ⟨hE, hp, by omega, h, ?_⟩
  rw [h]
  rcases (c.withS (set0C p)).E_two with h6 | h6
  ·exact h6
  ·exact absurd h6 h5
end Go.Proofs.YteafdncnnamakaaGreatDoor
namespace Go.Proofs.YteafdncnnamakaaGreatDoor
open Go.RowKit
def bodyF (E : List BlkT → Int) (L : List BlkT → List BlkT) (s : SetC) : Int × SetC := (E s.body, ⟨s.path, s.org, L s.body, s.snaps, s.own⟩)
def ownF (E : List (BS × BS) → Int) (L : List (BS × BS) → List (BS × BS)) (s : SetC) : Int × SetC := (E s.own, ⟨s.path, s.org, s.body, s.snaps, L s.own⟩)
def writeF (i : Int) (d : BS) : SetC → Int × SetC := bodyF (fun l => putE l i d) (fun l => putL11 l i d)
def setF (nm tx : BS) : SetC → Int × SetC := ownF (fun l => setE l nm tx) (fun l => putP (nm, tx) l)
/-- the cells of a set in a row of one's own -/
theorem set_cells {W : World} {base : Nat} {y : TenR} {k gS : Nat} (ho : TenO W base y) (hk : k < y.sets.l.length) (hA : y.sets.A = some ⟨gS, 0, none⟩) :
  gS < W.heap.size ∧ (∀ o, W.frozen? ⟨gS, o, none⟩ = false) ∧ W.cell? ⟨gS, k * 5 + 2, none⟩ = some (.slice (y.sets.l[k]'hk).body.A (y.sets.l[k]'hk).body.n (y.sets.l[k]'hk).body.c) ∧ W.cell? ⟨gS, k * 5 + 4, none⟩ = some (.slice (y.sets.l[k]'hk).own.A (y.sets.l[k]'hk).own.n (y.sets.l[k]'hk).own.c) := by
 have hn := ho.sets.1
 obtain ⟨g, cs, hA2, -, hb⟩ := ho.sets.blk (by omega)
 rw [hA] at hA2
 injection hA2 with hA2
 injection hA2 with hA2
 subst hA2
 obtain ⟨ad, hsa, -, -, -, q2, -, q4⟩ := set_at ho.rd.sets.2.2 hn (i := k) (by omega)
 rw [hA] at hsa
 injection hsa with hsa
 subst hsa
 refine ⟨hb.lt, hb.frozen, ?_, ?_⟩
 ·rw [addr_add0] at q2
  exact q2
 ·rw [addr_add0] at q4
  exact q4
theorem writeF_turns (i : Int) (d : BS) (cp1 cp2 : Addr) (w : World) (h1 : w.cell? cp1 = some (.int .i64 i)) (l1 : cp1.block < w.heap.size) (h2 : w.cell? cp2 = some (.string ⟨d.toArray⟩)) (l2 : cp2.block < w.heap.size) : Turns 51 #[.pointer (some cp1), .pointer (some cp2)] (writeF i d) w := by
 intro y k hk gS base W hb hwb ho hcs hA
 obtain ⟨hlt, hfz, hc2, hc4⟩ := set_cells ho hk hA
 have hSx := ho.eachS _ (List.getElem_mem hk)
 have hsz : (y.sets.l[k]'hk).con.sz := hcs.eachS _ (List.mem_map_of_mem (List.getElem_mem hk))
 have hba : base ≤ W.heap.size := by
  obtain ⟨g, cs, -, h1, h2⟩ := ho.sets.blk (by have := ho.sets.1; omega)
  have := h2.lt
  omega
 obtain ⟨x, hx⟩ : ∃ x, x = y.sets.l[k]'hk := ⟨_, rfl⟩
 rw [← hx] at hSx hsz hc2 ⊢
 refine (writeC_any gS (k * 5) x.body.A x.body.n x.body.c x.body.l i d cp1 cp2 W W.heap.size hc2 (hfz _) hlt hSx.body.rd.2.2 hSx.body.1 (Nat.le_refl _) (by rw [hSx.body.1]; exact hsz.body)  ((hb.cell l1).trans h1) ((hb.cell l2).trans h2)).mono ?_
 rintro e w' ⟨W2, v, rfl, rfl, hb2, ho2⟩
 refine ⟨rfl, grown_tr (grown_of_below hb2) (grown_box _ _ _ _), fun h => ?_⟩
 obtain ⟨A1, c1, hv, _⟩ := own_form (ho2 h)
 obtain ⟨L1, hL1⟩ : ∃ L, L = (writeF i d x.con).2.body := ⟨_, rfl⟩
 have ho2 : (writeF i d x.con).1 = 0 → W2.ownsRow W.heap.size 141 2 v L1.length (cellsK encB L1) := by rw [hL1]; exact ho2
 have hv : v = .slice A1 L1.length c1 := by rw [hL1]; exact hv
 rw [hv] at ho2 ⊢
 have hSx := hSx.below hb2
 obtain ⟨g, hg1, _, hg3, _⟩ := TenO.setF (ho.below hb2) k 2 hk (by decide) ⟨x.path, x.org, ⟨A1, L1.length, c1, L1⟩, x.snaps, x.own⟩ (.slice A1 L1.length c1) (fun z hz => by rw [List.getElem?_eq_getElem hk, ← hx] at hz; cases hz; rfl) ⟨⟨rfl, own_mono (ho2 h) hba⟩, hSx.snaps, hSx.each, hSx.own⟩
 rw [hA] at hg1
 injection hg1 with hg1
 injection hg1 with hg1
 subst hg1
 refine ⟨⟨x.path, x.org, ⟨A1, L1.length, c1, L1⟩, x.snaps, x.own⟩, ?_, hg3⟩
 rw [hL1]
 rfl
/-- what was turned, settled -/
def changeS (r : Int × TenC) : Int × TenC := if r.1 ≠ 0 then r else r.2.settle
theorem changed_sz {c c2 : TenC} {p : BS} {F : SetC → Int × SetC} (hc : c.sz) (h : (0, c2) = c.changed p F) (hF : ∀ s : SetC, s.sz → (F s).1 = 0 → (F s).2.sz) : c2.sz := by
 unfold TenC.changed at h
 by_cases h1 : c.ask p ≠ 0
 ·rw [if_pos h1] at h
  injection h with h _
  exact absurd h.symm h1
 rw [if_neg h1] at h
 by_cases h2 : c.find p < 0
 ·rw [if_pos h2] at h
  injection h with h _
  cases h
 rw [if_neg h2] at h
 cases hs : c.sets[(c.find p).toNat]? with
 | none => rw [hs] at h; injection h with h _; cases h
 | some s =>
  rw [hs] at h
  simp only at h
  by_cases h3 : (F s).1 ≠ 0
  ·rw [if_pos h3] at h
   injection h with h _
   exact absurd h.symm h3
  rw [if_neg h3] at h
  injection h with _ h
  subst h
  exact hc.putS (hF s (hc.eachS s (List.mem_of_getElem? hs)) (by omega))
theorem bodyF_sz (E : List BlkT → Int) (L : List BlkT → List BlkT) (h : ∀ l, (L l).length ≤ l.length + 1 ∧ (E l = 0 → l.length ≤ 100000)) : ∀ s : SetC, s.sz → (bodyF E L s).1 = 0 → (bodyF E L s).2.sz := fun s hs h0 =>
 ⟨hs.path, hs.org, by have h1 := h s.body; have h2 := h1.2 h0; show (L s.body).length ≤ _; omega, hs.snaps, hs.each, hs.own, hs.props⟩
theorem writeF_sz (i : Int) (d : BS) : ∀ s : SetC, s.sz → (writeF i d s).1 = 0 → (writeF i d s).2.sz := bodyF_sz _ _ fun l => ⟨by
 unfold putL11
 simp only [List.length_append, List.length_take, List.length_drop, List.length_cons, List.length_nil]
 split <;> omega, fun h => by
 unfold putE at h
 split at h
 ·rename_i h1; have := okL_small l h1; omega
 ·cases h⟩
set_option maxRecDepth 100000 in
set_option maxHeartbeats 4000000 in
theorem writeT_any (t : TenR) (p : BS) (i : Int) (d : BS) (w : World) (B : Nat) (hB : B ≤ w.heap.size) (hr : t.rd w B) (hz : t.sz) (hp : p.length ≤ 4000000000) (hmx : HasMax w) :
  Calls Tryz.prog 17 #[t.val, .string ⟨p.toArray⟩, .int .i64 i, .string ⟨d.toArray⟩] w (TenPost w (changeS (t.con.changed p (writeF i d)))) := by
 have hcz := TenC.sz_of hr hz
 obtain ⟨nm, qu, nx, ⟨s1, sn, s3, sl⟩, ⟨u1, un, u3, ul⟩, ⟨t1, tn, t3, tl⟩, ⟨l1, ln, l3, ll⟩⟩ := t
 show Calls Tryz.prog 17 #[.agg #[.string ⟨nm.toArray⟩, .int .i64 qu, .int .i64 nx, .slice s1 sn s3, .slice u1 un u3, .slice t1 tn t3, .slice l1 ln l3], .string ⟨p.toArray⟩, .int .i64 i, .string ⟨d.toArray⟩] w _
 have hb := (((((Below.refl w.heap.size w).alloc (Nat.le_refl _) (.cells #[.string ⟨nm.toArray⟩, .int .i64 qu, .int .i64 nx, .slice s1 sn s3, .slice u1 un u3, .slice t1 tn t3, .slice l1 ln l3] 27)).alloc (by simp) (.cells #[.int .i64 i] 3)).alloc (by simp; omega) (.cells #[.string ⟨d.toArray⟩] 9)).alloc (by simp; omega) (.cells #[.string ⟨#[]⟩, .int .i64 0, .int .i64 0, .slice none 0 0, .slice none 0 0, .slice none 0 0, .slice none 0 0] 27))
 have kt := Blk.new w 27 #[.string ⟨nm.toArray⟩, .int .i64 qu, .int .i64 nx, .slice s1 sn s3, .slice u1 un u3, .slice t1 tn t3, .slice l1 ln l3]
 replace kt := kt.alloc (.cells #[.int .i64 i] 3)
 replace kt := kt.alloc (.cells #[.string ⟨d.toArray⟩] 9)
 replace kt := kt.alloc (.cells #[.string ⟨#[]⟩, .int .i64 0, .int .i64 0, .slice none 0 0, .slice none 0 0, .slice none 0 0, .slice none 0 0] 27)
 have kx0 := Blk.new (w.alloc (.cells #[.string ⟨nm.toArray⟩, .int .i64 qu, .int .i64 nx, .slice s1 sn s3, .slice u1 un u3, .slice t1 tn t3, .slice l1 ln l3] 27)) 3 #[.int .i64 i]
 rw [show (w.alloc (.cells #[.string ⟨nm.toArray⟩, .int .i64 qu, .int .i64 nx, .slice s1 sn s3, .slice u1 un u3, .slice t1 tn t3, .slice l1 ln l3] 27)).heap.size = w.heap.size + 1 by simp] at kx0
 replace kx0 := kx0.alloc (.cells #[.string ⟨d.toArray⟩] 9)
 replace kx0 := kx0.alloc (.cells #[.string ⟨#[]⟩, .int .i64 0, .int .i64 0, .slice none 0 0, .slice none 0 0, .slice none 0 0, .slice none 0 0] 27)
 have kx1 := Blk.new ((w.alloc (.cells #[.string ⟨nm.toArray⟩, .int .i64 qu, .int .i64 nx, .slice s1 sn s3, .slice u1 un u3, .slice t1 tn t3, .slice l1 ln l3] 27)).alloc (.cells #[.int .i64 i] 3)) 9 #[.string ⟨d.toArray⟩]
 rw [show ((w.alloc (.cells #[.string ⟨nm.toArray⟩, .int .i64 qu, .int .i64 nx, .slice s1 sn s3, .slice u1 un u3, .slice t1 tn t3, .slice l1 ln l3] 27)).alloc (.cells #[.int .i64 i] 3)).heap.size = w.heap.size + 2 by simp] at kx1
 replace kx1 := kx1.alloc (.cells #[.string ⟨#[]⟩, .int .i64 0, .int .i64 0, .slice none 0 0, .slice none 0 0, .slice none 0 0, .slice none 0 0] 27)
 have kz := Blk.new (((w.alloc (.cells #[.string ⟨nm.toArray⟩, .int .i64 qu, .int .i64 nx, .slice s1 sn s3, .slice u1 un u3, .slice t1 tn t3, .slice l1 ln l3] 27)).alloc (.cells #[.int .i64 i] 3)).alloc (.cells #[.string ⟨d.toArray⟩] 9)) 27 #[.string ⟨#[]⟩, .int .i64 0, .int .i64 0, .slice none 0 0, .slice none 0 0, .slice none 0 0, .slice none 0 0]
 rw [show (((w.alloc (.cells #[.string ⟨nm.toArray⟩, .int .i64 qu, .int .i64 nx, .slice s1 sn s3, .slice u1 un u3, .slice t1 tn t3, .slice l1 ln l3] 27)).alloc (.cells #[.int .i64 i] 3)).alloc (.cells #[.string ⟨d.toArray⟩] 9)).heap.size = w.heap.size + 3 by simp] at kz
 have hsz : ((((w.alloc (.cells #[.string ⟨nm.toArray⟩, .int .i64 qu, .int .i64 nx, .slice s1 sn s3, .slice u1 un u3, .slice t1 tn t3, .slice l1 ln l3] 27)).alloc (.cells #[.int .i64 i] 3)).alloc (.cells #[.string ⟨d.toArray⟩] 9)).alloc (.cells #[.string ⟨#[]⟩, .int .i64 0, .int .i64 0, .slice none 0 0, .slice none 0 0, .slice none 0 0, .slice none 0 0] 27)).heap.size = w.heap.size + 4 := by simp
 obtain ⟨W1, hW1⟩ : ∃ W, W = ((((w.alloc (.cells #[.string ⟨nm.toArray⟩, .int .i64 qu, .int .i64 nx, .slice s1 sn s3, .slice u1 un u3, .slice t1 tn t3, .slice l1 ln l3] 27)).alloc (.cells #[.int .i64 i] 3)).alloc (.cells #[.string ⟨d.toArray⟩] 9)).alloc (.cells #[.string ⟨#[]⟩, .int .i64 0, .int .i64 0, .slice none 0 0, .slice none 0 0, .slice none 0 0, .slice none 0 0] 27)) := ⟨_, rfl⟩
 rw [← hW1] at hb hsz kt kx0 kx1 kz
 have hKt : Hid (∀ W, Below W1.heap.size W1 W → Blk W w.heap.size 27 #[.string ⟨nm.toArray⟩, .int .i64 qu, .int .i64 nx, .slice s1 sn s3, .slice u1 un u3, .slice t1 tn t3, .slice l1 ln l3]) := fun W h => kt.below h (by omega)
 have hKx0 : Hid (∀ W, Below W1.heap.size W1 W → Blk W (w.heap.size + 1) 3 #[.int .i64 i]) := fun W h => kx0.below h (by omega)
 have hKx1 : Hid (∀ W, Below W1.heap.size W1 W → Blk W (w.heap.size + 2) 9 #[.string ⟨d.toArray⟩]) := fun W h => kx1.below h (by omega)
 have hKz : Hid (∀ W, Below W1.heap.size W1 W → Blk W (w.heap.size + 3) 27 #[.string ⟨#[]⟩, .int .i64 0, .int .i64 0, .slice none 0 0, .slice none 0 0, .slice none 0 0, .slice none 0 0]) := fun W h => kz.below h (by omega)
 have hBW : Hid (∀ W, Below W1.heap.size W1 W → Below w.heap.size w W) := fun W h => hb.trans (h.mono (by omega))
 have hSZ : Hid (∀ W, Below W1.heap.size W1 W → w.heap.size + 4 ≤ W.heap.size) := fun W h => by have := h.size; omega
 have hW0 : Hid (Below W1.heap.size W1 W1) := Below.refl _ _
 have hrw : Hid (∀ W, Below W1.heap.size W1 W → TenR.rd W B ⟨nm, qu, nx, ⟨s1, sn, s3, sl⟩, ⟨u1, un, u3, ul⟩, ⟨t1, tn, t3, tl⟩, ⟨l1, ln, l3, ll⟩⟩ ∧ B ≤ W.heap.size ∧ HasMax W) := fun W h =>
  ⟨TenR.rd.below hr ((hBW.out W h).mono hB), by have := hSZ.out W h; omega, hmx.below (hBW.out W h)⟩
 obtain ⟨C, hC⟩ : ∃ C, C = TenR.con ⟨nm, qu, nx, ⟨s1, sn, s3, sl⟩, ⟨u1, un, u3, ul⟩, ⟨t1, tn, t3, tl⟩, ⟨l1, ln, l3, ll⟩⟩ := ⟨_, rfl⟩
 rw [← hC] at hcz ⊢
 have hCH : Hid (∀ W, Below W1.heap.size W1 W → Calls Tryz.prog 50 #[.agg #[.string ⟨nm.toArray⟩, .int .i64 qu, .int .i64 nx, .slice s1 sn s3, .slice u1 un u3, .slice t1 tn t3, .slice l1 ln l3], .string ⟨p.toArray⟩, .func (.func 51) #[] #[.pointer (some ⟨w.heap.size + 1, 0, none⟩), .pointer (some ⟨w.heap.size + 2, 0, none⟩)]] W (TenPost W (C.changed p (writeF i d)))) := fun W h => by
  rw [hC]
  exact changed2_any ⟨nm, qu, nx, ⟨s1, sn, s3, sl⟩, ⟨u1, un, u3, ul⟩, ⟨t1, tn, t3, tl⟩, ⟨l1, ln, l3, ll⟩⟩ p 51 ⟨w.heap.size + 1, 0, none⟩ ⟨w.heap.size + 2, 0, none⟩ (writeF i d) W B (hrw.out W h).2.1 (hrw.out W h).1 hz hp (hrw.out W h).2.2 (writeF_turns i d ⟨w.heap.size + 1, 0, none⟩ ⟨w.heap.size + 2, 0, none⟩ W ((hKx0.out W h).cell 0) (by have := hSZ.out W h; simp only; omega) ((hKx1.out W h).cell 0) (by have := hSZ.out W h; simp only; omega)) (fun args W => enterC Tryz.func51 (by kernel_rfl) (by kernel_rfl) args W)
 obtain ⟨⟨E, C2⟩, hV⟩ : ∃ V : Int × TenC, V = C.changed p (writeF i d) := ⟨_, rfl⟩
 have HV := Lib.hid hV
 rw [← hV] at hCH
 have HCZ := Lib.hid hcz
 clear hb hsz kt kz kx0 kx1 hr hz hp hmx hV hC hcz
 go_enter Tryz.func17, Tryz.ntmps17
 have hc := hCH.out W1 hW0.out
 have kk := hKt.out W1 hW0.out
 obtain ⟨c0, c1, c2, c3, c4, c5, c6⟩ := (⟨kk.cell 0, kk.cell 1, kk.cell 2, kk.cell 3, kk.cell 4, kk.cell 5, kk.cell 6⟩ : _ ∧ _ ∧ _ ∧ _ ∧ _ ∧ _ ∧ _)
 simp only [zF, zD, zE] at c0 c1 c2 c3 c4 c5 c6
 clear kk
 clear hCH
 go_wp2_with fail
 rw [← hW1]
 clear hW1
 refine hc.mono ?_
 clear hc c0 c1 c2 c3 c4 c5 c6
 rintro e w2 ⟨v, rfl, hb, hcs⟩
 have HW2 := Lib.hid (hW0.out.trans (hb.mono hW0.out.size))
 clear hb
 rcases hcs with ⟨h1, rfl⟩ | ⟨h1, z, rfl, ho, hy⟩
 ·simp only at h1
  have HE := Lib.hid h1
  clear h1
  unfold ZEROT
  have HX : Hid (changeS (C.changed p (writeF i d)) = (E, C2)) := by show _ = _; rw [← HV.out]; exact if_pos HE.out
  have hbn := (HW2.out).alloc HW2.out.size (.cells #[.string ⟨#[]⟩, .int .i64 0, .int .i64 0, .slice none 0 0, .slice none 0 0, .slice none 0 0, .slice none 0 0] 27)
  have kbn := Blk.new w2 27 #[.string ⟨#[]⟩, .int .i64 0, .int .i64 0, .slice none 0 0, .slice none 0 0, .slice none 0 0, .slice none 0 0]
  have hsn : (w2.alloc (.cells #[.string ⟨#[]⟩, .int .i64 0, .int .i64 0, .slice none 0 0, .slice none 0 0, .slice none 0 0, .slice none 0 0] 27)).heap.size = w2.heap.size + 1 := by simp
  obtain ⟨Ba, hBa⟩ : ∃ g, g = w2.heap.size := ⟨_, rfl⟩
  obtain ⟨w3, hWn⟩ : ∃ W, W = (w2.alloc (.cells #[.string ⟨#[]⟩, .int .i64 0, .int .i64 0, .slice none 0 0, .slice none 0 0, .slice none 0 0, .slice none 0 0] 27)) := ⟨_, rfl⟩
  rw [← hWn] at hbn kbn hsn 
  have HW3 := Lib.hid hbn
  rw [← hBa] at kbn
  have hKa : Hid (∀ W, Below w3.heap.size w3 W → Blk W Ba 27 #[.string ⟨#[]⟩, .int .i64 0, .int .i64 0, .slice none 0 0, .slice none 0 0, .slice none 0 0, .slice none 0 0]) := fun W h => kbn.below h (by omega)
  have HZa := Lib.hid (show Ba = w2.heap.size ∧ w3.heap.size = w2.heap.size + 1 from ⟨hBa, hsn⟩)
  clear hbn kbn hsn 
  have hE := HE.out
  go_upto_region 3 with (refine wpList_store_new w2 rfl 27 (.tmp 10) (.tmp 17) rfl 27 [.string ⟨#[]⟩, .int .i64 0, .int .i64 0, .slice none 0 0, .slice none 0 0, .slice none 0 0, .slice none 0 0] [.string ⟨#[]⟩, .int .i64 0, .int .i64 0, .slice none 0 0, .slice none 0 0, .slice none 0 0, .slice none 0 0] rfl rfl rfl (by kernel_rfl) (by simp [Value.oneCell']) ?_; rw [show ([.string ⟨#[]⟩, .int .i64 0, .int .i64 0, .slice none 0 0, .slice none 0 0, .slice none 0 0, .slice none 0 0] : List Value).toArray = #[.string ⟨#[]⟩, .int .i64 0, .int .i64 0, .slice none 0 0, .slice none 0 0, .slice none 0 0, .slice none 0 0] from rfl, ← hWn, ← hBa]; clear hWn hBa)
  clear hE
  have KZ := Lib.hid (hKz.out w3 HW3.out)
  have HB := Lib.hid (hBW.out w3 HW3.out)
  obtain ⟨WR, hW4, hth, HL, HBW, hgw⟩ := res7 (g := (w.heap.size + 3)) [.string ⟨#[]⟩, .int .i64 0, .int .i64 0, .slice none 0 0, .slice none 0 0, .slice none 0 0, .slice none 0 0] KZ.out HB.out (by omega)
  clear hgw
  go_wp2_with (refine wpList_store_mid rfl 27 (.tmp 8) (.tmp 21) rfl ((w.heap.size + 3)) 0 #[.string ⟨#[]⟩, .int .i64 0, .int .i64 0, .slice none 0 0, .slice none 0 0, .slice none 0 0, .slice none 0 0] rfl rfl hth.out (by kernel_rfl) (by simp [Value.oneCell']) ?_; rw [← hW4]; clear hW4)
  exact bodyPost_ret (v := .tuple #[.agg #[.string ⟨#[]⟩, .int .i64 0, .int .i64 0, .slice none 0 0, .slice none 0 0, .slice none 0 0, .slice none 0 0], .int .i64 E]) (results_cell_tmp rfl rfl HL.out) rfl (tenPost_err HX.out HE.out HBW.out)
 ·simp only at h1
  subst h1
  have HO := Lib.hid (ho.mono (base' := w.heap.size) (by have := hSZ.out W1 hW0.out; omega))
  have HY := Lib.hid hy
  clear ho hy
  have HCS := Lib.hid (changed_sz HCZ.out HV.out (writeF_sz i d))
  obtain ⟨mm, mq, mx, ⟨m1, m2, m3, ml⟩, ⟨n1, n2, n3, nl⟩, ⟨p1, p2, p3, pl⟩, ⟨q1, q2, q3, ql⟩⟩ := z
  simp only [TenR.val, TenR.cells, FS.val, strV]
  have hbn := (HW2.out).alloc HW2.out.size (.cells #[.string ⟨mm.toArray⟩, .int .i64 mq, .int .i64 mx, .slice m1 m2 m3, .slice n1 n2 n3, .slice p1 p2 p3, .slice q1 q2 q3] 27)
  have kbn := Blk.new w2 27 #[.string ⟨mm.toArray⟩, .int .i64 mq, .int .i64 mx, .slice m1 m2 m3, .slice n1 n2 n3, .slice p1 p2 p3, .slice q1 q2 q3]
  have hsn : (w2.alloc (.cells #[.string ⟨mm.toArray⟩, .int .i64 mq, .int .i64 mx, .slice m1 m2 m3, .slice n1 n2 n3, .slice p1 p2 p3, .slice q1 q2 q3] 27)).heap.size = w2.heap.size + 1 := by simp
  have HOn := HO.out.below ((Below.refl w2.heap.size w2).alloc (Nat.le_refl _) (.cells #[.string ⟨mm.toArray⟩, .int .i64 mq, .int .i64 mx, .slice m1 m2 m3, .slice n1 n2 n3, .slice p1 p2 p3, .slice q1 q2 q3] 27))
  obtain ⟨Ba, hBa⟩ : ∃ g, g = w2.heap.size := ⟨_, rfl⟩
  obtain ⟨w3, hWn⟩ : ∃ W, W = (w2.alloc (.cells #[.string ⟨mm.toArray⟩, .int .i64 mq, .int .i64 mx, .slice m1 m2 m3, .slice n1 n2 n3, .slice p1 p2 p3, .slice q1 q2 q3] 27)) := ⟨_, rfl⟩
  rw [← hWn] at hbn kbn hsn HOn
  have HW3 := Lib.hid hbn
  rw [← hBa] at kbn
  have hKa : Hid (∀ W, Below w3.heap.size w3 W → Blk W Ba 27 #[.string ⟨mm.toArray⟩, .int .i64 mq, .int .i64 mx, .slice m1 m2 m3, .slice n1 n2 n3, .slice p1 p2 p3, .slice q1 q2 q3]) := fun W h => kbn.below h (by omega)
  have HZa := Lib.hid (show Ba = w2.heap.size ∧ w3.heap.size = w2.heap.size + 1 from ⟨hBa, hsn⟩)
  have HO := Lib.hid HOn
  clear hbn kbn hsn HOn
  have hSE := settleT_any ⟨mm, mq, mx, ⟨m1, m2, m3, ml⟩, ⟨n1, n2, n3, nl⟩, ⟨p1, p2, p3, pl⟩, ⟨q1, q2, q3, ql⟩⟩ w3 w3.heap.size (Nat.le_refl _) HO.out.rd (TenR.sz_of HO.out.rd (by rw [HY.out]; exact HCS.out)) (hrw.out w3 HW3.out).2.2
  rw [HY.out] at hSE
  obtain ⟨⟨E, C3⟩, hV3⟩ : ∃ V : Int × TenC, V = C2.settle := ⟨_, rfl⟩
  rw [← hV3] at hSE
  have HX : Hid (changeS (C.changed p (writeF i d)) = (E, C3)) := by show _ = _; rw [← HV.out, hV3]; rfl
  have HSE := Lib.hid hSE
  clear hSE hV3
  have kk := hKa.out w3 (Below.refl _ _)
  obtain ⟨c0, c1, c2, c3, c4, c5, c6⟩ := (⟨kk.cell 0, kk.cell 1, kk.cell 2, kk.cell 3, kk.cell 4, kk.cell 5, kk.cell 6⟩ : _ ∧ _ ∧ _ ∧ _ ∧ _ ∧ _ ∧ _)
  simp only [zF, zD, zE] at c0 c1 c2 c3 c4 c5 c6
  clear kk
  go_wp2_with (refine wpList_store_new w2 rfl 27 (.tmp 10) (.tmp 17) rfl 27 [.string ⟨#[]⟩, .int .i64 0, .int .i64 0, .slice none 0 0, .slice none 0 0, .slice none 0 0, .slice none 0 0] [.string ⟨mm.toArray⟩, .int .i64 mq, .int .i64 mx, .slice m1 m2 m3, .slice n1 n2 n3, .slice p1 p2 p3, .slice q1 q2 q3] rfl rfl rfl (by kernel_rfl) (by simp [Value.oneCell']) ?_; rw [show ([.string ⟨mm.toArray⟩, .int .i64 mq, .int .i64 mx, .slice m1 m2 m3, .slice n1 n2 n3, .slice p1 p2 p3, .slice q1 q2 q3] : List Value).toArray = #[.string ⟨mm.toArray⟩, .int .i64 mq, .int .i64 mx, .slice m1 m2 m3, .slice n1 n2 n3, .slice p1 p2 p3, .slice q1 q2 q3] from rfl, ← hWn, ← hBa]; clear hWn hBa)
  refine HSE.out.mono ?_
  clear HSE c0 c1 c2 c3 c4 c5 c6
  rintro e w4 ⟨v, rfl, hb, hcs⟩
  have HW4 := Lib.hid (HW3.out.trans (hb.mono HW3.out.size))
  clear hb
  rcases hcs with ⟨h1, rfl⟩ | ⟨h1, z, rfl, ho, hy⟩
  ·simp only at h1
   have HE := Lib.hid h1
   clear h1
   unfold ZEROT
   have KZ := Lib.hid (hKz.out w4 HW4.out)
   have HB := Lib.hid (hBW.out w4 HW4.out)
   obtain ⟨WR, hW4, hth, HL, HBW, hgw⟩ := res7 (g := (w.heap.size + 3)) [.string ⟨#[]⟩, .int .i64 0, .int .i64 0, .slice none 0 0, .slice none 0 0, .slice none 0 0, .slice none 0 0] KZ.out HB.out (by omega)
   clear hgw
   go_wp2_with (refine wpList_store_mid rfl 27 (.tmp 8) (.tmp 25) rfl ((w.heap.size + 3)) 0 #[.string ⟨#[]⟩, .int .i64 0, .int .i64 0, .slice none 0 0, .slice none 0 0, .slice none 0 0, .slice none 0 0] rfl rfl hth.out (by kernel_rfl) (by simp [Value.oneCell']) ?_; rw [← hW4]; clear hW4)
   exact bodyPost_ret (v := .tuple #[.agg #[.string ⟨#[]⟩, .int .i64 0, .int .i64 0, .slice none 0 0, .slice none 0 0, .slice none 0 0, .slice none 0 0], .int .i64 E]) (results_cell_tmp rfl rfl HL.out) rfl (tenPost_err HX.out HE.out HBW.out)
  ·simp only at h1
   subst h1
   have HO := Lib.hid (ho.mono (base' := w.heap.size) (by have := hSZ.out w3 HW3.out; omega))
   have HY := Lib.hid hy
   clear ho hy
   obtain ⟨am, aq, ax, ⟨a1, a2, a3, al⟩, ⟨f1, f2, f3, fl⟩, ⟨i1, i2, i3, il⟩, ⟨j1, j2, j3, jl⟩⟩ := z
   simp only [TenR.val, TenR.cells, FS.val, strV]
   have KZ := Lib.hid (hKz.out w4 HW4.out)
   have HB := Lib.hid (hBW.out w4 HW4.out)
   obtain ⟨WR, hW4, hth, HL, HBW, hgw⟩ := res7 (g := (w.heap.size + 3)) [.string ⟨am.toArray⟩, .int .i64 aq, .int .i64 ax, .slice a1 a2 a3, .slice f1 f2 f3, .slice i1 i2 i3, .slice j1 j2 j3] KZ.out HB.out (by omega)
   have HOO := Lib.hid (TenO.keptT HO.out hgw KZ.out offT_ten)
   clear hgw
   go_wp2_with (refine wpList_store_mid rfl 27 (.tmp 8) (.tmp 25) rfl ((w.heap.size + 3)) 0 #[.string ⟨am.toArray⟩, .int .i64 aq, .int .i64 ax, .slice a1 a2 a3, .slice f1 f2 f3, .slice i1 i2 i3, .slice j1 j2 j3] rfl rfl hth.out (by kernel_rfl) (by simp [Value.oneCell']) ?_; rw [← hW4]; clear hW4)
   exact bodyPost_ret (v := .tuple #[.agg #[.string ⟨am.toArray⟩, .int .i64 aq, .int .i64 ax, .slice a1 a2 a3, .slice f1 f2 f3, .slice i1 i2 i3, .slice j1 j2 j3], .int .i64 0]) (results_cell_tmp rfl rfl HL.out) rfl (tenPost_ok HX.out HBW.out ⟨am, aq, ax, ⟨a1, a2, a3, al⟩, ⟨f1, f2, f3, fl⟩, ⟨i1, i2, i3, il⟩, ⟨j1, j2, j3, jl⟩⟩ HOO.out HY.out)
end Go.Proofs.YteafdncnnamakaaGreatDoor
