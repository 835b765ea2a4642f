/-
  The page's Open of sessions, by its contract.
-/
import Derived.Deep.Cut
import Derived.Deep.RegionLaw
import Derived.Test.YtjdebhemoeojiaaDoorYRf
import Derived.Test.YtjdebhemoeojiaaDoorYLaw
namespace Go.Proofs.YtjdebhemoeojiaaDoor
open Go.RowKit

/-- the page's way of putting one in -/
def rStep (x : BS) (one : SesC) (st : Bool × List SesC) (y : SesC) : Bool × List SesC := if (!st.1 && Op.bytesLess x y.ten) = true then (true, st.2 ++ [one] ++ [y]) else (st.1, st.2 ++ [y])
def rFin (one : SesC) (st : Bool × List SesC) : List SesC := if st.1 = true then st.2 else st.2 ++ [one]
def hStep (x : BS) (n : Int) (st : Bool × List HadT) (y : HadT) : Bool × List HadT :=
  let y' : HadT := if y.1 = x then (y.1, n) else y
  let p : Bool := st.1 || y.1 == x
  if (!p && Op.bytesLess x y.1) = true then (true, st.2 ++ [(x, n)] ++ [y']) else (p, st.2 ++ [y'])
def hFin (x : BS) (n : Int) (st : Bool × List HadT) : List HadT := if st.1 = true then st.2 else st.2 ++ [(x, n)]
theorem rStep_on (x : BS) (one : SesC) (a l : List SesC) : l.foldl (rStep x one) (true, a) = (true, a ++ l) := by
  induction l generalizing a with
  | nil => simp
  | cons y l ih =>
    rw [List.foldl_cons, show rStep x one (true, a) y = (true, a ++ [y]) from rfl, ih]
    simp
theorem rStep_all (x : BS) (one : SesC) (a l : List SesC) (h : ∀ y ∈ l, Op.bytesLess x y.ten = false) : l.foldl (rStep x one) (false, a) = (false, a ++ l) := by
  induction l generalizing a with
  | nil => simp
  | cons y l ih =>
    have h1 : rStep x one (false, a) y = (false, a ++ [y]) := by unfold rStep; rw [h y (List.mem_cons_self ..)]; rfl
    rw [List.foldl_cons, h1, ih _ (fun z hz => h z (List.mem_cons_of_mem _ hz))]
    simp
theorem rStep_open (x : BS) (one : SesC) (a b : List SesC) (h1 : ∀ y ∈ a, Op.bytesLess x y.ten = false) (h2 : ∀ y ∈ b, Op.bytesLess x y.ten = true) : rFin one ((a ++ b).foldl (rStep x one) (false, [])) = a ++ [one] ++ b := by
  rw [List.foldl_append, rStep_all _ _ _ _ h1]
  cases b with
  | nil => simp [rFin]
  | cons y b =>
    have h3 : rStep x one (false, [] ++ a) y = (true, a ++ [one] ++ [y]) := by unfold rStep; rw [h2 y (List.mem_cons_self ..)]; rfl
    rw [List.foldl_cons, h3, rStep_on]
    simp [rFin]
theorem hStep_on (x : BS) (n : Int) (a l : List HadT) (h : ∀ y ∈ l, y.1 ≠ x) : l.foldl (hStep x n) (true, a) = (true, a ++ l) := by
  induction l generalizing a with
  | nil => simp
  | cons y l ih =>
    have h1 : hStep x n (true, a) y = (true, a ++ [y]) := by
      unfold hStep
      simp [h y (List.mem_cons_self ..)]
    rw [List.foldl_cons, h1, ih _ (fun z hz => h z (List.mem_cons_of_mem _ hz))]
    simp
theorem hStep_all (x : BS) (n : Int) (a l : List HadT) (h : ∀ y ∈ l, Op.bytesLess y.1 x = true) : l.foldl (hStep x n) (false, a) = (false, a ++ l) := by
  induction l generalizing a with
  | nil => simp
  | cons y l ih =>
    have hl := h y (List.mem_cons_self ..)
    have hg : Op.bytesLess x y.1 = false := by
      cases hh : Op.bytesLess x y.1 with
      | false => rfl
      | true => have := bl_trans hl hh; rw [bl_irrefl] at this; cases this
    have h1 : hStep x n (false, a) y = (false, a ++ [y]) := by
      unfold hStep
      simp [bl_ne hl, hg]
    rw [List.foldl_cons, h1, ih _ (fun z hz => h z (List.mem_cons_of_mem _ hz))]
    simp
/-- the page's way of counting is the program's -/
theorem hStep_put (l : List HadT) (x : BS) (h : SortH l) : hFin x (seHad l x + 1) (l.foldl (hStep x (seHad l x + 1)) (false, [])) = putH l x := by
  rcases putH_cases l x h with ⟨a, c, b, hl, hp, he, h1, h2⟩ | ⟨a, b, hl, hp, he, h1, h2⟩
  · rw [hp, he]
    conv => lhs; rw [hl]
    rw [List.append_assoc, List.foldl_append, hStep_all _ _ _ _ h1, List.foldl_append]
    have h3 : [(x, c)].foldl (hStep x (c + 1)) (false, [] ++ a) = (true, a ++ [(x, c + 1)]) := by
      simp [hStep]
    rw [h3, hStep_on _ _ _ _ (fun y hy e => bl_ne (h2 y hy) e.symm)]
    simp [hFin]
  · rw [hp, he]
    conv => lhs; rw [hl]
    rw [List.foldl_append, hStep_all _ _ _ _ h1]
    cases b with
    | nil => simp [hFin]
    | cons y b =>
      have hg := h2 y (List.mem_cons_self ..)
      have hne : y.1 ≠ x := fun e => bl_ne hg e.symm
      have h3 : hStep x (0 + 1) (false, [] ++ a) y = (true, a ++ [(x, 0 + 1)] ++ [y]) := by
        unfold hStep
        simp [hne, hg]
      have hso : ∀ z ∈ b, z.1 ≠ x := fun z hz e => bl_ne (h2 z (List.mem_cons_of_mem _ hz)) e.symm
      rw [List.foldl_cons, h3, hStep_on _ _ _ _ hso]
      simp [hFin]
theorem rStep_openL (T : TabC) (x z : BS) (h : openE T x z = 0) : rFin ⟨x, openN T x, z, [], false⟩ (T.opn.foldl (rStep x ⟨x, openN T x, z, [], false⟩) (false, [])) = (openL T x z).opn := by
  obtain ⟨hT, -⟩ := openE_zero T x z h
  have hN : openN T x = seHad T.had x + 1 := putH_same _ _ hT.sortH
  obtain ⟨hp1, hp2⟩ := posF_parts (cfT x (openN T x)) T.opn (cfT_asc T.opn hT.sortT x (openN T x))
  have hcut := List.take_append_drop (posF (cfT x (openN T x)) T.opn) T.opn
  conv => lhs; rw [← hcut]
  rw [rStep_open]
  · rfl
  · intro y hy
    have := (cmpT_neg _ _ _ _).1 (hp1 y hy)
    rcases this with h1 | ⟨h1, _⟩
    · cases hh : Op.bytesLess x y.ten with
      | false => rfl
      | true => have := bl_trans h1 hh; rw [bl_irrefl] at this; cases this
    · rw [h1]; exact bl_irrefl _
  · intro y hy
    have h1 := hp2 y hy
    have h2 := List.mem_of_mem_drop hy
    have h3 : ¬ cmpT y.ten y.hd x (openN T x) < 0 := by unfold cfT at h1; omega
    rw [cmpT_neg] at h3
    refine bl_tri _ _ ?_ (fun e => ?_)
    · rw [← Bool.not_eq_true]; exact fun e => h3 (.inl e)
    · have := (sesB_hd (hT.opn y h2).1).2
      rw [e] at this
      exact h3 (.inr ⟨e, by omega⟩)
set_option maxRecDepth 100000 in
set_option maxHeartbeats 8000000 in
theorem ropen_any (t : TabR) (x z : BS) (hxl : x.length ≤ 4000000000) (hzl : z.length ≤ 4000000000) (w : World) (B : Nat) (hr : t.rd w B) (hB : B ≤ w.heap.size) (hz : t.sz) (hz9 : t.opn.n ≤ 900000000 ∧ t.had.n ≤ 900000000) :
    Calls Tryd.prog 13 #[t.val, .string ⟨x.toArray⟩, .string ⟨z.toArray⟩] w fun e w' => ∃ s : TabR, e = .returned (.tuple #[s.val, .int .i64 (openC t.con x z).2, .int .i64 (openE t.con x z)]) ∧ TabO w' w.heap.size s ∧ s.con = (openC t.con x z).1 ∧ Below w.heap.size w w' := by
  have hCk := fun W (hb : Below w.heap.size w W) => rcheck26_any t W B (hr.below (hb.mono hB)) (Nat.le_trans hB hb.size) hz
  have hAt := fun W (hb : Below w.heap.size w W) => rat_any t x z W B (hr.below (hb.mono hB)) (Nat.le_trans hB hb.size) hz
  have hHd := fun W (hb : Below w.heap.size w W) => rhad_any t x W B (hr.below (hb.mono hB)) (Nat.le_trans hB hb.size) hz
  have hCn := fun W (hb : Below w.heap.size w W) => rcount_any t x W B (hr.below (hb.mono hB)) (Nat.le_trans hB hb.size) hz
  have hOw := fun W (hb : Below w.heap.size w W) => rown26_any t W B (hr.below (hb.mono hB)) (Nat.le_trans hB hb.size) hz
  have hSZ2 : Hid (∀ s : TabR, s.con = t.con → s.opn.n = s.opn.l.length → s.had.n = s.had.l.length → s.opn.n ≤ 900000000 ∧ s.had.n ≤ 900000000) := by
    show ∀ s, _ → _ → _ → _
    intro s h h1 h3
    have ho := congrArg List.length (show s.opn.l.map SesR.con = t.opn.l.map SesR.con from congrArg TabC.opn h)
    have hh := congrArg List.length (show s.had.l = t.had.l from congrArg TabC.had h)
    rw [List.length_map, List.length_map] at ho
    have e1 := hr.opn.1
    have e2 := hr.had.1
    omega
  obtain ⟨i0, hi0, hz0, hz1, hz2⟩ := info_parts Tryd.ses_info
  obtain ⟨j0, hj0, hy0, hy1, hy2⟩ := info_parts cloneH_info2
  obtain ⟨T, hT0⟩ : ∃ T, T = t.con := ⟨_, rfl⟩
  rw [← hT0] at hCk hAt hHd hCn hOw hSZ2 ⊢
  clear hT0
  obtain ⟨⟨oA, on, oc, ol⟩, ⟨dA, dn, dc, dl⟩⟩ := t
  show Calls Tryd.prog 13 #[.agg #[.slice oA on oc, .slice dA dn dc], .string ⟨x.toArray⟩, .string ⟨z.toArray⟩] w _
  have hb1 := (Below.refl w.heap.size w).alloc (Nat.le_refl _) (.cells #[.slice oA on oc, .slice dA dn dc] 25)
  have kT := Blk.new w 25 #[.slice oA on oc, .slice dA dn dc]
  obtain ⟨W1, hW1⟩ : ∃ W, W = w.alloc (.cells #[.slice oA on oc, .slice dA dn dc] 25) := ⟨_, rfl⟩
  have hsz1 : W1.heap.size = w.heap.size + 1 := by rw [hW1]; simp
  rw [← hW1] at hb1 kT
  have hT := Lib.hid (fun (W' : World) (hB' : Below W1.heap.size W1 W') => (⟨(kT.below hB' (by omega)).cell 0, (kT.below hB' (by omega)).cell 1⟩ : W'.cell? ⟨w.heap.size, 0, none⟩ = some (.slice oA on oc) ∧ W'.cell? ⟨w.heap.size, 1, none⟩ = some (.slice dA dn dc)))
  obtain ⟨W0, hW0⟩ : ∃ W, W = W1.alloc (.cells #[.slice none 0 0, .slice none 0 0] 25) := ⟨_, rfl⟩
  have kR := Blk.new W1 25 #[.slice none 0 0, .slice none 0 0]
  have hb01 := (Below.refl W1.heap.size W1).alloc (Nat.le_refl _) (.cells #[.slice none 0 0, .slice none 0 0] 25)
  have kT0 := kT.alloc (.cells #[.slice none 0 0, .slice none 0 0] 25)
  have hsz0 : W0.heap.size = w.heap.size + 2 := by rw [hW0]; show (World.heap _ |>.push _).size = _; rw [Array.size_push, hsz1]
  rw [← hW0] at kR hb01 kT0
  rw [hsz1] at kR
  have hb0 : Below w.heap.size w W0 := hb1.trans (hb01.mono (by omega))
  have HUP : Hid (∀ W, Below W0.heap.size W0 W → Below w.heap.size w W) := fun W h => hb0.trans (h.mono (by omega))
  have hCk : Hid (∀ W, Below W0.heap.size W0 W → Calls Tryd.prog 17 #[.agg #[.slice oA on oc, .slice dA dn dc]] W fun e W' => e = .returned (.int .i64 (tabE T)) ∧ Below W.heap.size W W') := fun W h => hCk W (HUP.out W h)
  have hNa : Hid (∀ W, Below W0.heap.size W0 W → Calls Tryd.prog 40 #[.string ⟨x.toArray⟩] W fun e W' => e = .returned (.bool (nameB x)) ∧ Below W.heap.size W W') := fun W _ => (refName_any x W (by omega)).mono fun e w' h => ⟨h.1, by rw [h.2]; exact Below.refl _ _⟩
  have hPa : Hid (∀ W, Below W0.heap.size W0 W → Calls Tryd.prog 41 #[.string ⟨z.toArray⟩] W fun e W' => e = .returned (.bool (sePath z)) ∧ Below W.heap.size W W') := fun W _ => rpath26_any z W hzl
  have hAt : Hid (∀ W, Below W0.heap.size W0 W → Calls Tryd.prog 42 #[.agg #[.slice oA on oc, .slice dA dn dc], .string ⟨x.toArray⟩, .string ⟨z.toArray⟩] W fun e W' => e = .returned (.int .i64 (seAt T.opn x z)) ∧ Below W.heap.size W W') := fun W h => hAt W (HUP.out W h)
  have hHd : Hid (∀ W, Below W0.heap.size W0 W → Calls Tryd.prog 44 #[.agg #[.slice oA on oc, .slice dA dn dc], .string ⟨x.toArray⟩] W fun e W' => e = .returned (.int .i64 (seHad T.had x)) ∧ Below W.heap.size W W') := fun W h => hHd W (HUP.out W h)
  obtain ⟨m, hm⟩ : ∃ m, m = (seOf T.opn x).length := ⟨_, rfl⟩
  have hOf : Hid (∀ W, Below W0.heap.size W0 W → Calls Tryd.prog 43 #[.agg #[.slice oA on oc, .slice dA dn dc], .string ⟨x.toArray⟩] W fun e W' => e = .returned (.int .i64 (m : Int)) ∧ Below W.heap.size W W') := fun W h => by rw [hm]; exact hCn W (HUP.out W h)
  have hOw : Hid (∀ W, Below W0.heap.size W0 W → Calls Tryd.prog 9 #[.agg #[.slice oA on oc, .slice dA dn dc]] W fun e W' => ∃ s : TabR, e = .returned s.val ∧ TabO W' W.heap.size s ∧ s.con = T ∧ Below W.heap.size W W') := fun W h => hOw W (HUP.out W h)
  have hE9 := tabE_09 T
  have HVC : Hid (openC T x z = if openE T x z = 0 then (openL T x z, openN T x) else (⟨[], []⟩, 0)) := rfl
  have HROP := Lib.hid (rStep_openL T x z)
  have HV0 : Hid (openE T x z = if tabE T = 9 then 9 else if nameB x = false ∨ sePath z = false then 31 else if 0 < seAt T.opn x z then 44 else if m = 16 then 3 else if seHad T.had x = 1099511627776 then 15 else 0) := by show _ = _; rw [hm]; rfl
  obtain ⟨V, hV⟩ : ∃ V, V = openE T x z := ⟨_, rfl⟩
  rw [← hV] at HVC HV0 HROP ⊢
  have HV := HV0
  obtain ⟨E, hE⟩ : ∃ E, E = tabE T := ⟨_, rfl⟩
  rw [← hE] at HV hCk hE9
  have HE0 := Lib.hid hE
  obtain ⟨bN, hbN⟩ : ∃ b, b = nameB x := ⟨_, rfl⟩
  rw [← hbN] at HV hNa
  obtain ⟨bP, hbP⟩ : ∃ b, b = sePath z := ⟨_, rfl⟩
  rw [← hbP] at HV hPa
  obtain ⟨zA, hzA⟩ : ∃ b, b = seAt T.opn x z := ⟨_, rfl⟩
  rw [← hzA] at HV hAt
  obtain ⟨zH, hzH⟩ : ∃ b, b = seHad T.had x := ⟨_, rfl⟩
  rw [← hzH] at HV hHd
  have HZH := Lib.hid hzH
  have HSZ0 := Lib.hid hsz0
  have KR := Lib.hid kR
  have KT := Lib.hid kT0
  have hc := hCk.out _ (Below.refl _ _)
  obtain ⟨⟨c0, c1⟩, -⟩ := blk2T kT0
  rw [hW0, hW1] at c0 c1
  clear hb1 kT hr hz hsz1 kR hb01 kT0 hsz0 hb0 hT hm hV hE hbN hbP hzA hzH HV0 hz9 hCk hCn
  go_enter Tryd.func13, Tryd.ntmps13
  go_wp2_with fail
  rw [← hW1, ← hW0]
  refine hc.mono ?_
  clear hc c0 c1 hW0 hW1
  rintro e w2 ⟨rfl, hb2⟩
  have HB2 := Lib.hid hb2
  clear hb2
  rcases hE9 with rfl | rfl
  case inr =>
    have HF : Hid (V = 9) := by show _ = _; rw [HV.out, if_pos rfl]
    have kR := KR.out.below HB2.out (by have := HSZ0.out; omega)
    obtain ⟨⟨r0, r1⟩, fr0, fr1⟩ := blk2T kR
    have HBW := Lib.hid (HUP.out _ HB2.out)
    go_wp2_with fail
    have kE := (kR.set_ 0 (.slice none 0 0)).set_ 1 (.slice none 0 0)
    obtain ⟨⟨r0, r1⟩, -⟩ := blk2T kE
    refine bodyPost_ret (v := .tuple #[.agg #[.slice none 0 0, .slice none 0 0], .int .i64 0, .int .i64 9]) (by simp [results, Tryd.results13, go_sem, r0, r1]) rfl ⟨⟨⟨none, 0, 0, []⟩, ⟨none, 0, 0, []⟩⟩, by rw [HF.out, HVC.out, if_neg (by rw [HF.out]; decide)]; rfl, ⟨⟨rfl, World.ownsRow_nil _ _ _ _⟩, (fun y hy => by cases hy), ⟨rfl, World.ownsRow_nil _ _ _ _⟩⟩, by rw [HVC.out, if_neg (by rw [HF.out]; decide)]; rfl, ?_⟩
    exact ((HBW.out.setCell (by simp only; omega) _).setCell (by simp only; omega) _)
  case inl =>
    have hc := hNa.out _ HB2.out
    obtain ⟨⟨c0, c1⟩, -⟩ := blk2T (KT.out.below HB2.out (by have := HSZ0.out; omega))
    go_wp2_with fail
    refine hc.mono ?_
    clear hc c0 c1
    rintro e w3 ⟨rfl, hbn⟩
    have HB3 := Lib.hid (HB2.out.trans (hbn.mono HB2.out.size))
    clear hbn
    obtain ⟨⟨c0, c1⟩, -⟩ := blk2T (KT.out.below HB3.out (by have := HSZ0.out; omega))
    cases bN with
    | false =>
      have HF : Hid (V = 31) := by show _ = _; rw [HV.out, if_neg (by decide), if_pos (.inl rfl)]
      have kR := KR.out.below HB3.out (by have := HSZ0.out; omega)
      obtain ⟨⟨r0, r1⟩, fr0, fr1⟩ := blk2T kR
      have HBW := Lib.hid (HUP.out _ HB3.out)
      go_wp2_with fail
      have kE := (kR.set_ 0 (.slice none 0 0)).set_ 1 (.slice none 0 0)
      obtain ⟨⟨r0, r1⟩, -⟩ := blk2T kE
      refine bodyPost_ret (v := .tuple #[.agg #[.slice none 0 0, .slice none 0 0], .int .i64 0, .int .i64 31]) (by simp [results, Tryd.results13, go_sem, r0, r1]) rfl ⟨⟨⟨none, 0, 0, []⟩, ⟨none, 0, 0, []⟩⟩, by rw [HF.out, HVC.out, if_neg (by rw [HF.out]; decide)]; rfl, ⟨⟨rfl, World.ownsRow_nil _ _ _ _⟩, (fun y hy => by cases hy), ⟨rfl, World.ownsRow_nil _ _ _ _⟩⟩, by rw [HVC.out, if_neg (by rw [HF.out]; decide)]; rfl, ?_⟩
      exact ((HBW.out.setCell (by simp only; omega) _).setCell (by simp only; omega) _)
    | true =>
      have hc := hPa.out _ HB3.out
      obtain ⟨⟨c0, c1⟩, -⟩ := blk2T (KT.out.below HB3.out (by have := HSZ0.out; omega))
      go_wp2_with fail
      refine hc.mono ?_
      clear hc c0 c1
      rintro e w4 ⟨rfl, hbn⟩
      have HB4 := Lib.hid (HB3.out.trans (hbn.mono HB3.out.size))
      clear hbn
      obtain ⟨⟨c0, c1⟩, -⟩ := blk2T (KT.out.below HB4.out (by have := HSZ0.out; omega))
      cases bP with
      | false =>
        have HF : Hid (V = 31) := by show _ = _; rw [HV.out, if_neg (by decide), if_pos (.inr rfl)]
        have kR := KR.out.below HB4.out (by have := HSZ0.out; omega)
        obtain ⟨⟨r0, r1⟩, fr0, fr1⟩ := blk2T kR
        have HBW := Lib.hid (HUP.out _ HB4.out)
        go_wp2_with fail
        have kE := (kR.set_ 0 (.slice none 0 0)).set_ 1 (.slice none 0 0)
        obtain ⟨⟨r0, r1⟩, -⟩ := blk2T kE
        refine bodyPost_ret (v := .tuple #[.agg #[.slice none 0 0, .slice none 0 0], .int .i64 0, .int .i64 31]) (by simp [results, Tryd.results13, go_sem, r0, r1]) rfl ⟨⟨⟨none, 0, 0, []⟩, ⟨none, 0, 0, []⟩⟩, by rw [HF.out, HVC.out, if_neg (by rw [HF.out]; decide)]; rfl, ⟨⟨rfl, World.ownsRow_nil _ _ _ _⟩, (fun y hy => by cases hy), ⟨rfl, World.ownsRow_nil _ _ _ _⟩⟩, by rw [HVC.out, if_neg (by rw [HF.out]; decide)]; rfl, ?_⟩
        exact ((HBW.out.setCell (by simp only; omega) _).setCell (by simp only; omega) _)
      | true =>
        have hc := hAt.out _ HB4.out
        obtain ⟨⟨c0, c1⟩, -⟩ := blk2T (KT.out.below HB4.out (by have := HSZ0.out; omega))
        go_wp2_with fail
        refine hc.mono ?_
        clear hc c0 c1
        rintro e w5 ⟨rfl, hbn⟩
        have HB5 := Lib.hid (HB4.out.trans (hbn.mono HB4.out.size))
        clear hbn
        obtain ⟨⟨c0, c1⟩, -⟩ := blk2T (KT.out.below HB5.out (by have := HSZ0.out; omega))
        by_cases hA : 0 < zA
        · have dA1 : decide (0 < zA) = true := by simpa using hA
          have HA0 := Lib.hid hA
          have HF : Hid (V = 44) := by show _ = _; rw [HV.out, if_neg (by decide), if_neg (by simp), if_pos HA0.out]
          have kR := KR.out.below HB5.out (by have := HSZ0.out; omega)
          obtain ⟨⟨r0, r1⟩, fr0, fr1⟩ := blk2T kR
          have HBW := Lib.hid (HUP.out _ HB5.out)
          go_wp2_with fail
          have kE := (kR.set_ 0 (.slice none 0 0)).set_ 1 (.slice none 0 0)
          obtain ⟨⟨r0, r1⟩, -⟩ := blk2T kE
          refine bodyPost_ret (v := .tuple #[.agg #[.slice none 0 0, .slice none 0 0], .int .i64 0, .int .i64 44]) (by simp [results, Tryd.results13, go_sem, r0, r1]) rfl ⟨⟨⟨none, 0, 0, []⟩, ⟨none, 0, 0, []⟩⟩, by rw [HF.out, HVC.out, if_neg (by rw [HF.out]; decide)]; rfl, ⟨⟨rfl, World.ownsRow_nil _ _ _ _⟩, (fun y hy => by cases hy), ⟨rfl, World.ownsRow_nil _ _ _ _⟩⟩, by rw [HVC.out, if_neg (by rw [HF.out]; decide)]; rfl, ?_⟩
          exact ((HBW.out.setCell (by simp only; omega) _).setCell (by simp only; omega) _)
        have dA1 : decide (0 < zA) = false := by simpa using hA
        have HA0 := Lib.hid hA
        clear hA
        have hc := hOf.out _ HB5.out
        obtain ⟨⟨c0, c1⟩, -⟩ := blk2T (KT.out.below HB5.out (by have := HSZ0.out; omega))
        go_wp2_with fail
        refine hc.mono ?_
        clear hc c0 c1
        rintro e w55 ⟨rfl, hbn⟩
        have HB55 := Lib.hid (HB5.out.trans (hbn.mono HB5.out.size))
        clear hbn
        obtain ⟨⟨c0, c1⟩, -⟩ := blk2T (KT.out.below HB55.out (by have := HSZ0.out; omega))
        by_cases hM : m = 16
        · have dM1 : ((m : Int) == 16) = true := by simp; omega
          have dM2 : decide ((m : Int) = 16) = true := by simp; omega
          have HM0 := Lib.hid hM
          clear hM
          have HF : Hid (V = 3) := by show _ = _; rw [HV.out, if_neg (by decide), if_neg (by simp), if_neg (by have := HA0.out; omega), if_pos HM0.out]
          have kR := KR.out.below HB55.out (by have := HSZ0.out; omega)
          obtain ⟨⟨r0, r1⟩, fr0, fr1⟩ := blk2T kR
          have HBW := Lib.hid (HUP.out _ HB55.out)
          go_wp2_with fail
          have kE := (kR.set_ 0 (.slice none 0 0)).set_ 1 (.slice none 0 0)
          obtain ⟨⟨r0, r1⟩, -⟩ := blk2T kE
          refine bodyPost_ret (v := .tuple #[.agg #[.slice none 0 0, .slice none 0 0], .int .i64 0, .int .i64 3]) (by simp [results, Tryd.results13, go_sem, r0, r1]) rfl ⟨⟨⟨none, 0, 0, []⟩, ⟨none, 0, 0, []⟩⟩, by rw [HF.out, HVC.out, if_neg (by rw [HF.out]; decide)]; rfl, ⟨⟨rfl, World.ownsRow_nil _ _ _ _⟩, (fun y hy => by cases hy), ⟨rfl, World.ownsRow_nil _ _ _ _⟩⟩, by rw [HVC.out, if_neg (by rw [HF.out]; decide)]; rfl, ?_⟩
          exact ((HBW.out.setCell (by simp only; omega) _).setCell (by simp only; omega) _)
        have dM1 : ((m : Int) == 16) = false := by simp; omega
        have dM2 : decide ((m : Int) = 16) = false := by simp; omega
        have HM0 := Lib.hid hM
        clear hM
        have hc := hHd.out _ HB55.out
        obtain ⟨⟨c0, c1⟩, -⟩ := blk2T (KT.out.below HB55.out (by have := HSZ0.out; omega))
        go_wp2_with fail
        refine hc.mono ?_
        clear hc c0 c1
        rintro e w6 ⟨rfl, hbn⟩
        have HB6 := Lib.hid (HB55.out.trans (hbn.mono HB55.out.size))
        clear hbn
        obtain ⟨⟨c0, c1⟩, -⟩ := blk2T (KT.out.below HB6.out (by have := HSZ0.out; omega))
        by_cases hH : zH = 1099511627776
        · have dH1 : (zH == 1099511627776) = true := by simpa using hH
          have dH2 : decide (zH = 1099511627776) = true := by simpa using hH
          have HH0 := Lib.hid hH
          clear hH
          have HF : Hid (V = 15) := by show _ = _; rw [HV.out, if_neg (by decide), if_neg (by simp), if_neg (by have := HA0.out; omega), if_neg HM0.out, if_pos HH0.out]
          have kR := KR.out.below HB6.out (by have := HSZ0.out; omega)
          obtain ⟨⟨r0, r1⟩, fr0, fr1⟩ := blk2T kR
          have HBW := Lib.hid (HUP.out _ HB6.out)
          go_wp2_with fail
          have kE := (kR.set_ 0 (.slice none 0 0)).set_ 1 (.slice none 0 0)
          obtain ⟨⟨r0, r1⟩, -⟩ := blk2T kE
          refine bodyPost_ret (v := .tuple #[.agg #[.slice none 0 0, .slice none 0 0], .int .i64 0, .int .i64 15]) (by simp [results, Tryd.results13, go_sem, r0, r1]) rfl ⟨⟨⟨none, 0, 0, []⟩, ⟨none, 0, 0, []⟩⟩, by rw [HF.out, HVC.out, if_neg (by rw [HF.out]; decide)]; rfl, ⟨⟨rfl, World.ownsRow_nil _ _ _ _⟩, (fun y hy => by cases hy), ⟨rfl, World.ownsRow_nil _ _ _ _⟩⟩, by rw [HVC.out, if_neg (by rw [HF.out]; decide)]; rfl, ?_⟩
          exact ((HBW.out.setCell (by simp only; omega) _).setCell (by simp only; omega) _)
        have dH1 : (zH == 1099511627776) = false := by simpa using hH
        have dH2 : decide (zH = 1099511627776) = false := by simpa using hH
        have HH0 := Lib.hid hH
        clear hH
        have HF : Hid (V = 0) := by show _ = _; rw [HV.out, if_neg (by decide), if_neg (by simp), if_neg (by have := HA0.out; omega), if_neg HM0.out, if_neg HH0.out]
        have HTOK := Lib.hid ((tabE_zero T).1 HE0.out.symm)
        have HB6w := Lib.hid (HUP.out _ HB6.out)
        have hc := hHd.out _ HB6.out
        obtain ⟨⟨c0, c1⟩, -⟩ := blk2T (KT.out.below HB6.out (by have := HSZ0.out; omega))
        go_wp2_with fail
        refine hc.mono ?_
        clear hc c0 c1
        rintro e w65 ⟨rfl, hbn⟩
        have HB65 := Lib.hid (HB6.out.trans (hbn.mono HB6.out.size))
        clear hbn
        obtain ⟨⟨c0, c1⟩, -⟩ := blk2T (KT.out.below HB65.out (by have := HSZ0.out; omega))
        clear dA1 dM1 dM2 dH1 dH2
        have HNN : Hid (openN T x = zH + 1) := by
          show _ = _
          rw [HZH.out]
          exact putH_same _ _ HTOK.out.sortH
        have hzb := Lib.hid (seHad_pos T.had x HTOK.out.had)
        have hwr : IntKind.i64.wrap (zH + 1) = zH + 1 := IntWalk.i64_in _ (by have := hzb.out; rw [← HZH.out] at this; omega)
        obtain ⟨N, hN⟩ : ∃ N, N = zH + 1 := ⟨_, rfl⟩
        have HN0 := Lib.hid hN
        have hcp := hOw.out w65 HB65.out
        go_wp2_with fail
        refine hcp.mono ?_
        clear hcp c0 c1
        rintro e w7 ⟨⟨⟨sA, sn, sc, sl⟩, ⟨eA, en, ec, el⟩⟩, he, hO7, hcon, hb7⟩
        replace he : e = .returned (.agg #[.slice sA sn sc, .slice eA en ec]) := he
        subst he
        have hTs : T.opn = sl.map SesR.con := (congrArg TabC.opn hcon).symm
        have hTd : el = T.had := congrArg TabC.had hcon
        subst hTd
        have hsn : sn ≤ 900000000 ∧ en ≤ 900000000 := hSZ2.out _ hcon hO7.opn.1 hO7.had.1
        obtain ⟨g10, hg10⟩ : ∃ g, g = w7.heap.size := ⟨_, rfl⟩
        obtain ⟨g11, hg11⟩ : ∃ g, g = g10 + 1 := ⟨_, rfl⟩
        obtain ⟨g12, hg12⟩ : ∃ g, g = g10 + 1 + 1 := ⟨_, rfl⟩
        have hba := (Below.refl w7.heap.size w7).alloc (Nat.le_refl _) (.cells #[.slice sA sn sc, .slice eA en ec] 25)
        have k10 := Blk.new w7 25 #[.slice sA sn sc, .slice eA en ec]
        have hO8 := hO7.below hba
        obtain ⟨W8, hW8⟩ : ∃ W, W = w7.alloc (.cells #[.slice sA sn sc, .slice eA en ec] 25) := ⟨_, rfl⟩
        rw [← hW8] at hba k10 hO8
        rw [← hg10] at k10
        have hs8 : W8.heap.size = g11 := by rw [hW8, hg11, hg10]; show (World.heap _ |>.push _).size = _; rw [Array.size_push]
        obtain ⟨W10, hW10⟩ : ∃ W, W = (W8.alloc (.cells #[.slice none 0 0, .slice none 0 0] 25)).alloc (.cells #[.string ⟨x.toArray⟩, .int .i64 N, .string ⟨z.toArray⟩, .slice none 0 0, .bool false] 33) := ⟨_, rfl⟩
        have k11 := (Blk.new W8 25 #[.slice none 0 0, .slice none 0 0]).alloc (.cells #[.string ⟨x.toArray⟩, .int .i64 N, .string ⟨z.toArray⟩, .slice none 0 0, .bool false] 33)
        have k12 := Blk.new (W8.alloc (.cells #[.slice none 0 0, .slice none 0 0] 25)) 33 #[.string ⟨x.toArray⟩, .int .i64 N, .string ⟨z.toArray⟩, .slice none 0 0, .bool false]
        have e12 : (W8.alloc (.cells #[.slice none 0 0, .slice none 0 0] 25)).heap.size = g12 := by show (World.heap _ |>.push _).size = _; rw [Array.size_push, hs8]; omega
        have hb810 := ((Below.refl W8.heap.size W8).alloc (Nat.le_refl _) (.cells #[.slice none 0 0, .slice none 0 0] 25)).alloc (by rw [e12, hs8]; omega) (.cells #[.string ⟨x.toArray⟩, .int .i64 N, .string ⟨z.toArray⟩, .slice none 0 0, .bool false] 33)
        rw [e12] at k12
        rw [hs8] at k11 hb810
        rw [← hW10] at k11 k12 hb810
        have hb68 : Below w65.heap.size w65 W8 := hb7.trans (hba.mono hb7.size)
        have HO8 := Lib.hid hO8
        have HSN9 := Lib.hid hsn
        have HSL := Lib.hid (show sn = sl.length from hO8.opn.1)
        have HEL := Lib.hid (show en = T.had.length from hO8.had.1)
        have K10 : Hid (∀ W, Below g11 W8 W → Blk W g10 25 #[.slice sA sn sc, .slice eA en ec]) := fun W h => k10.below h (by omega)
        have HRO : Hid (∀ W, Below g11 W8 W → Reads W g11 5 sA sn (cellsK encSes sl) ∧ Reads W g11 2 eA en (cellsK (fun x : HadT => [.string ⟨x.1.toArray⟩, .int .i64 x.2]) T.had)) := by
          show ∀ W, _ → _
          intro W h
          have h1 := hO8.opn.rd.2.2
          have h2 := hO8.had.rd.2.2
          rw [hs8] at h1 h2
          exact ⟨h1.below h, h2.below h⟩
        have K11 := Lib.hid k11
        have K12 := Lib.hid k12
        have HB810 := Lib.hid hb810
        have HTS := Lib.hid hTs
        have HG := Lib.hid (show g10 + 1 = g11 ∧ g11 + 1 = g12 ∧ w65.heap.size ≤ g10 by have := hb7.size; omega)
        have HB8 := Lib.hid (HB65.out.trans (hb68.mono HB65.out.size))
        have hl1 : g10 < g11 := by omega
        have hl2 : g11 < g12 := by omega
        have HS8 := Lib.hid hs8
        have HKR8 := Lib.hid ((KR.out.below HB65.out (by have := HSZ0.out; omega)).below hb68 (by have := HB65.out.size; have := HSZ0.out; omega))
        have HW8w := Lib.hid (HUP.out _ HB8.out)
        clear hO7 hcon hb7 hba k10 hO8 k11 k12 hb810 hb68 hTs hsn
        go_wp2_with fail
        rw [← hN]
        rw [← hW8]
        rw [← hW10]
        clear hW10 hW8 hN hwr
        rw [← hg10]
        rw [← hg12, ← hg11]
        clear hg10 hs8 e12
        obtain ⟨one, hone⟩ : ∃ o, o = (⟨x, N, z, [], false⟩ : SesC) := ⟨_, rfl⟩
        have HONE := Lib.hid hone
        clear hone hg11 hg12
        go_loopw [13, 14] (fun p i wr => ∃ (k : Nat) (r : FS SesR) (pb : Bool), k ≤ sn ∧ i = .int .i64 (k : Int) ∧ p = .bool pb ∧ Hid (Blk wr g11 25 #[.slice r.A r.n r.c, .slice none 0 0]) ∧ Hid (Blk wr g12 33 #[.string ⟨x.toArray⟩, .int .i64 N, .string ⟨z.toArray⟩, .slice none 0 0, .bool false]) ∧ Hid (r.own wr (g12 + 1) 33 5 encSes) ∧ Hid (∀ y ∈ r.l, SesO W8 w65.heap.size y) ∧ Hid ((pb, r.l.map SesR.con) = (T.opn.take k).foldl (rStep x one) (false, [])) ∧ Hid (r.n ≤ k + pb.toNat) ∧ Hid (Below g11 W8 wr)) (fun _ i _ => sn - (intOf i).toNat)
        case atStart => exact ⟨0, ⟨none, 0, 0, []⟩, false, Nat.zero_le _, rfl, rfl, K11.out, K12.out, ⟨rfl, World.ownsRow_nil _ _ _ _⟩, (show ∀ y ∈ _, _ from fun y hy => by cases hy), rfl, Nat.zero_le _, HB810.out⟩
        case round =>
          clear K11 K12 HB810
          obtain ⟨k, ⟨rA, rn, rc, rl⟩, pb, hk, rfl, rfl, hk11, hk12, hro, hse, hfo, hrk, hbw⟩ := hrel
          have hsn9 := HSN9.out.1
          obtain ⟨⟨a0, a1⟩, -⟩ := blk2T (K10.out wr hbw.out)
          have hg10w : g10 < wr.heap.size := (K10.out wr hbw.out).lt
          by_cases hlt : k < sn
          · have hki : (k : Int) < (sn : Int) := by omega
            have hki0 : (0 : Int) ≤ (k : Int) := by omega
            have hkl : k < sl.length := by have := HSL.out; omega
            have hkT : k < T.opn.length := by rw [HTS.out, List.length_map]; exact hkl
            obtain ⟨ad, rfl, hadB, q0, q1, q2, q3, q4⟩ := ses_at (HRO.out wr hbw.out).1 HSL.out hlt
            have hxe := HO8.out.each _ (List.getElem_mem hkl)
            have htk : T.opn.take (k + 1) = T.opn.take k ++ [(sl[k]'hkl).con] := by rw [List.take_add_one, HTS.out, List.getElem?_map, List.getElem?_eq_getElem hkl]; rfl
            obtain ⟨y, hy⟩ : ∃ y, y = sl[k]'hkl := ⟨_, rfl⟩
            rw [← hy] at q0 q1 q2 q3 q4 hxe htk
            obtain ⟨yt, yh, yi, ⟨yA, yn, yc, yl⟩, yb⟩ := y
            simp only at q0 q1 q2 q3 q4
            have HXE := Lib.hid hxe
            have HYY := Lib.hid hy.symm
            have HFS : Hid ((T.opn.take (k + 1)).foldl (rStep x one) (false, []) = rStep x one (pb, rl.map SesR.con) ⟨yt, yh, yi, yl, yb⟩) := by show _ = _; rw [htk, List.foldl_append, ← hfo.out]; rfl
            have HLN := Lib.hid (show rn = rl.length from hro.out.1)
            have hgt := gtrS 9 yt x
            rw [bl_leq, Bool.not_not] at hgt
            obtain ⟨g1, hg1⟩ : ∃ g, g = Op.bytesLess x yt := ⟨_, rfl⟩
            rw [← hg1] at hgt
            have HG1 := Lib.hid hg1
            clear hy hxe htk hg1
            have lq : ad.block < wr.heap.size := by have := hk11.out.lt; omega
            cases pb with
            | true =>
              have hrk2 : rn ≤ k + 1 := hrk.out
              have HFO : Hid ((true, rl.map SesR.con ++ [⟨yt, yh, yi, yl, yb⟩]) = (T.opn.take (k + 1)).foldl (rStep x one) (false, [])) := by show _ = _; rw [HFS.out]; rfl
              have HSE := hse
              have HBW := hbw
              have HOR : Hid (wr.ownsRow (g12 + 1) 33 5 (.slice rA rn rc) rn (cellsK encSes rl)) := hro.out.2
              clear hse hfo hro
              go_wp2_with fail
              obtain ⟨W1, hW1⟩ : ∃ W1, W1 = wr.alloc (.cells #[.string ⟨yt.toArray⟩, .int .i64 yh, .string ⟨yi.toArray⟩, .slice yA yn yc, .bool yb] 33) := ⟨_, rfl⟩
              have hown1 : W1.ownsRow (g12 + 1) 33 5 (.slice rA rn rc) (rn) (cellsK encSes (rl)) := by rw [hW1]; exact HOR.out.alloc _
              have hr1 : Reads W1 (wr.heap.size + 1) 5 (some ⟨wr.heap.size, 0, none⟩) 1 (#[.string ⟨yt.toArray⟩, .int .i64 yh, .string ⟨yi.toArray⟩, .slice yA yn yc, .bool yb] : Array Value).toList := by rw [hW1]; exact Reads.lit wr #[.string ⟨yt.toArray⟩, .int .i64 yh, .string ⟨yi.toArray⟩, .slice yA yn yc, .bool yb] _ rfl
              have kg1 : Blk W1 g11 25 #[.slice rA (rn) rc, .slice none 0 0] := by rw [hW1]; exact hk11.out.alloc _
              have ko1 : Blk W1 g12 33 #[.string ⟨x.toArray⟩, .int .i64 N, .string ⟨z.toArray⟩, .slice none 0 0, .bool false] := by rw [hW1]; exact hk12.out.alloc _
              have hs1 : g12 + 1 ≤ W1.drew.heap.size := by show g12 + 1 ≤ W1.heap.size; rw [hW1]; have := hk12.out.lt; simp; omega
              have hbx1 : Below g11 wr W1 := by rw [hW1]; exact (Below.refl _ _).alloc (by have := hk12.out.lt; omega) _
              have hr1 := hr1.drew
              have HOWN := Lib.hid (own_drew hown1)
              have HKG := Lib.hid kg1.drew
              have HKO := Lib.hid ko1.drew
              have HBX := Lib.hid hbx1.drew
              have hq1 : rn + 1 ≤ maxLen := by unfold maxLen; omega
              have hq2 : (rn + 1) * 72 ≤ 140737488355328 := by omega
              have h1c : ∀ u ∈ (#[.string ⟨yt.toArray⟩, .int .i64 yh, .string ⟨yi.toArray⟩, .slice yA yn yc, .bool yb] : Array Value).toList, u.oneCell' = true := by intro u hu; simp at hu; rcases hu with rfl | rfl | rfl | rfl | rfl <;> rfl
              have lg11 : g11 < wr.heap.size := hk11.out.lt
              obtain ⟨⟨d0, d1⟩, fd0, fd1⟩ := blk2T kg1
              obtain ⟨⟨e0, e1⟩, fe0, fe1⟩ := blk2T hk11.out
              subst hW1
              clear hown1 kg1 ko1 hbx1
              go_region_law (refine step_append_any _ rfl (.tmp 87) (.tmp 93) 22 rfl (g12 + 1) 33 i0 _ 5 72 Tryd.underlying22 hi0 hz0 hz1 hz2 rfl (by omega) (.slice rA (rn) rc) (rn) (cellsK encSes (rl)) ?hs HOWN.out _ (some ⟨wr.heap.size, 0, none⟩) 1 1 _ ?hx hr1 h1c hq1 hq2 hs1 ?_; (case hs => first | rfl | simp [Act.eval] | simp [Act.eval, Act.put]); (case hx => first | rfl | simp [Act.eval] | simp [Act.eval, Act.put]); intro v2 w2 hown2 hg2 _; have hne : some g11 ≠ (Value.slice rA (rn) rc).ownBlock := (fun e => by have := (HOWN.out.lt _ e.symm).1; omega); have hnf : some g12 ≠ (Value.slice rA (rn) rc).ownBlock := (fun e => by have := (HOWN.out.lt _ e.symm).1; omega); have hkg2 := Lib.hid (HKG.out.grown hg2 hne); have hko2 := Lib.hid (HKO.out.grown hg2 hnf); have hbe2 := Lib.hid (HBX.out.grown hg2 (by have := HBX.out.size; omega) (fun k hk => by have := (HOWN.out.lt k hk).1; omega)); obtain ⟨A2, cc2, rfl, _, _, _⟩ := own_form hown2; clear d0 d1 fd0 fd1 e0 e1 fe0 fe1; obtain ⟨⟨d0, d1⟩, fd0, fd1⟩ := blk2T hkg2.out; have hown2' := Lib.hid hown2; clear hown2 hg2 hne hnf hr1 h1c)
              all_goals
                go_wp2_with fail
                go_roundw
                case rel =>
                  refine ⟨k + 1, ⟨A2, rn + 1, cc2, (rl) ++ [⟨yt, yh, yi, ⟨yA, yn, yc, yl⟩, yb⟩]⟩, true, by omega, by go_num, rfl, hkg2.out.set_ 0 _, hko2.out.far (p := ⟨g11, 0, none⟩) (by simp only; omega) _, ⟨?_, ?_⟩, ?_, ?_, ?_, ?_⟩
                  · show rn + 1 = _
                    rw [List.length_append, ← HLN.out]
                    rfl
                  · show World.ownsRow _ _ _ _ _ _ _
                    rw [cellsK_append, cellsK_one]
                    exact own_setCell_below hown2'.out (by simp only; omega) _
                  · show ∀ y ∈ _, _
                    intro y hy
                    rcases List.mem_append.1 hy with hy | hy
                    · exact HSE.out y hy
                    · rw [List.mem_singleton.1 hy]
                      exact HXE.out
                  · show _ = _
                    rw [List.map_append]
                    exact HFO.out
                  · show rn + 1 ≤ k + 1 + 1
                    omega
                  · exact (HBW.out.trans hbe2.out).setCell (Nat.le_refl _) _
                case measure => simp [intOf]; omega
            | false =>
              have hrk2 : rn ≤ k := hrk.out
              cases g1 with
              | false =>
                have HFO : Hid ((false, rl.map SesR.con ++ [⟨yt, yh, yi, yl, yb⟩]) = (T.opn.take (k + 1)).foldl (rStep x one) (false, [])) := by show _ = _; rw [HFS.out]; unfold rStep; simp only [← HG1.out]; rfl
                have HSE := hse
                have HBW := hbw
                have HOR : Hid (wr.ownsRow (g12 + 1) 33 5 (.slice rA rn rc) rn (cellsK encSes rl)) := hro.out.2
                clear hse hfo hro
                go_wp2_with fail
                obtain ⟨W1, hW1⟩ : ∃ W1, W1 = wr.alloc (.cells #[.string ⟨yt.toArray⟩, .int .i64 yh, .string ⟨yi.toArray⟩, .slice yA yn yc, .bool yb] 33) := ⟨_, rfl⟩
                have hown1 : W1.ownsRow (g12 + 1) 33 5 (.slice rA rn rc) (rn) (cellsK encSes (rl)) := by rw [hW1]; exact HOR.out.alloc _
                have hr1 : Reads W1 (wr.heap.size + 1) 5 (some ⟨wr.heap.size, 0, none⟩) 1 (#[.string ⟨yt.toArray⟩, .int .i64 yh, .string ⟨yi.toArray⟩, .slice yA yn yc, .bool yb] : Array Value).toList := by rw [hW1]; exact Reads.lit wr #[.string ⟨yt.toArray⟩, .int .i64 yh, .string ⟨yi.toArray⟩, .slice yA yn yc, .bool yb] _ rfl
                have kg1 : Blk W1 g11 25 #[.slice rA (rn) rc, .slice none 0 0] := by rw [hW1]; exact hk11.out.alloc _
                have ko1 : Blk W1 g12 33 #[.string ⟨x.toArray⟩, .int .i64 N, .string ⟨z.toArray⟩, .slice none 0 0, .bool false] := by rw [hW1]; exact hk12.out.alloc _
                have hs1 : g12 + 1 ≤ W1.drew.heap.size := by show g12 + 1 ≤ W1.heap.size; rw [hW1]; have := hk12.out.lt; simp; omega
                have hbx1 : Below g11 wr W1 := by rw [hW1]; exact (Below.refl _ _).alloc (by have := hk12.out.lt; omega) _
                have hr1 := hr1.drew
                have HOWN := Lib.hid (own_drew hown1)
                have HKG := Lib.hid kg1.drew
                have HKO := Lib.hid ko1.drew
                have HBX := Lib.hid hbx1.drew
                have hq1 : rn + 1 ≤ maxLen := by unfold maxLen; omega
                have hq2 : (rn + 1) * 72 ≤ 140737488355328 := by omega
                have h1c : ∀ u ∈ (#[.string ⟨yt.toArray⟩, .int .i64 yh, .string ⟨yi.toArray⟩, .slice yA yn yc, .bool yb] : Array Value).toList, u.oneCell' = true := by intro u hu; simp at hu; rcases hu with rfl | rfl | rfl | rfl | rfl <;> rfl
                have lg11 : g11 < wr.heap.size := hk11.out.lt
                obtain ⟨⟨d0, d1⟩, fd0, fd1⟩ := blk2T kg1
                obtain ⟨⟨e0, e1⟩, fe0, fe1⟩ := blk2T hk11.out
                subst hW1
                clear hown1 kg1 ko1 hbx1
                go_region_law (refine step_append_any _ rfl (.tmp 87) (.tmp 93) 22 rfl (g12 + 1) 33 i0 _ 5 72 Tryd.underlying22 hi0 hz0 hz1 hz2 rfl (by omega) (.slice rA (rn) rc) (rn) (cellsK encSes (rl)) ?hs HOWN.out _ (some ⟨wr.heap.size, 0, none⟩) 1 1 _ ?hx hr1 h1c hq1 hq2 hs1 ?_; (case hs => first | rfl | simp [Act.eval] | simp [Act.eval, Act.put]); (case hx => first | rfl | simp [Act.eval] | simp [Act.eval, Act.put]); intro v2 w2 hown2 hg2 _; have hne : some g11 ≠ (Value.slice rA (rn) rc).ownBlock := (fun e => by have := (HOWN.out.lt _ e.symm).1; omega); have hnf : some g12 ≠ (Value.slice rA (rn) rc).ownBlock := (fun e => by have := (HOWN.out.lt _ e.symm).1; omega); have hkg2 := Lib.hid (HKG.out.grown hg2 hne); have hko2 := Lib.hid (HKO.out.grown hg2 hnf); have hbe2 := Lib.hid (HBX.out.grown hg2 (by have := HBX.out.size; omega) (fun k hk => by have := (HOWN.out.lt k hk).1; omega)); obtain ⟨A2, cc2, rfl, _, _, _⟩ := own_form hown2; clear d0 d1 fd0 fd1 e0 e1 fe0 fe1; obtain ⟨⟨d0, d1⟩, fd0, fd1⟩ := blk2T hkg2.out; have hown2' := Lib.hid hown2; clear hown2 hg2 hne hnf hr1 h1c)
                all_goals
                  go_wp2_with fail
                  go_roundw
                  case rel =>
                    refine ⟨k + 1, ⟨A2, rn + 1, cc2, (rl) ++ [⟨yt, yh, yi, ⟨yA, yn, yc, yl⟩, yb⟩]⟩, false, by omega, by go_num, rfl, hkg2.out.set_ 0 _, hko2.out.far (p := ⟨g11, 0, none⟩) (by simp only; omega) _, ⟨?_, ?_⟩, ?_, ?_, ?_, ?_⟩
                    · show rn + 1 = _
                      rw [List.length_append, ← HLN.out]
                      rfl
                    · show World.ownsRow _ _ _ _ _ _ _
                      rw [cellsK_append, cellsK_one]
                      exact own_setCell_below hown2'.out (by simp only; omega) _
                    · show ∀ y ∈ _, _
                      intro y hy
                      rcases List.mem_append.1 hy with hy | hy
                      · exact HSE.out y hy
                      · rw [List.mem_singleton.1 hy]
                        exact HXE.out
                    · show _ = _
                      rw [List.map_append]
                      exact HFO.out
                    · show rn + 1 ≤ k + 1 + 0
                      omega
                    · exact (HBW.out.trans hbe2.out).setCell (Nat.le_refl _) _
                  case measure => simp [intOf]; omega
              | true =>
                have HOR : Hid (wr.ownsRow (g12 + 1) 33 5 (.slice rA rn rc) rn (cellsK encSes rl)) := hro.out.2
                obtain ⟨⟨b0, b1⟩, fb0, fb1⟩ := blk2T hk11.out
                obtain ⟨⟨o0, o1, o2, o3, o4⟩, -⟩ := blk5 hk12.out
                have hsw : g12 + 1 ≤ wr.heap.size := hk12.out.lt
                go_upto_region 22 with (at_builtin; (refine wpList_push _ rfl (.tmp 81) (.tmp 83) 22 rfl (g12 + 1) 33 i0 _ 5 72 Tryd.underlying22 hi0 hz0 hz1 hz2 rfl (by decide) (.slice rA rn rc) rn (cellsK encSes rl) rfl HOR.out 1 #[.string ⟨x.toArray⟩, .int .i64 N, .string ⟨z.toArray⟩, .slice none 0 0, .bool false] 33 rfl rfl (by intro u hu; simp at hu; rcases hu with rfl | rfl | rfl | rfl | rfl <;> rfl) (by unfold maxLen; omega) (by omega) hsw ?_); intro v5 w5 hown5 hb5 hg5; (obtain ⟨A5, c5, rfl, hc5, -, -⟩ := own_form hown5); (have hk5 := Lib.hid (hk11.out.below hb5 (by omega))); (have hk52 := Lib.hid (hk12.out.below hb5 (Nat.lt_succ_self _))); (have hO5 := Lib.hid hown5); (have hB5 := Lib.hid hb5); clear b0 b1 fb0 fb1 hown5 hb5; (obtain ⟨⟨b0, b1⟩, fb0, fb1⟩ := blk2T hk5.out))
                obtain ⟨X, hX⟩ : ∃ X, X = w5.setCell ⟨g11, 0, none⟩ (.slice A5 (rn + 1) c5) := ⟨_, rfl⟩
                rw [← hX]
                have HOR5 : Hid (X.ownsRow (g12 + 1) 33 5 (.slice A5 (rn + 1) c5) (rn + 1) (cellsK encSes (rl ++ [⟨x, N, z, ⟨none, 0, 0, []⟩, false⟩]))) := by
                  show World.ownsRow _ _ _ _ _ _ _
                  rw [hX, cellsK_append, cellsK_one]
                  exact own_setCell_below hO5.out (by simp only; omega) _
                have hk11X : Hid (Blk X g11 25 #[.slice A5 (rn + 1) c5, .slice none 0 0]) := by
                  show Blk _ _ _ _
                  rw [hX]
                  exact hk5.out.set_ 0 _
                have hk12X : Hid (Blk X g12 33 #[.string ⟨x.toArray⟩, .int .i64 N, .string ⟨z.toArray⟩, .slice none 0 0, .bool false]) := by
                  show Blk _ _ _ _
                  rw [hX]
                  exact hk52.out.far (p := ⟨g11, 0, none⟩) (by simp only; omega) _
                have HBW : Hid (Below g11 W8 X) := by
                  show Below _ _ _
                  rw [hX]
                  exact (hbw.out.trans (hB5.out.mono (by omega))).setCell (Nat.le_refl _) _
                have HSE : Hid (∀ y ∈ rl ++ [(⟨x, N, z, ⟨none, 0, 0, []⟩, false⟩ : SesR)], SesO W8 w65.heap.size y) := by
                  show ∀ y ∈ _, _
                  intro y hy
                  rcases List.mem_append.1 hy with hy | hy
                  · exact hse.out y hy
                  · rw [List.mem_singleton.1 hy]
                    exact ⟨rfl, World.ownsRow_nil _ _ _ _⟩
                have HLN := Lib.hid (show rn + 1 = (rl ++ [(⟨x, N, z, ⟨none, 0, 0, []⟩, false⟩ : SesR)]).length by rw [List.length_append, ← HLN.out]; rfl)
                have HFO : Hid ((true, (rl ++ [(⟨x, N, z, ⟨none, 0, 0, []⟩, false⟩ : SesR)]).map SesR.con ++ [⟨yt, yh, yi, yl, yb⟩]) = (T.opn.take (k + 1)).foldl (rStep x one) (false, [])) := by
                  show _ = _
                  rw [HFS.out]
                  unfold rStep
                  simp only [← HG1.out, HONE.out]
                  rw [List.map_append]
                  rfl
                have hsX : w5.heap.size = X.heap.size := by rw [hX]; simp [World.setCell]
                clear a0 a1 q0 q1 q2 q3 q4 b0 b1 fb0 fb1 o0 o1 o2 o3 o4 hX hse hfo hro lq hg10w hsw
                obtain ⟨⟨a0, a1⟩, -⟩ := blk2T (K10.out X HBW.out)
                have hg10w : g10 < X.heap.size := (K10.out X HBW.out).lt
                obtain ⟨ad2, e2, -, q0, q1, q2, q3, q4⟩ := ses_at (HRO.out X HBW.out).1 HSL.out hlt
                injection e2 with e2
                subst e2
                have lq : ad.block < X.heap.size := by have := hk11X.out.lt; omega
                rw [HYY.out] at q0 q1 q2 q3 q4
                simp only at q0 q1 q2 q3 q4
                clear hsX
                obtain ⟨W1, hW1⟩ : ∃ W1, W1 = X.alloc (.cells #[.string ⟨yt.toArray⟩, .int .i64 yh, .string ⟨yi.toArray⟩, .slice yA yn yc, .bool yb] 33) := ⟨_, rfl⟩
                have hown1 : W1.ownsRow (g12 + 1) 33 5 (.slice A5 (rn + 1) c5) ((rn + 1)) (cellsK encSes (rl ++ [(⟨x, N, z, ⟨none, 0, 0, []⟩, false⟩ : SesR)])) := by rw [hW1]; exact HOR5.out.alloc _
                have hr1 : Reads W1 (X.heap.size + 1) 5 (some ⟨X.heap.size, 0, none⟩) 1 (#[.string ⟨yt.toArray⟩, .int .i64 yh, .string ⟨yi.toArray⟩, .slice yA yn yc, .bool yb] : Array Value).toList := by rw [hW1]; exact Reads.lit X #[.string ⟨yt.toArray⟩, .int .i64 yh, .string ⟨yi.toArray⟩, .slice yA yn yc, .bool yb] _ rfl
                have kg1 : Blk W1 g11 25 #[.slice A5 ((rn + 1)) c5, .slice none 0 0] := by rw [hW1]; exact hk11X.out.alloc _
                have ko1 : Blk W1 g12 33 #[.string ⟨x.toArray⟩, .int .i64 N, .string ⟨z.toArray⟩, .slice none 0 0, .bool false] := by rw [hW1]; exact hk12X.out.alloc _
                have hs1 : g12 + 1 ≤ W1.drew.heap.size := by show g12 + 1 ≤ W1.heap.size; rw [hW1]; have := hk12X.out.lt; simp; omega
                have hbx1 : Below g11 X W1 := by rw [hW1]; exact (Below.refl _ _).alloc (by have := hk12X.out.lt; omega) _
                have hr1 := hr1.drew
                have HOWN := Lib.hid (own_drew hown1)
                have HKG := Lib.hid kg1.drew
                have HKO := Lib.hid ko1.drew
                have HBX := Lib.hid hbx1.drew
                have hq1 : (rn + 1) + 1 ≤ maxLen := by unfold maxLen; omega
                have hq2 : ((rn + 1) + 1) * 72 ≤ 140737488355328 := by omega
                have h1c : ∀ u ∈ (#[.string ⟨yt.toArray⟩, .int .i64 yh, .string ⟨yi.toArray⟩, .slice yA yn yc, .bool yb] : Array Value).toList, u.oneCell' = true := by intro u hu; simp at hu; rcases hu with rfl | rfl | rfl | rfl | rfl <;> rfl
                have lg11 : g11 < X.heap.size := hk11X.out.lt
                obtain ⟨⟨d0, d1⟩, fd0, fd1⟩ := blk2T kg1
                obtain ⟨⟨e0, e1⟩, fe0, fe1⟩ := blk2T hk11X.out
                subst hW1
                clear hown1 kg1 ko1 hbx1
                go_region_law (refine step_append_any _ rfl (.tmp 87) (.tmp 93) 22 rfl (g12 + 1) 33 i0 _ 5 72 Tryd.underlying22 hi0 hz0 hz1 hz2 rfl (by omega) (.slice A5 ((rn + 1)) c5) ((rn + 1)) (cellsK encSes (rl ++ [(⟨x, N, z, ⟨none, 0, 0, []⟩, false⟩ : SesR)])) ?hs HOWN.out _ (some ⟨X.heap.size, 0, none⟩) 1 1 _ ?hx hr1 h1c hq1 hq2 hs1 ?_; (case hs => first | rfl | simp [Act.eval] | simp [Act.eval, Act.put]); (case hx => first | rfl | simp [Act.eval] | simp [Act.eval, Act.put]); intro v2 w2 hown2 hg2 _; have hne : some g11 ≠ (Value.slice A5 ((rn + 1)) c5).ownBlock := (fun e => by have := (HOWN.out.lt _ e.symm).1; omega); have hnf : some g12 ≠ (Value.slice A5 ((rn + 1)) c5).ownBlock := (fun e => by have := (HOWN.out.lt _ e.symm).1; omega); have hkg2 := Lib.hid (HKG.out.grown hg2 hne); have hko2 := Lib.hid (HKO.out.grown hg2 hnf); have hbe2 := Lib.hid (HBX.out.grown hg2 (by have := HBX.out.size; omega) (fun k hk => by have := (HOWN.out.lt k hk).1; omega)); obtain ⟨A2, cc2, rfl, _, _, _⟩ := own_form hown2; clear d0 d1 fd0 fd1 e0 e1 fe0 fe1; obtain ⟨⟨d0, d1⟩, fd0, fd1⟩ := blk2T hkg2.out; have hown2' := Lib.hid hown2; clear hown2 hg2 hne hnf hr1 h1c)
                all_goals
                  go_wp2_with fail
                  go_roundw
                  case rel =>
                    refine ⟨k + 1, ⟨A2, (rn + 1) + 1, cc2, (rl ++ [(⟨x, N, z, ⟨none, 0, 0, []⟩, false⟩ : SesR)]) ++ [⟨yt, yh, yi, ⟨yA, yn, yc, yl⟩, yb⟩]⟩, true, by omega, by go_num, rfl, hkg2.out.set_ 0 _, hko2.out.far (p := ⟨g11, 0, none⟩) (by simp only; omega) _, ⟨?_, ?_⟩, ?_, ?_, ?_, ?_⟩
                    · show (rn + 1) + 1 = _
                      rw [List.length_append, ← HLN.out]
                      rfl
                    · show World.ownsRow _ _ _ _ _ _ _
                      rw [cellsK_append, cellsK_one]
                      exact own_setCell_below hown2'.out (by simp only; omega) _
                    · show ∀ y ∈ _, _
                      intro y hy
                      rcases List.mem_append.1 hy with hy | hy
                      · exact HSE.out y hy
                      · rw [List.mem_singleton.1 hy]
                        exact HXE.out
                    · show _ = _
                      rw [List.map_append]
                      exact HFO.out
                    · show (rn + 1) + 1 ≤ k + 1 + 1
                      omega
                    · exact (HBW.out.trans hbe2.out).setCell (Nat.le_refl _) _
                  case measure => simp [intOf]; omega
          · have hke : k = sn := by omega
            have hkn : ¬ (k : Int) < (sn : Int) := by omega
            have HNT : Hid (N = openN T x) := by show _ = _; rw [HN0.out, HNN.out]
            have HFA : Hid ((pb, rl.map SesR.con) = T.opn.foldl (rStep x one) (false, [])) := by
              show _ = _
              rw [hfo.out, List.take_of_length_le (by rw [HTS.out, List.length_map]; have := HSL.out; omega)]
            have HRO2 : Hid (rFin one (T.opn.foldl (rStep x one) (false, [])) = (openL T x z).opn) := by
              show _ = _
              rw [HONE.out, HNT.out]
              exact HROP.out HF.out
            have HLN := Lib.hid (show rn = rl.length from hro.out.1)
            have HOR : Hid (wr.ownsRow (g12 + 1) 33 5 (.slice rA rn rc) rn (cellsK encSes rl)) := hro.out.2
            obtain ⟨⟨b0, b1⟩, fb0, fb1⟩ := blk2T hk11.out
            obtain ⟨⟨o0, o1, o2, o3, o4⟩, -⟩ := blk5 hk12.out
            have hsw : g12 + 1 ≤ wr.heap.size := hk12.out.lt
            clear hke hfo hro
            cases pb with
            | true =>
              have hrk2 : rn ≤ k + 1 := hrk.out
              have HRF : Hid (rl.map SesR.con = (openL T x z).opn) := by
                show _ = _
                rw [← HRO2.out, ← HFA.out]
                rfl
              have HSE := hse
              have HBW := hbw
              have hkX := hk11
              clear hse hbw hk11 hk12 hrk HFA HRO2
              go_upto_region 25 with (fail)
              clear b0 b1 fb0 fb1 o0 o1 o2 o3 o4 hkn a0 a1
              obtain ⟨X, hX⟩ : ∃ X, X = wr := ⟨_, rfl⟩
              rw [← hX] at HBW hkX HOR hsw hg10w ⊢
              clear hX wr
              have HORX := HOR
              obtain ⟨bx, hbx⟩ : ∃ b, b = X.heap.size := ⟨_, rfl⟩
              have HBX := Lib.hid hbx
              go_wp2_with fail
              clear hbx
              go_loopw [13, 15] (fun p i wr => ∃ (k : Nat) (h : FS HadT) (pb : Bool), k ≤ en ∧ i = .int .i64 (k : Int) ∧ p = .bool pb ∧ Hid (Blk wr g11 25 #[.slice rA rn rc, .slice h.A h.n h.c]) ∧ Hid (h.own wr bx 38 2 encHad) ∧ Hid ((pb, h.l) = (T.had.take k).foldl (hStep x N) (false, [])) ∧ Hid (h.n ≤ 2 * k) ∧ Hid (wr.ownsRow (g12 + 1) 33 5 (.slice rA rn rc) (rn) (cellsK encSes (rl))) ∧ Hid (Below g11 W8 wr) ∧ Hid (bx ≤ wr.heap.size)) (fun _ i _ => en - (intOf i).toNat)
              case atStart => exact ⟨0, ⟨none, 0, 0, []⟩, false, Nat.zero_le _, rfl, rfl, hkX.out, ⟨rfl, World.ownsRow_nil _ _ _ _⟩, rfl, Nat.zero_le _, HORX.out, HBW.out, by show bx ≤ _; rw [HBX.out]; exact Nat.le_refl _⟩
              case round =>
                clear HBW hkX hg10w
                obtain ⟨k, ⟨hA, hN, hC, hL⟩, pb, hk, rfl, rfl, hkg, hho, hfh, hnk, HRR, hbw, hbxw⟩ := hrel
                have hnk2 : hN ≤ 2 * k := hnk.out
                have hen9 := HSN9.out.2
                have hbxw2 : bx ≤ wr.heap.size := hbxw.out
                have hbx12 : g12 + 1 ≤ bx := by have := HBX.out; omega
                have hown : Hid (wr.ownsRow bx 38 2 (.slice hA hN hC) hN (cellsK encHad hL)) := hho.out.2
                have HLH := Lib.hid (show hN = hL.length from hho.out.1)
                obtain ⟨⟨a0, a1⟩, -⟩ := blk2T (K10.out wr hbw.out)
                have hg10w : g10 < wr.heap.size := (K10.out wr hbw.out).lt
                have hg11w : g11 < wr.heap.size := hkg.out.lt
                obtain ⟨⟨y0, y1⟩, fy0, fy1⟩ := blk2T hkg.out
                by_cases hlt : k < en
                · have hki : (k : Int) < (en : Int) := by omega
                  have hkl : k < T.had.length := by have := HEL.out; omega
                  obtain ⟨ad, rfl, hadB, q0, q1⟩ := (HRO.out wr hbw.out).2.el2 HEL.out hlt
                  have htk : T.had.take (k + 1) = T.had.take k ++ [T.had[k]'hkl] := by rw [List.take_add_one, List.getElem?_eq_getElem hkl]; rfl
                  obtain ⟨y, hy⟩ : ∃ y, y = T.had[k]'hkl := ⟨_, rfl⟩
                  rw [← hy] at q0 q1 htk
                  obtain ⟨yn, yc⟩ := y
                  simp only at q0 q1
                  have HFS : Hid ((T.had.take (k + 1)).foldl (hStep x N) (false, []) = hStep x N (pb, hL) (yn, yc)) := by show _ = _; rw [htk, List.foldl_append, ← hfh.out]; rfl
                  have hgt := gtrS 9 yn x
                  rw [bl_leq, Bool.not_not] at hgt
                  obtain ⟨g1, hg1⟩ : ∃ g, g = Op.bytesLess x yn := ⟨_, rfl⟩
                  rw [← hg1] at hgt
                  have HG1 := Lib.hid hg1
                  clear hy htk hg1 hho hfh
                  by_cases hyx : yn = x
                  · have d1 : (yn == x) = true := by simp [hyx]
                    have HFH : Hid ((true, hL ++ [(yn, N)]) = (T.had.take (k + 1)).foldl (hStep x N) (false, [])) := by
                      show _ = _
                      rw [HFS.out]
                      unfold hStep
                      simp [hyx]
                    clear hyx
                    go_upto_region 35 with (fail)
                    obtain ⟨Y, hY⟩ : ∃ Y, Y = wr.alloc (.cells #[.string ⟨yn.toArray⟩, .int .i64 N] 38) := ⟨_, rfl⟩
                    rw [← hY]
                    have hba := (Below.refl wr.heap.size wr).alloc (Nat.le_refl _) (.cells #[.string ⟨yn.toArray⟩, .int .i64 N] 38)
                    have kE := Blk.new wr 38 #[.string ⟨yn.toArray⟩, .int .i64 N]
                    rw [← hY] at hba kE
                    have HOY : Hid (Y.ownsRow bx 38 2 (.slice hA hN hC) (hN) (cellsK encHad (hL))) := own_below hown.out hba
                    have HRY := Lib.hid (own_below HRR.out hba)
                    have HKY := Lib.hid (hkg.out.below hba hkg.out.lt)
                    have HBY := Lib.hid (hbw.out.trans (hba.mono (by omega)))
                    have hbY : bx ≤ Y.heap.size := by have := hba.size; omega
                    obtain ⟨⟨b0, b1⟩, -⟩ := blk2T kE
                    clear hY hba kE y0 y1 fy0 fy1 q0 q1 a0 a1
                    obtain ⟨⟨y0, y1⟩, fy0, fy1⟩ := blk2T HKY.out
                    go_wp2_with (at_builtin; (refine wpList_push _ rfl (.tmp 139) (.tmp 141) 23 rfl bx 38 j0 _ 2 24 Tryd.underlying23 hj0 hy0 hy1 hy2 rfl (by decide) (.slice hA hN hC) (hN) (cellsK encHad (hL)) rfl HOY.out 1 #[.string ⟨yn.toArray⟩, .int .i64 N] 38 rfl rfl (by intro u hu; simp at hu; rcases hu with rfl | rfl <;> rfl) (by unfold maxLen; omega) (by omega) hbY ?_); intro v5 w5 hown5 hb5 hg5; (obtain ⟨A5, c5, rfl, hc5, -, -⟩ := own_form hown5); (have hk5 := Lib.hid (HKY.out.below hb5 (by omega))); (have hO5 := Lib.hid hown5); (have hB5 := Lib.hid hb5); (have hR5 := Lib.hid (own_other HRY.out HOY.out (by decide) hg5)); (have hG5 := Lib.hid hg5); clear y0 y1 fy0 fy1 hown5 hb5 hg5; (obtain ⟨⟨y0, y1⟩, fy0, fy1⟩ := blk2T hk5.out))
                    go_roundw
                    case rel =>
                      refine ⟨k + 1, ⟨A5, hN + 1, c5, (hL) ++ [(yn, N)]⟩, true, by omega, by go_num, rfl, hk5.out.set_ 1 _, ⟨?_, ?_⟩, ?_, ?_, ?_, ?_, ?_⟩
                      · show hN + 1 = _
                        rw [List.length_append, ← HLH.out]
                        rfl
                      · show World.ownsRow _ _ _ _ _ _ _
                        rw [cellsK_append, cellsK_one]
                        exact own_setCell_below hO5.out (by simp only; omega) _
                      · exact HFH.out
                      · show hN + 1 ≤ 2 * (k + 1)
                        omega
                      · exact own_setCell_below hR5.out (by simp only; omega) _
                      · exact (HBY.out.trans (hB5.out.mono (by omega))).setCell (Nat.le_refl _) _
                      · show bx ≤ _
                        have := hB5.out.size
                        simp [World.setCell]
                        omega
                    case measure => simp [intOf]; omega
                  · have d1 : (yn == x) = false := by simp [hyx]
                    have HYX := Lib.hid hyx
                    clear hyx
                    cases pb with
                    | true =>
                      have HFH : Hid ((true, hL ++ [(yn, yc)]) = (T.had.take (k + 1)).foldl (hStep x N) (false, [])) := by
                        show _ = _
                        rw [HFS.out]
                        unfold hStep
                        simp [HYX.out]
                      go_upto_region 35 with (fail)
                      obtain ⟨Y, hY⟩ : ∃ Y, Y = wr.alloc (.cells #[.string ⟨yn.toArray⟩, .int .i64 yc] 38) := ⟨_, rfl⟩
                      rw [← hY]
                      have hba := (Below.refl wr.heap.size wr).alloc (Nat.le_refl _) (.cells #[.string ⟨yn.toArray⟩, .int .i64 yc] 38)
                      have kE := Blk.new wr 38 #[.string ⟨yn.toArray⟩, .int .i64 yc]
                      rw [← hY] at hba kE
                      have HOY : Hid (Y.ownsRow bx 38 2 (.slice hA hN hC) (hN) (cellsK encHad (hL))) := own_below hown.out hba
                      have HRY := Lib.hid (own_below HRR.out hba)
                      have HKY := Lib.hid (hkg.out.below hba hkg.out.lt)
                      have HBY := Lib.hid (hbw.out.trans (hba.mono (by omega)))
                      have hbY : bx ≤ Y.heap.size := by have := hba.size; omega
                      obtain ⟨⟨b0, b1⟩, -⟩ := blk2T kE
                      clear hY hba kE y0 y1 fy0 fy1 q0 q1 a0 a1
                      obtain ⟨⟨y0, y1⟩, fy0, fy1⟩ := blk2T HKY.out
                      go_wp2_with (at_builtin; (refine wpList_push _ rfl (.tmp 139) (.tmp 141) 23 rfl bx 38 j0 _ 2 24 Tryd.underlying23 hj0 hy0 hy1 hy2 rfl (by decide) (.slice hA hN hC) (hN) (cellsK encHad (hL)) rfl HOY.out 1 #[.string ⟨yn.toArray⟩, .int .i64 yc] 38 rfl rfl (by intro u hu; simp at hu; rcases hu with rfl | rfl <;> rfl) (by unfold maxLen; omega) (by omega) hbY ?_); intro v5 w5 hown5 hb5 hg5; (obtain ⟨A5, c5, rfl, hc5, -, -⟩ := own_form hown5); (have hk5 := Lib.hid (HKY.out.below hb5 (by omega))); (have hO5 := Lib.hid hown5); (have hB5 := Lib.hid hb5); (have hR5 := Lib.hid (own_other HRY.out HOY.out (by decide) hg5)); (have hG5 := Lib.hid hg5); clear y0 y1 fy0 fy1 hown5 hb5 hg5; (obtain ⟨⟨y0, y1⟩, fy0, fy1⟩ := blk2T hk5.out))
                      go_roundw
                      case rel =>
                        refine ⟨k + 1, ⟨A5, hN + 1, c5, (hL) ++ [(yn, yc)]⟩, true, by omega, by go_num, rfl, hk5.out.set_ 1 _, ⟨?_, ?_⟩, ?_, ?_, ?_, ?_, ?_⟩
                        · show hN + 1 = _
                          rw [List.length_append, ← HLH.out]
                          rfl
                        · show World.ownsRow _ _ _ _ _ _ _
                          rw [cellsK_append, cellsK_one]
                          exact own_setCell_below hO5.out (by simp only; omega) _
                        · exact HFH.out
                        · show hN + 1 ≤ 2 * (k + 1)
                          omega
                        · exact own_setCell_below hR5.out (by simp only; omega) _
                        · exact (HBY.out.trans (hB5.out.mono (by omega))).setCell (Nat.le_refl _) _
                        · show bx ≤ _
                          have := hB5.out.size
                          simp [World.setCell]
                          omega
                      case measure => simp [intOf]; omega
                    | false =>
                      cases g1 with
                      | false =>
                        have HFH : Hid ((false, hL ++ [(yn, yc)]) = (T.had.take (k + 1)).foldl (hStep x N) (false, [])) := by
                          show _ = _
                          rw [HFS.out]
                          unfold hStep
                          simp [HYX.out, ← HG1.out]
                        go_upto_region 35 with (fail)
                        obtain ⟨Y, hY⟩ : ∃ Y, Y = wr.alloc (.cells #[.string ⟨yn.toArray⟩, .int .i64 yc] 38) := ⟨_, rfl⟩
                        rw [← hY]
                        have hba := (Below.refl wr.heap.size wr).alloc (Nat.le_refl _) (.cells #[.string ⟨yn.toArray⟩, .int .i64 yc] 38)
                        have kE := Blk.new wr 38 #[.string ⟨yn.toArray⟩, .int .i64 yc]
                        rw [← hY] at hba kE
                        have HOY : Hid (Y.ownsRow bx 38 2 (.slice hA hN hC) (hN) (cellsK encHad (hL))) := own_below hown.out hba
                        have HRY := Lib.hid (own_below HRR.out hba)
                        have HKY := Lib.hid (hkg.out.below hba hkg.out.lt)
                        have HBY := Lib.hid (hbw.out.trans (hba.mono (by omega)))
                        have hbY : bx ≤ Y.heap.size := by have := hba.size; omega
                        obtain ⟨⟨b0, b1⟩, -⟩ := blk2T kE
                        clear hY hba kE y0 y1 fy0 fy1 q0 q1 a0 a1
                        obtain ⟨⟨y0, y1⟩, fy0, fy1⟩ := blk2T HKY.out
                        go_wp2_with (at_builtin; (refine wpList_push _ rfl (.tmp 139) (.tmp 141) 23 rfl bx 38 j0 _ 2 24 Tryd.underlying23 hj0 hy0 hy1 hy2 rfl (by decide) (.slice hA hN hC) (hN) (cellsK encHad (hL)) rfl HOY.out 1 #[.string ⟨yn.toArray⟩, .int .i64 yc] 38 rfl rfl (by intro u hu; simp at hu; rcases hu with rfl | rfl <;> rfl) (by unfold maxLen; omega) (by omega) hbY ?_); intro v5 w5 hown5 hb5 hg5; (obtain ⟨A5, c5, rfl, hc5, -, -⟩ := own_form hown5); (have hk5 := Lib.hid (HKY.out.below hb5 (by omega))); (have hO5 := Lib.hid hown5); (have hB5 := Lib.hid hb5); (have hR5 := Lib.hid (own_other HRY.out HOY.out (by decide) hg5)); (have hG5 := Lib.hid hg5); clear y0 y1 fy0 fy1 hown5 hb5 hg5; (obtain ⟨⟨y0, y1⟩, fy0, fy1⟩ := blk2T hk5.out))
                        go_roundw
                        case rel =>
                          refine ⟨k + 1, ⟨A5, hN + 1, c5, (hL) ++ [(yn, yc)]⟩, false, by omega, by go_num, rfl, hk5.out.set_ 1 _, ⟨?_, ?_⟩, ?_, ?_, ?_, ?_, ?_⟩
                          · show hN + 1 = _
                            rw [List.length_append, ← HLH.out]
                            rfl
                          · show World.ownsRow _ _ _ _ _ _ _
                            rw [cellsK_append, cellsK_one]
                            exact own_setCell_below hO5.out (by simp only; omega) _
                          · exact HFH.out
                          · show hN + 1 ≤ 2 * (k + 1)
                            omega
                          · exact own_setCell_below hR5.out (by simp only; omega) _
                          · exact (HBY.out.trans (hB5.out.mono (by omega))).setCell (Nat.le_refl _) _
                          · show bx ≤ _
                            have := hB5.out.size
                            simp [World.setCell]
                            omega
                        case measure => simp [intOf]; omega
                      | true =>
                        have hba := (Below.refl wr.heap.size wr).alloc (Nat.le_refl _) (.cells #[.string ⟨yn.toArray⟩, .int .i64 yc] 38)
                        obtain ⟨Y0, hY0⟩ : ∃ Y, Y = wr.alloc (.cells #[.string ⟨yn.toArray⟩, .int .i64 yc] 38) := ⟨_, rfl⟩
                        have kE := Blk.new wr 38 #[.string ⟨yn.toArray⟩, .int .i64 yc]
                        rw [← hY0] at hba kE
                        have HKE := Lib.hid kE
                        have HOY0 : Hid (Y0.ownsRow bx 38 2 (.slice hA hN hC) hN (cellsK encHad hL)) := own_below hown.out hba
                        have HRY0 := Lib.hid (own_below HRR.out hba)
                        have HKY0 := Lib.hid (hkg.out.below hba hkg.out.lt)
                        have HBY0 := Lib.hid (hbw.out.trans (hba.mono (by omega)))
                        have hbY0 : bx ≤ Y0.heap.size := by have := hba.size; omega
                        obtain ⟨⟨b0, b1⟩, -⟩ := blk2T kE
                        go_upto_region 33 with (fail)
                        rw [← hY0]
                        clear hY0 hba kE y0 y1 fy0 fy1 q0 q1 a0 a1
                        obtain ⟨⟨y0, y1⟩, fy0, fy1⟩ := blk2T HKY0.out
                        go_upto_region 35 with (at_builtin; (refine wpList_push _ rfl (.tmp 131) (.tmp 135) 23 rfl bx 38 j0 _ 2 24 Tryd.underlying23 hj0 hy0 hy1 hy2 rfl (by decide) (.slice hA hN hC) (hN) (cellsK encHad (hL)) rfl HOY0.out 1 #[.string ⟨x.toArray⟩, .int .i64 N] 38 rfl rfl (by intro u hu; simp at hu; rcases hu with rfl | rfl <;> rfl) (by unfold maxLen; omega) (by omega) hbY0 ?_); intro v5 w5 hown5 hb5 hg5; (obtain ⟨A5, c5, rfl, hc5, -, -⟩ := own_form hown5); (have hk5 := Lib.hid (HKY0.out.below hb5 (by omega))); (have hO5 := Lib.hid hown5); (have hB5 := Lib.hid hb5); (have hR5 := Lib.hid (own_other HRY0.out HOY0.out (by decide) hg5)); (have hG5 := Lib.hid hg5); clear y0 y1 fy0 fy1 hown5 hb5 hg5; (obtain ⟨⟨y0, y1⟩, fy0, fy1⟩ := blk2T hk5.out))
                        obtain ⟨Y, hY⟩ : ∃ Y, Y = w5.setCell ⟨g11, 1, none⟩ (.slice A5 (hN + 1) c5) := ⟨_, rfl⟩
                        rw [← hY]
                        have HOY : Hid (Y.ownsRow bx 38 2 (.slice A5 (hN + 1) c5) (hN + 1) (cellsK encHad (hL ++ [(x, N)]))) := by
                          show World.ownsRow _ _ _ _ _ _ _
                          rw [hY, cellsK_append, cellsK_one]
                          exact own_setCell_below hO5.out (by simp only; omega) _
                        have HRY : Hid (Y.ownsRow (g12 + 1) 33 5 (.slice rA rn rc) (rn) (cellsK encSes (rl))) := by
                          show World.ownsRow _ _ _ _ _ _ _
                          rw [hY]
                          exact own_setCell_below hR5.out (by simp only; omega) _
                        have HKY : Hid (Blk Y g11 25 #[.slice rA rn rc, .slice A5 (hN + 1) c5]) := by
                          show Blk _ _ _ _
                          rw [hY]
                          exact hk5.out.set_ 1 _
                        have HBY : Hid (Below g11 W8 Y) := by
                          show Below _ _ _
                          rw [hY]
                          exact (HBY0.out.trans (hB5.out.mono (by omega))).setCell (Nat.le_refl _) _
                        have hsY : w5.heap.size = Y.heap.size := by rw [hY]; simp [World.setCell]
                        have hbY : bx ≤ Y.heap.size := by rw [← hsY]; have := hB5.out.size; omega
                        have kEY : Blk Y wr.heap.size 38 #[.string ⟨yn.toArray⟩, .int .i64 yc] := by
                          rw [hY]
                          exact (HKE.out.grown hG5.out (fun e => by have := (hown.out.lt _ e.symm).2; omega)).far (p := ⟨g11, 1, none⟩) (by simp only; omega) _
                        obtain ⟨⟨b0', b1'⟩, -⟩ := blk2T kEY
                        have hwY : wr.heap.size < Y.heap.size := kEY.lt
                        clear y0 y1 fy0 fy1 b0 b1 hY kEY hsY
                        obtain ⟨hA', hA2⟩ : ∃ a, a = A5 := ⟨_, rfl⟩
                        obtain ⟨hC', hC2⟩ : ∃ a, a = c5 := ⟨_, rfl⟩
                        rw [← hA2, ← hC2] at HOY HKY ⊢
                        clear hA2 hC2 hk5 hO5 hB5 hR5
                        obtain ⟨⟨y0, y1⟩, fy0, fy1⟩ := blk2T HKY.out
                        have HFH : Hid ((true, hL ++ [(x, N)] ++ [(yn, yc)]) = (T.had.take (k + 1)).foldl (hStep x N) (false, [])) := by
                          show _ = _
                          rw [HFS.out]
                          unfold hStep
                          simp [HYX.out, ← HG1.out]
                        have HLH := Lib.hid (show hN + 1 = (hL ++ [(x, N)]).length by rw [List.length_append, ← HLH.out]; rfl)
                        go_wp2_with (at_builtin; (refine wpList_push _ rfl (.tmp 139) (.tmp 141) 23 rfl bx 38 j0 _ 2 24 Tryd.underlying23 hj0 hy0 hy1 hy2 rfl (by decide) (.slice hA' (hN + 1) hC') ((hN + 1)) (cellsK encHad (hL ++ [(x, N)])) rfl HOY.out 1 #[.string ⟨yn.toArray⟩, .int .i64 yc] 38 rfl rfl (by intro u hu; simp at hu; rcases hu with rfl | rfl <;> rfl) (by unfold maxLen; omega) (by omega) hbY ?_); intro v5 w5 hown5 hb5 hg5; (obtain ⟨A5, c5, rfl, hc5, -, -⟩ := own_form hown5); (have hk5 := Lib.hid (HKY.out.below hb5 (by omega))); (have hO5 := Lib.hid hown5); (have hB5 := Lib.hid hb5); (have hR5 := Lib.hid (own_other HRY.out HOY.out (by decide) hg5)); (have hG5 := Lib.hid hg5); clear y0 y1 fy0 fy1 hown5 hb5 hg5; (obtain ⟨⟨y0, y1⟩, fy0, fy1⟩ := blk2T hk5.out))
                        go_roundw
                        case rel =>
                          refine ⟨k + 1, ⟨A5, (hN + 1) + 1, c5, (hL ++ [(x, N)]) ++ [(yn, yc)]⟩, true, by omega, by go_num, rfl, hk5.out.set_ 1 _, ⟨?_, ?_⟩, ?_, ?_, ?_, ?_, ?_⟩
                          · show (hN + 1) + 1 = _
                            rw [List.length_append, ← HLH.out]
                            rfl
                          · show World.ownsRow _ _ _ _ _ _ _
                            rw [cellsK_append, cellsK_one]
                            exact own_setCell_below hO5.out (by simp only; omega) _
                          · exact HFH.out
                          · show (hN + 1) + 1 ≤ 2 * (k + 1)
                            omega
                          · exact own_setCell_below hR5.out (by simp only; omega) _
                          · exact (HBY.out.trans (hB5.out.mono (by omega))).setCell (Nat.le_refl _) _
                          · show bx ≤ _
                            have := hB5.out.size
                            simp [World.setCell]
                            omega
                        case measure => simp [intOf]; omega
                · have hke : k = en := by omega
                  have hkn : ¬ (k : Int) < (en : Int) := by omega
                  have HFE : Hid ((pb, hL) = T.had.foldl (hStep x N) (false, [])) := by
                    show _ = _
                    rw [hfh.out, List.take_of_length_le (by have := HEL.out; omega)]
                  have HHP : Hid (hFin x N (T.had.foldl (hStep x N) (false, [])) = putH T.had x) := by
                    show _ = _
                    rw [HN0.out, HZH.out]
                    exact hStep_put T.had x HTOK.out.sortH
                  have hw8 : w.heap.size + 2 ≤ w65.heap.size := by have := HB65.out.size; have := HSZ0.out; omega
                  have hg6 := HG.out
                  clear hke hfh hho
                  cases pb with
                  | true =>
                    have HHL : Hid (hL = putH T.had x) := by
                      show _ = _
                      rw [← HHP.out, ← HFE.out]
                      rfl
                    have HLF := HLH
                    have HBX2 := hbw
                    clear HHP HFE hg6
                    go_upto_region 38 with (fail)
                    clear y0 y1 fy0 fy1 a0 a1 hkn
                    have hg6 := HG.out
                    have kR := HKR8.out.below HBX2.out (by omega)
                    have hrg : w.heap.size + 1 ≠ g11 := by omega
                    have HKE : Hid (((wr.setCell ⟨w.heap.size + 1, 0, none⟩ (.slice rA rn rc)).setCell ⟨w.heap.size + 1, 1, none⟩ (.slice hA hN hC)).cell? ⟨w.heap.size + 1, 0, none⟩ = some (.slice rA rn rc) ∧ ((wr.setCell ⟨w.heap.size + 1, 0, none⟩ (.slice rA rn rc)).setCell ⟨w.heap.size + 1, 1, none⟩ (.slice hA hN hC)).cell? ⟨w.heap.size + 1, 1, none⟩ = some (.slice hA hN hC)) := (blk2T ((kR.set_ 0 (.slice rA rn rc)).set_ 1 (.slice hA hN hC))).1
                    have HQQ : Hid (∃ s : TabR, Ending.returned (.tuple #[.agg #[.slice rA rn rc, .slice hA hN hC], .int .i64 N, .int .i64 0]) = .returned (.tuple #[s.val, .int .i64 (openC T x z).2, .int .i64 V]) ∧ TabO ((wr.setCell ⟨w.heap.size + 1, 0, none⟩ (.slice rA rn rc)).setCell ⟨w.heap.size + 1, 1, none⟩ (.slice hA hN hC)) w.heap.size s ∧ s.con = (openC T x z).1 ∧ Below w.heap.size w ((wr.setCell ⟨w.heap.size + 1, 0, none⟩ (.slice rA rn rc)).setCell ⟨w.heap.size + 1, 1, none⟩ (.slice hA hN hC))) := by
                      show ∃ s : TabR, _
                      have hBE : Below w.heap.size w ((wr.setCell ⟨w.heap.size + 1, 0, none⟩ (.slice rA rn rc)).setCell ⟨w.heap.size + 1, 1, none⟩ (.slice hA hN hC)) := ((HW8w.out.trans (HBX2.out.mono (by omega))).setCell (by simp only; omega) _).setCell (by simp only; omega) _
                      have hT9 : KeepsT 25 wr ((wr.setCell ⟨w.heap.size + 1, 0, none⟩ (.slice rA rn rc)).setCell ⟨w.heap.size + 1, 1, none⟩ (.slice hA hN hC)) := (KeepsT.of_box kR).trans (KeepsT.of_box (kR.set_ 0 (.slice rA rn rc)))
                      obtain ⟨W9, hW9⟩ : ∃ W, W = ((wr.setCell ⟨w.heap.size + 1, 0, none⟩ (.slice rA rn rc)).setCell ⟨w.heap.size + 1, 1, none⟩ (.slice hA hN hC)) := ⟨_, rfl⟩
                      rw [← hW9] at hBE hT9 ⊢
                      clear hW9
                      have h1 : openC T x z = (openL T x z, openN T x) := by rw [HVC.out, if_pos HF.out]
                      have h2 : (⟨(rl).map SesR.con, hL⟩ : TabC) = openL T x z := by rw [HRF.out, HHL.out]; rfl
                      rw [h1, HF.out]
                      refine ⟨⟨⟨rA, rn, rc, rl⟩, ⟨hA, hN, hC, hL⟩⟩, ?_, ⟨⟨HLN.out, ?_⟩, fun y hy => ⟨(HSE.out y hy).1, ?_⟩, ⟨HLF.out, ?_⟩⟩, h2, hBE⟩
                      · rw [HNT.out]; rfl
                      · exact own_mono (hT9.own HRR.out (by decide)) (by omega)
                      · exact own_mono (hT9.own (own_below (HSE.out y hy).2 (by rw [HS8.out]; exact HBX2.out)) (by decide)) (by omega)
                      · exact own_mono (hT9.own hown.out (by decide)) (by omega)
                    obtain ⟨⟨r0, r1⟩, fr0, fr1⟩ := blk2T kR
                    obtain ⟨⟨y0, y1⟩, -⟩ := blk2T hkg.out
                    go_wp2_with (refine bodyPost_ret (v := (.tuple #[.agg #[.slice rA rn rc, .slice hA hN hC], .int .i64 N, .int .i64 0])) (by have z0 := HKE.out.1; have z1 := HKE.out.2; simp [results, Tryd.results13, go_sem, z0, z1]) rfl HQQ.out)
                  | false =>
                    have HHL : Hid (hL ++ [(x, N)] = putH T.had x) := by
                      show _ = _
                      rw [← HHP.out, ← HFE.out]
                      rfl
                    have HLF := Lib.hid (show hN + 1 = (hL ++ [(x, N)]).length by rw [List.length_append, ← HLH.out]; rfl)
                    clear HHP HFE hg6
                    go_upto_region 38 with (at_builtin; (refine wpList_push _ rfl (.tmp 147) (.tmp 151) 23 rfl bx 38 j0 _ 2 24 Tryd.underlying23 hj0 hy0 hy1 hy2 rfl (by decide) (.slice hA hN hC) (hN) (cellsK encHad (hL)) rfl hown.out 1 #[.string ⟨x.toArray⟩, .int .i64 N] 38 rfl rfl (by intro u hu; simp at hu; rcases hu with rfl | rfl <;> rfl) (by unfold maxLen; omega) (by omega) hbxw2 ?_); intro v5 w5 hown5 hb5 hg5; (obtain ⟨A5, c5, rfl, hc5, -, -⟩ := own_form hown5); (have hk5 := Lib.hid (hkg.out.below hb5 (by omega))); (have hO5 := Lib.hid hown5); (have hB5 := Lib.hid hb5); (have hR5 := Lib.hid (own_other HRR.out hown.out (by decide) hg5)); (have hG5 := Lib.hid hg5); clear y0 y1 fy0 fy1 hown5 hb5 hg5; (obtain ⟨⟨y0, y1⟩, fy0, fy1⟩ := blk2T hk5.out))
                    obtain ⟨Y, hY⟩ : ∃ Y, Y = w5.setCell ⟨g11, 1, none⟩ (.slice A5 (hN + 1) c5) := ⟨_, rfl⟩
                    rw [← hY]
                    have hg6 := HG.out
                    have HOY : Hid (Y.ownsRow bx 38 2 (.slice A5 (hN + 1) c5) (hN + 1) (cellsK encHad (hL ++ [(x, N)]))) := by
                      show World.ownsRow _ _ _ _ _ _ _
                      rw [hY, cellsK_append, cellsK_one]
                      exact own_setCell_below hO5.out (by simp only; omega) _
                    have HRY : Hid (Y.ownsRow (g12 + 1) 33 5 (.slice rA rn rc) (rn) (cellsK encSes (rl))) := by
                      show World.ownsRow _ _ _ _ _ _ _
                      rw [hY]
                      exact own_setCell_below hR5.out (by simp only; omega) _
                    have HKY : Hid (Blk Y g11 25 #[.slice rA rn rc, .slice A5 (hN + 1) c5]) := by
                      show Blk _ _ _ _
                      rw [hY]
                      exact hk5.out.set_ 1 _
                    have HBX2 : Hid (Below g11 W8 Y) := by
                      show Below _ _ _
                      rw [hY]
                      exact (hbw.out.trans (hB5.out.mono (by omega))).setCell (Nat.le_refl _) _
                    clear y0 y1 fy0 fy1 a0 a1 hkn hY
                    have kR := HKR8.out.below HBX2.out (by omega)
                    have hrg : w.heap.size + 1 ≠ g11 := by omega
                    have HKE : Hid (((Y.setCell ⟨w.heap.size + 1, 0, none⟩ (.slice rA rn rc)).setCell ⟨w.heap.size + 1, 1, none⟩ (.slice A5 (hN + 1) c5)).cell? ⟨w.heap.size + 1, 0, none⟩ = some (.slice rA rn rc) ∧ ((Y.setCell ⟨w.heap.size + 1, 0, none⟩ (.slice rA rn rc)).setCell ⟨w.heap.size + 1, 1, none⟩ (.slice A5 (hN + 1) c5)).cell? ⟨w.heap.size + 1, 1, none⟩ = some (.slice A5 (hN + 1) c5)) := (blk2T ((kR.set_ 0 (.slice rA rn rc)).set_ 1 (.slice A5 (hN + 1) c5))).1
                    have HQQ : Hid (∃ s : TabR, Ending.returned (.tuple #[.agg #[.slice rA rn rc, .slice A5 (hN + 1) c5], .int .i64 N, .int .i64 0]) = .returned (.tuple #[s.val, .int .i64 (openC T x z).2, .int .i64 V]) ∧ TabO ((Y.setCell ⟨w.heap.size + 1, 0, none⟩ (.slice rA rn rc)).setCell ⟨w.heap.size + 1, 1, none⟩ (.slice A5 (hN + 1) c5)) w.heap.size s ∧ s.con = (openC T x z).1 ∧ Below w.heap.size w ((Y.setCell ⟨w.heap.size + 1, 0, none⟩ (.slice rA rn rc)).setCell ⟨w.heap.size + 1, 1, none⟩ (.slice A5 (hN + 1) c5))) := by
                      show ∃ s : TabR, _
                      have hBE : Below w.heap.size w ((Y.setCell ⟨w.heap.size + 1, 0, none⟩ (.slice rA rn rc)).setCell ⟨w.heap.size + 1, 1, none⟩ (.slice A5 (hN + 1) c5)) := ((HW8w.out.trans (HBX2.out.mono (by omega))).setCell (by simp only; omega) _).setCell (by simp only; omega) _
                      have hT9 : KeepsT 25 Y ((Y.setCell ⟨w.heap.size + 1, 0, none⟩ (.slice rA rn rc)).setCell ⟨w.heap.size + 1, 1, none⟩ (.slice A5 (hN + 1) c5)) := (KeepsT.of_box kR).trans (KeepsT.of_box (kR.set_ 0 (.slice rA rn rc)))
                      obtain ⟨W9, hW9⟩ : ∃ W, W = ((Y.setCell ⟨w.heap.size + 1, 0, none⟩ (.slice rA rn rc)).setCell ⟨w.heap.size + 1, 1, none⟩ (.slice A5 (hN + 1) c5)) := ⟨_, rfl⟩
                      rw [← hW9] at hBE hT9 ⊢
                      clear hW9
                      have h1 : openC T x z = (openL T x z, openN T x) := by rw [HVC.out, if_pos HF.out]
                      have h2 : (⟨(rl).map SesR.con, hL ++ [(x, N)]⟩ : TabC) = openL T x z := by rw [HRF.out, HHL.out]; rfl
                      rw [h1, HF.out]
                      refine ⟨⟨⟨rA, rn, rc, rl⟩, ⟨A5, (hN + 1), c5, hL ++ [(x, N)]⟩⟩, ?_, ⟨⟨HLN.out, ?_⟩, fun y hy => ⟨(HSE.out y hy).1, ?_⟩, ⟨HLF.out, ?_⟩⟩, h2, hBE⟩
                      · rw [HNT.out]; rfl
                      · exact own_mono (hT9.own HRY.out (by decide)) (by omega)
                      · exact own_mono (hT9.own (own_below (HSE.out y hy).2 (by rw [HS8.out]; exact HBX2.out)) (by decide)) (by omega)
                      · exact own_mono (hT9.own HOY.out (by decide)) (by omega)
                    obtain ⟨⟨r0, r1⟩, fr0, fr1⟩ := blk2T kR
                    obtain ⟨⟨y0, y1⟩, -⟩ := blk2T HKY.out
                    go_wp2_with (refine bodyPost_ret (v := (.tuple #[.agg #[.slice rA rn rc, .slice A5 (hN + 1) c5], .int .i64 N, .int .i64 0])) (by have z0 := HKE.out.1; have z1 := HKE.out.2; simp [results, Tryd.results13, go_sem, z0, z1]) rfl HQQ.out)
            | false =>
              have hrk2 : rn ≤ k := hrk.out
              have HRF : Hid (rl.map SesR.con ++ [one] = (openL T x z).opn) := by
                show _ = _
                rw [← HRO2.out, ← HFA.out]
                rfl
              clear hrk HFA HRO2
              go_upto_region 25 with (at_builtin; (refine wpList_push _ rfl (.tmp 99) (.tmp 101) 22 rfl (g12 + 1) 33 i0 _ 5 72 Tryd.underlying22 hi0 hz0 hz1 hz2 rfl (by decide) (.slice rA rn rc) rn (cellsK encSes rl) rfl HOR.out 1 #[.string ⟨x.toArray⟩, .int .i64 N, .string ⟨z.toArray⟩, .slice none 0 0, .bool false] 33 rfl rfl (by intro u hu; simp at hu; rcases hu with rfl | rfl | rfl | rfl | rfl <;> rfl) (by unfold maxLen; omega) (by omega) hsw ?_); intro v5 w5 hown5 hb5 hg5; (obtain ⟨A5, c5, rfl, hc5, -, -⟩ := own_form hown5); (have hk5 := Lib.hid (hk11.out.below hb5 (by omega))); (have hO5 := Lib.hid hown5); (have hB5 := Lib.hid hb5); clear b0 b1 fb0 fb1 hown5 hb5; (obtain ⟨⟨b0, b1⟩, fb0, fb1⟩ := blk2T hk5.out))
              obtain ⟨X, hX⟩ : ∃ X, X = w5.setCell ⟨g11, 0, none⟩ (.slice A5 (rn + 1) c5) := ⟨_, rfl⟩
              rw [← hX]
              have HOR5 : Hid (X.ownsRow (g12 + 1) 33 5 (.slice A5 (rn + 1) c5) (rn + 1) (cellsK encSes (rl ++ [⟨x, N, z, ⟨none, 0, 0, []⟩, false⟩]))) := by
                show World.ownsRow _ _ _ _ _ _ _
                rw [hX, cellsK_append, cellsK_one]
                exact own_setCell_below hO5.out (by simp only; omega) _
              have hkX : Hid (Blk X g11 25 #[.slice A5 (rn + 1) c5, .slice none 0 0]) := by
                show Blk _ _ _ _
                rw [hX]
                exact hk5.out.set_ 0 _
              have HBW : Hid (Below g11 W8 X) := by
                show Below _ _ _
                rw [hX]
                exact (hbw.out.trans (hB5.out.mono (by omega))).setCell (Nat.le_refl _) _
              have HSE : Hid (∀ y ∈ rl ++ [(⟨x, N, z, ⟨none, 0, 0, []⟩, false⟩ : SesR)], SesO W8 w65.heap.size y) := by
                show ∀ y ∈ _, _
                intro y hy
                rcases List.mem_append.1 hy with hy | hy
                · exact hse.out y hy
                · rw [List.mem_singleton.1 hy]
                  exact ⟨rfl, World.ownsRow_nil _ _ _ _⟩
              have HLN := Lib.hid (show rn + 1 = (rl ++ [(⟨x, N, z, ⟨none, 0, 0, []⟩, false⟩ : SesR)]).length by rw [List.length_append, ← HLN.out]; rfl)
              have HRF : Hid ((rl ++ [(⟨x, N, z, ⟨none, 0, 0, []⟩, false⟩ : SesR)]).map SesR.con = (openL T x z).opn) := by
                show _ = _
                rw [← HRF.out, HONE.out, List.map_append]
                rfl
              have hrk2 : rn + 1 ≤ k + 1 := by omega
              have hsX : w5.heap.size = X.heap.size := by rw [hX]; simp [World.setCell]
              have hg10w : g10 < X.heap.size := (K10.out X HBW.out).lt
              have hsw : g12 + 1 ≤ X.heap.size := by rw [← hsX]; have := hB5.out.size; omega
              clear a0 a1 b0 b1 fb0 fb1 o0 o1 o2 o3 o4 hX hse hkn hsX
              obtain ⟨RA, hRA⟩ : ∃ a, a = A5 := ⟨_, rfl⟩
              obtain ⟨RC, hRC⟩ : ∃ a, a = c5 := ⟨_, rfl⟩
              rw [← hRA, ← hRC] at HOR5 hkX ⊢
              clear hRA hRC hk5 hO5 hB5
              have HORX := HOR5
              obtain ⟨bx, hbx⟩ : ∃ b, b = X.heap.size := ⟨_, rfl⟩
              have HBX := Lib.hid hbx
              go_wp2_with fail
              clear hbx
              go_loopw [13, 15] (fun p i wr => ∃ (k : Nat) (h : FS HadT) (pb : Bool), k ≤ en ∧ i = .int .i64 (k : Int) ∧ p = .bool pb ∧ Hid (Blk wr g11 25 #[.slice RA (rn + 1) RC, .slice h.A h.n h.c]) ∧ Hid (h.own wr bx 38 2 encHad) ∧ Hid ((pb, h.l) = (T.had.take k).foldl (hStep x N) (false, [])) ∧ Hid (h.n ≤ 2 * k) ∧ Hid (wr.ownsRow (g12 + 1) 33 5 (.slice RA (rn + 1) RC) ((rn + 1)) (cellsK encSes (rl ++ [(⟨x, N, z, ⟨none, 0, 0, []⟩, false⟩ : SesR)]))) ∧ Hid (Below g11 W8 wr) ∧ Hid (bx ≤ wr.heap.size)) (fun _ i _ => en - (intOf i).toNat)
              case atStart => exact ⟨0, ⟨none, 0, 0, []⟩, false, Nat.zero_le _, rfl, rfl, hkX.out, ⟨rfl, World.ownsRow_nil _ _ _ _⟩, rfl, Nat.zero_le _, HORX.out, HBW.out, by show bx ≤ _; rw [HBX.out]; exact Nat.le_refl _⟩
              case round =>
                clear HBW hkX hg10w
                obtain ⟨k, ⟨hA, hN, hC, hL⟩, pb, hk, rfl, rfl, hkg, hho, hfh, hnk, HRR, hbw, hbxw⟩ := hrel
                have hnk2 : hN ≤ 2 * k := hnk.out
                have hen9 := HSN9.out.2
                have hbxw2 : bx ≤ wr.heap.size := hbxw.out
                have hbx12 : g12 + 1 ≤ bx := by have := HBX.out; omega
                have hown : Hid (wr.ownsRow bx 38 2 (.slice hA hN hC) hN (cellsK encHad hL)) := hho.out.2
                have HLH := Lib.hid (show hN = hL.length from hho.out.1)
                obtain ⟨⟨a0, a1⟩, -⟩ := blk2T (K10.out wr hbw.out)
                have hg10w : g10 < wr.heap.size := (K10.out wr hbw.out).lt
                have hg11w : g11 < wr.heap.size := hkg.out.lt
                obtain ⟨⟨y0, y1⟩, fy0, fy1⟩ := blk2T hkg.out
                by_cases hlt : k < en
                · have hki : (k : Int) < (en : Int) := by omega
                  have hkl : k < T.had.length := by have := HEL.out; omega
                  obtain ⟨ad, rfl, hadB, q0, q1⟩ := (HRO.out wr hbw.out).2.el2 HEL.out hlt
                  have htk : T.had.take (k + 1) = T.had.take k ++ [T.had[k]'hkl] := by rw [List.take_add_one, List.getElem?_eq_getElem hkl]; rfl
                  obtain ⟨y, hy⟩ : ∃ y, y = T.had[k]'hkl := ⟨_, rfl⟩
                  rw [← hy] at q0 q1 htk
                  obtain ⟨yn, yc⟩ := y
                  simp only at q0 q1
                  have HFS : Hid ((T.had.take (k + 1)).foldl (hStep x N) (false, []) = hStep x N (pb, hL) (yn, yc)) := by show _ = _; rw [htk, List.foldl_append, ← hfh.out]; rfl
                  have hgt := gtrS 9 yn x
                  rw [bl_leq, Bool.not_not] at hgt
                  obtain ⟨g1, hg1⟩ : ∃ g, g = Op.bytesLess x yn := ⟨_, rfl⟩
                  rw [← hg1] at hgt
                  have HG1 := Lib.hid hg1
                  clear hy htk hg1 hho hfh
                  by_cases hyx : yn = x
                  · have d1 : (yn == x) = true := by simp [hyx]
                    have HFH : Hid ((true, hL ++ [(yn, N)]) = (T.had.take (k + 1)).foldl (hStep x N) (false, [])) := by
                      show _ = _
                      rw [HFS.out]
                      unfold hStep
                      simp [hyx]
                    clear hyx
                    go_upto_region 35 with (fail)
                    obtain ⟨Y, hY⟩ : ∃ Y, Y = wr.alloc (.cells #[.string ⟨yn.toArray⟩, .int .i64 N] 38) := ⟨_, rfl⟩
                    rw [← hY]
                    have hba := (Below.refl wr.heap.size wr).alloc (Nat.le_refl _) (.cells #[.string ⟨yn.toArray⟩, .int .i64 N] 38)
                    have kE := Blk.new wr 38 #[.string ⟨yn.toArray⟩, .int .i64 N]
                    rw [← hY] at hba kE
                    have HOY : Hid (Y.ownsRow bx 38 2 (.slice hA hN hC) (hN) (cellsK encHad (hL))) := own_below hown.out hba
                    have HRY := Lib.hid (own_below HRR.out hba)
                    have HKY := Lib.hid (hkg.out.below hba hkg.out.lt)
                    have HBY := Lib.hid (hbw.out.trans (hba.mono (by omega)))
                    have hbY : bx ≤ Y.heap.size := by have := hba.size; omega
                    obtain ⟨⟨b0, b1⟩, -⟩ := blk2T kE
                    clear hY hba kE y0 y1 fy0 fy1 q0 q1 a0 a1
                    obtain ⟨⟨y0, y1⟩, fy0, fy1⟩ := blk2T HKY.out
                    go_wp2_with (at_builtin; (refine wpList_push _ rfl (.tmp 139) (.tmp 141) 23 rfl bx 38 j0 _ 2 24 Tryd.underlying23 hj0 hy0 hy1 hy2 rfl (by decide) (.slice hA hN hC) (hN) (cellsK encHad (hL)) rfl HOY.out 1 #[.string ⟨yn.toArray⟩, .int .i64 N] 38 rfl rfl (by intro u hu; simp at hu; rcases hu with rfl | rfl <;> rfl) (by unfold maxLen; omega) (by omega) hbY ?_); intro v5 w5 hown5 hb5 hg5; (obtain ⟨A5, c5, rfl, hc5, -, -⟩ := own_form hown5); (have hk5 := Lib.hid (HKY.out.below hb5 (by omega))); (have hO5 := Lib.hid hown5); (have hB5 := Lib.hid hb5); (have hR5 := Lib.hid (own_other HRY.out HOY.out (by decide) hg5)); (have hG5 := Lib.hid hg5); clear y0 y1 fy0 fy1 hown5 hb5 hg5; (obtain ⟨⟨y0, y1⟩, fy0, fy1⟩ := blk2T hk5.out))
                    go_roundw
                    case rel =>
                      refine ⟨k + 1, ⟨A5, hN + 1, c5, (hL) ++ [(yn, N)]⟩, true, by omega, by go_num, rfl, hk5.out.set_ 1 _, ⟨?_, ?_⟩, ?_, ?_, ?_, ?_, ?_⟩
                      · show hN + 1 = _
                        rw [List.length_append, ← HLH.out]
                        rfl
                      · show World.ownsRow _ _ _ _ _ _ _
                        rw [cellsK_append, cellsK_one]
                        exact own_setCell_below hO5.out (by simp only; omega) _
                      · exact HFH.out
                      · show hN + 1 ≤ 2 * (k + 1)
                        omega
                      · exact own_setCell_below hR5.out (by simp only; omega) _
                      · exact (HBY.out.trans (hB5.out.mono (by omega))).setCell (Nat.le_refl _) _
                      · show bx ≤ _
                        have := hB5.out.size
                        simp [World.setCell]
                        omega
                    case measure => simp [intOf]; omega
                  · have d1 : (yn == x) = false := by simp [hyx]
                    have HYX := Lib.hid hyx
                    clear hyx
                    cases pb with
                    | true =>
                      have HFH : Hid ((true, hL ++ [(yn, yc)]) = (T.had.take (k + 1)).foldl (hStep x N) (false, [])) := by
                        show _ = _
                        rw [HFS.out]
                        unfold hStep
                        simp [HYX.out]
                      go_upto_region 35 with (fail)
                      obtain ⟨Y, hY⟩ : ∃ Y, Y = wr.alloc (.cells #[.string ⟨yn.toArray⟩, .int .i64 yc] 38) := ⟨_, rfl⟩
                      rw [← hY]
                      have hba := (Below.refl wr.heap.size wr).alloc (Nat.le_refl _) (.cells #[.string ⟨yn.toArray⟩, .int .i64 yc] 38)
                      have kE := Blk.new wr 38 #[.string ⟨yn.toArray⟩, .int .i64 yc]
                      rw [← hY] at hba kE
                      have HOY : Hid (Y.ownsRow bx 38 2 (.slice hA hN hC) (hN) (cellsK encHad (hL))) := own_below hown.out hba
                      have HRY := Lib.hid (own_below HRR.out hba)
                      have HKY := Lib.hid (hkg.out.below hba hkg.out.lt)
                      have HBY := Lib.hid (hbw.out.trans (hba.mono (by omega)))
                      have hbY : bx ≤ Y.heap.size := by have := hba.size; omega
                      obtain ⟨⟨b0, b1⟩, -⟩ := blk2T kE
                      clear hY hba kE y0 y1 fy0 fy1 q0 q1 a0 a1
                      obtain ⟨⟨y0, y1⟩, fy0, fy1⟩ := blk2T HKY.out
                      go_wp2_with (at_builtin; (refine wpList_push _ rfl (.tmp 139) (.tmp 141) 23 rfl bx 38 j0 _ 2 24 Tryd.underlying23 hj0 hy0 hy1 hy2 rfl (by decide) (.slice hA hN hC) (hN) (cellsK encHad (hL)) rfl HOY.out 1 #[.string ⟨yn.toArray⟩, .int .i64 yc] 38 rfl rfl (by intro u hu; simp at hu; rcases hu with rfl | rfl <;> rfl) (by unfold maxLen; omega) (by omega) hbY ?_); intro v5 w5 hown5 hb5 hg5; (obtain ⟨A5, c5, rfl, hc5, -, -⟩ := own_form hown5); (have hk5 := Lib.hid (HKY.out.below hb5 (by omega))); (have hO5 := Lib.hid hown5); (have hB5 := Lib.hid hb5); (have hR5 := Lib.hid (own_other HRY.out HOY.out (by decide) hg5)); (have hG5 := Lib.hid hg5); clear y0 y1 fy0 fy1 hown5 hb5 hg5; (obtain ⟨⟨y0, y1⟩, fy0, fy1⟩ := blk2T hk5.out))
                      go_roundw
                      case rel =>
                        refine ⟨k + 1, ⟨A5, hN + 1, c5, (hL) ++ [(yn, yc)]⟩, true, by omega, by go_num, rfl, hk5.out.set_ 1 _, ⟨?_, ?_⟩, ?_, ?_, ?_, ?_, ?_⟩
                        · show hN + 1 = _
                          rw [List.length_append, ← HLH.out]
                          rfl
                        · show World.ownsRow _ _ _ _ _ _ _
                          rw [cellsK_append, cellsK_one]
                          exact own_setCell_below hO5.out (by simp only; omega) _
                        · exact HFH.out
                        · show hN + 1 ≤ 2 * (k + 1)
                          omega
                        · exact own_setCell_below hR5.out (by simp only; omega) _
                        · exact (HBY.out.trans (hB5.out.mono (by omega))).setCell (Nat.le_refl _) _
                        · show bx ≤ _
                          have := hB5.out.size
                          simp [World.setCell]
                          omega
                      case measure => simp [intOf]; omega
                    | false =>
                      cases g1 with
                      | false =>
                        have HFH : Hid ((false, hL ++ [(yn, yc)]) = (T.had.take (k + 1)).foldl (hStep x N) (false, [])) := by
                          show _ = _
                          rw [HFS.out]
                          unfold hStep
                          simp [HYX.out, ← HG1.out]
                        go_upto_region 35 with (fail)
                        obtain ⟨Y, hY⟩ : ∃ Y, Y = wr.alloc (.cells #[.string ⟨yn.toArray⟩, .int .i64 yc] 38) := ⟨_, rfl⟩
                        rw [← hY]
                        have hba := (Below.refl wr.heap.size wr).alloc (Nat.le_refl _) (.cells #[.string ⟨yn.toArray⟩, .int .i64 yc] 38)
                        have kE := Blk.new wr 38 #[.string ⟨yn.toArray⟩, .int .i64 yc]
                        rw [← hY] at hba kE
                        have HOY : Hid (Y.ownsRow bx 38 2 (.slice hA hN hC) (hN) (cellsK encHad (hL))) := own_below hown.out hba
                        have HRY := Lib.hid (own_below HRR.out hba)
                        have HKY := Lib.hid (hkg.out.below hba hkg.out.lt)
                        have HBY := Lib.hid (hbw.out.trans (hba.mono (by omega)))
                        have hbY : bx ≤ Y.heap.size := by have := hba.size; omega
                        obtain ⟨⟨b0, b1⟩, -⟩ := blk2T kE
                        clear hY hba kE y0 y1 fy0 fy1 q0 q1 a0 a1
                        obtain ⟨⟨y0, y1⟩, fy0, fy1⟩ := blk2T HKY.out
                        go_wp2_with (at_builtin; (refine wpList_push _ rfl (.tmp 139) (.tmp 141) 23 rfl bx 38 j0 _ 2 24 Tryd.underlying23 hj0 hy0 hy1 hy2 rfl (by decide) (.slice hA hN hC) (hN) (cellsK encHad (hL)) rfl HOY.out 1 #[.string ⟨yn.toArray⟩, .int .i64 yc] 38 rfl rfl (by intro u hu; simp at hu; rcases hu with rfl | rfl <;> rfl) (by unfold maxLen; omega) (by omega) hbY ?_); intro v5 w5 hown5 hb5 hg5; (obtain ⟨A5, c5, rfl, hc5, -, -⟩ := own_form hown5); (have hk5 := Lib.hid (HKY.out.below hb5 (by omega))); (have hO5 := Lib.hid hown5); (have hB5 := Lib.hid hb5); (have hR5 := Lib.hid (own_other HRY.out HOY.out (by decide) hg5)); (have hG5 := Lib.hid hg5); clear y0 y1 fy0 fy1 hown5 hb5 hg5; (obtain ⟨⟨y0, y1⟩, fy0, fy1⟩ := blk2T hk5.out))
                        go_roundw
                        case rel =>
                          refine ⟨k + 1, ⟨A5, hN + 1, c5, (hL) ++ [(yn, yc)]⟩, false, by omega, by go_num, rfl, hk5.out.set_ 1 _, ⟨?_, ?_⟩, ?_, ?_, ?_, ?_, ?_⟩
                          · show hN + 1 = _
                            rw [List.length_append, ← HLH.out]
                            rfl
                          · show World.ownsRow _ _ _ _ _ _ _
                            rw [cellsK_append, cellsK_one]
                            exact own_setCell_below hO5.out (by simp only; omega) _
                          · exact HFH.out
                          · show hN + 1 ≤ 2 * (k + 1)
                            omega
                          · exact own_setCell_below hR5.out (by simp only; omega) _
                          · exact (HBY.out.trans (hB5.out.mono (by omega))).setCell (Nat.le_refl _) _
                          · show bx ≤ _
                            have := hB5.out.size
                            simp [World.setCell]
                            omega
                        case measure => simp [intOf]; omega
                      | true =>
                        have hba := (Below.refl wr.heap.size wr).alloc (Nat.le_refl _) (.cells #[.string ⟨yn.toArray⟩, .int .i64 yc] 38)
                        obtain ⟨Y0, hY0⟩ : ∃ Y, Y = wr.alloc (.cells #[.string ⟨yn.toArray⟩, .int .i64 yc] 38) := ⟨_, rfl⟩
                        have kE := Blk.new wr 38 #[.string ⟨yn.toArray⟩, .int .i64 yc]
                        rw [← hY0] at hba kE
                        have HKE := Lib.hid kE
                        have HOY0 : Hid (Y0.ownsRow bx 38 2 (.slice hA hN hC) hN (cellsK encHad hL)) := own_below hown.out hba
                        have HRY0 := Lib.hid (own_below HRR.out hba)
                        have HKY0 := Lib.hid (hkg.out.below hba hkg.out.lt)
                        have HBY0 := Lib.hid (hbw.out.trans (hba.mono (by omega)))
                        have hbY0 : bx ≤ Y0.heap.size := by have := hba.size; omega
                        obtain ⟨⟨b0, b1⟩, -⟩ := blk2T kE
                        go_upto_region 33 with (fail)
                        rw [← hY0]
                        clear hY0 hba kE y0 y1 fy0 fy1 q0 q1 a0 a1
                        obtain ⟨⟨y0, y1⟩, fy0, fy1⟩ := blk2T HKY0.out
                        go_upto_region 35 with (at_builtin; (refine wpList_push _ rfl (.tmp 131) (.tmp 135) 23 rfl bx 38 j0 _ 2 24 Tryd.underlying23 hj0 hy0 hy1 hy2 rfl (by decide) (.slice hA hN hC) (hN) (cellsK encHad (hL)) rfl HOY0.out 1 #[.string ⟨x.toArray⟩, .int .i64 N] 38 rfl rfl (by intro u hu; simp at hu; rcases hu with rfl | rfl <;> rfl) (by unfold maxLen; omega) (by omega) hbY0 ?_); intro v5 w5 hown5 hb5 hg5; (obtain ⟨A5, c5, rfl, hc5, -, -⟩ := own_form hown5); (have hk5 := Lib.hid (HKY0.out.below hb5 (by omega))); (have hO5 := Lib.hid hown5); (have hB5 := Lib.hid hb5); (have hR5 := Lib.hid (own_other HRY0.out HOY0.out (by decide) hg5)); (have hG5 := Lib.hid hg5); clear y0 y1 fy0 fy1 hown5 hb5 hg5; (obtain ⟨⟨y0, y1⟩, fy0, fy1⟩ := blk2T hk5.out))
                        obtain ⟨Y, hY⟩ : ∃ Y, Y = w5.setCell ⟨g11, 1, none⟩ (.slice A5 (hN + 1) c5) := ⟨_, rfl⟩
                        rw [← hY]
                        have HOY : Hid (Y.ownsRow bx 38 2 (.slice A5 (hN + 1) c5) (hN + 1) (cellsK encHad (hL ++ [(x, N)]))) := by
                          show World.ownsRow _ _ _ _ _ _ _
                          rw [hY, cellsK_append, cellsK_one]
                          exact own_setCell_below hO5.out (by simp only; omega) _
                        have HRY : Hid (Y.ownsRow (g12 + 1) 33 5 (.slice RA (rn + 1) RC) ((rn + 1)) (cellsK encSes (rl ++ [(⟨x, N, z, ⟨none, 0, 0, []⟩, false⟩ : SesR)]))) := by
                          show World.ownsRow _ _ _ _ _ _ _
                          rw [hY]
                          exact own_setCell_below hR5.out (by simp only; omega) _
                        have HKY : Hid (Blk Y g11 25 #[.slice RA (rn + 1) RC, .slice A5 (hN + 1) c5]) := by
                          show Blk _ _ _ _
                          rw [hY]
                          exact hk5.out.set_ 1 _
                        have HBY : Hid (Below g11 W8 Y) := by
                          show Below _ _ _
                          rw [hY]
                          exact (HBY0.out.trans (hB5.out.mono (by omega))).setCell (Nat.le_refl _) _
                        have hsY : w5.heap.size = Y.heap.size := by rw [hY]; simp [World.setCell]
                        have hbY : bx ≤ Y.heap.size := by rw [← hsY]; have := hB5.out.size; omega
                        have kEY : Blk Y wr.heap.size 38 #[.string ⟨yn.toArray⟩, .int .i64 yc] := by
                          rw [hY]
                          exact (HKE.out.grown hG5.out (fun e => by have := (hown.out.lt _ e.symm).2; omega)).far (p := ⟨g11, 1, none⟩) (by simp only; omega) _
                        obtain ⟨⟨b0', b1'⟩, -⟩ := blk2T kEY
                        have hwY : wr.heap.size < Y.heap.size := kEY.lt
                        clear y0 y1 fy0 fy1 b0 b1 hY kEY hsY
                        obtain ⟨hA', hA2⟩ : ∃ a, a = A5 := ⟨_, rfl⟩
                        obtain ⟨hC', hC2⟩ : ∃ a, a = c5 := ⟨_, rfl⟩
                        rw [← hA2, ← hC2] at HOY HKY ⊢
                        clear hA2 hC2 hk5 hO5 hB5 hR5
                        obtain ⟨⟨y0, y1⟩, fy0, fy1⟩ := blk2T HKY.out
                        have HFH : Hid ((true, hL ++ [(x, N)] ++ [(yn, yc)]) = (T.had.take (k + 1)).foldl (hStep x N) (false, [])) := by
                          show _ = _
                          rw [HFS.out]
                          unfold hStep
                          simp [HYX.out, ← HG1.out]
                        have HLH := Lib.hid (show hN + 1 = (hL ++ [(x, N)]).length by rw [List.length_append, ← HLH.out]; rfl)
                        go_wp2_with (at_builtin; (refine wpList_push _ rfl (.tmp 139) (.tmp 141) 23 rfl bx 38 j0 _ 2 24 Tryd.underlying23 hj0 hy0 hy1 hy2 rfl (by decide) (.slice hA' (hN + 1) hC') ((hN + 1)) (cellsK encHad (hL ++ [(x, N)])) rfl HOY.out 1 #[.string ⟨yn.toArray⟩, .int .i64 yc] 38 rfl rfl (by intro u hu; simp at hu; rcases hu with rfl | rfl <;> rfl) (by unfold maxLen; omega) (by omega) hbY ?_); intro v5 w5 hown5 hb5 hg5; (obtain ⟨A5, c5, rfl, hc5, -, -⟩ := own_form hown5); (have hk5 := Lib.hid (HKY.out.below hb5 (by omega))); (have hO5 := Lib.hid hown5); (have hB5 := Lib.hid hb5); (have hR5 := Lib.hid (own_other HRY.out HOY.out (by decide) hg5)); (have hG5 := Lib.hid hg5); clear y0 y1 fy0 fy1 hown5 hb5 hg5; (obtain ⟨⟨y0, y1⟩, fy0, fy1⟩ := blk2T hk5.out))
                        go_roundw
                        case rel =>
                          refine ⟨k + 1, ⟨A5, (hN + 1) + 1, c5, (hL ++ [(x, N)]) ++ [(yn, yc)]⟩, true, by omega, by go_num, rfl, hk5.out.set_ 1 _, ⟨?_, ?_⟩, ?_, ?_, ?_, ?_, ?_⟩
                          · show (hN + 1) + 1 = _
                            rw [List.length_append, ← HLH.out]
                            rfl
                          · show World.ownsRow _ _ _ _ _ _ _
                            rw [cellsK_append, cellsK_one]
                            exact own_setCell_below hO5.out (by simp only; omega) _
                          · exact HFH.out
                          · show (hN + 1) + 1 ≤ 2 * (k + 1)
                            omega
                          · exact own_setCell_below hR5.out (by simp only; omega) _
                          · exact (HBY.out.trans (hB5.out.mono (by omega))).setCell (Nat.le_refl _) _
                          · show bx ≤ _
                            have := hB5.out.size
                            simp [World.setCell]
                            omega
                        case measure => simp [intOf]; omega
                · have hke : k = en := by omega
                  have hkn : ¬ (k : Int) < (en : Int) := by omega
                  have HFE : Hid ((pb, hL) = T.had.foldl (hStep x N) (false, [])) := by
                    show _ = _
                    rw [hfh.out, List.take_of_length_le (by have := HEL.out; omega)]
                  have HHP : Hid (hFin x N (T.had.foldl (hStep x N) (false, [])) = putH T.had x) := by
                    show _ = _
                    rw [HN0.out, HZH.out]
                    exact hStep_put T.had x HTOK.out.sortH
                  have hw8 : w.heap.size + 2 ≤ w65.heap.size := by have := HB65.out.size; have := HSZ0.out; omega
                  have hg6 := HG.out
                  clear hke hfh hho
                  cases pb with
                  | true =>
                    have HHL : Hid (hL = putH T.had x) := by
                      show _ = _
                      rw [← HHP.out, ← HFE.out]
                      rfl
                    have HLF := HLH
                    have HBX2 := hbw
                    clear HHP HFE hg6
                    go_upto_region 38 with (fail)
                    clear y0 y1 fy0 fy1 a0 a1 hkn
                    have hg6 := HG.out
                    have kR := HKR8.out.below HBX2.out (by omega)
                    have hrg : w.heap.size + 1 ≠ g11 := by omega
                    have HKE : Hid (((wr.setCell ⟨w.heap.size + 1, 0, none⟩ (.slice RA (rn + 1) RC)).setCell ⟨w.heap.size + 1, 1, none⟩ (.slice hA hN hC)).cell? ⟨w.heap.size + 1, 0, none⟩ = some (.slice RA (rn + 1) RC) ∧ ((wr.setCell ⟨w.heap.size + 1, 0, none⟩ (.slice RA (rn + 1) RC)).setCell ⟨w.heap.size + 1, 1, none⟩ (.slice hA hN hC)).cell? ⟨w.heap.size + 1, 1, none⟩ = some (.slice hA hN hC)) := (blk2T ((kR.set_ 0 (.slice RA (rn + 1) RC)).set_ 1 (.slice hA hN hC))).1
                    have HQQ : Hid (∃ s : TabR, Ending.returned (.tuple #[.agg #[.slice RA (rn + 1) RC, .slice hA hN hC], .int .i64 N, .int .i64 0]) = .returned (.tuple #[s.val, .int .i64 (openC T x z).2, .int .i64 V]) ∧ TabO ((wr.setCell ⟨w.heap.size + 1, 0, none⟩ (.slice RA (rn + 1) RC)).setCell ⟨w.heap.size + 1, 1, none⟩ (.slice hA hN hC)) w.heap.size s ∧ s.con = (openC T x z).1 ∧ Below w.heap.size w ((wr.setCell ⟨w.heap.size + 1, 0, none⟩ (.slice RA (rn + 1) RC)).setCell ⟨w.heap.size + 1, 1, none⟩ (.slice hA hN hC))) := by
                      show ∃ s : TabR, _
                      have hBE : Below w.heap.size w ((wr.setCell ⟨w.heap.size + 1, 0, none⟩ (.slice RA (rn + 1) RC)).setCell ⟨w.heap.size + 1, 1, none⟩ (.slice hA hN hC)) := ((HW8w.out.trans (HBX2.out.mono (by omega))).setCell (by simp only; omega) _).setCell (by simp only; omega) _
                      have hT9 : KeepsT 25 wr ((wr.setCell ⟨w.heap.size + 1, 0, none⟩ (.slice RA (rn + 1) RC)).setCell ⟨w.heap.size + 1, 1, none⟩ (.slice hA hN hC)) := (KeepsT.of_box kR).trans (KeepsT.of_box (kR.set_ 0 (.slice RA (rn + 1) RC)))
                      obtain ⟨W9, hW9⟩ : ∃ W, W = ((wr.setCell ⟨w.heap.size + 1, 0, none⟩ (.slice RA (rn + 1) RC)).setCell ⟨w.heap.size + 1, 1, none⟩ (.slice hA hN hC)) := ⟨_, rfl⟩
                      rw [← hW9] at hBE hT9 ⊢
                      clear hW9
                      have h1 : openC T x z = (openL T x z, openN T x) := by rw [HVC.out, if_pos HF.out]
                      have h2 : (⟨(rl ++ [(⟨x, N, z, ⟨none, 0, 0, []⟩, false⟩ : SesR)]).map SesR.con, hL⟩ : TabC) = openL T x z := by rw [HRF.out, HHL.out]; rfl
                      rw [h1, HF.out]
                      refine ⟨⟨⟨RA, (rn + 1), RC, rl ++ [(⟨x, N, z, ⟨none, 0, 0, []⟩, false⟩ : SesR)]⟩, ⟨hA, hN, hC, hL⟩⟩, ?_, ⟨⟨HLN.out, ?_⟩, fun y hy => ⟨(HSE.out y hy).1, ?_⟩, ⟨HLF.out, ?_⟩⟩, h2, hBE⟩
                      · rw [HNT.out]; rfl
                      · exact own_mono (hT9.own HRR.out (by decide)) (by omega)
                      · exact own_mono (hT9.own (own_below (HSE.out y hy).2 (by rw [HS8.out]; exact HBX2.out)) (by decide)) (by omega)
                      · exact own_mono (hT9.own hown.out (by decide)) (by omega)
                    obtain ⟨⟨r0, r1⟩, fr0, fr1⟩ := blk2T kR
                    obtain ⟨⟨y0, y1⟩, -⟩ := blk2T hkg.out
                    go_wp2_with (refine bodyPost_ret (v := (.tuple #[.agg #[.slice RA (rn + 1) RC, .slice hA hN hC], .int .i64 N, .int .i64 0])) (by have z0 := HKE.out.1; have z1 := HKE.out.2; simp [results, Tryd.results13, go_sem, z0, z1]) rfl HQQ.out)
                  | false =>
                    have HHL : Hid (hL ++ [(x, N)] = putH T.had x) := by
                      show _ = _
                      rw [← HHP.out, ← HFE.out]
                      rfl
                    have HLF := Lib.hid (show hN + 1 = (hL ++ [(x, N)]).length by rw [List.length_append, ← HLH.out]; rfl)
                    clear HHP HFE hg6
                    go_upto_region 38 with (at_builtin; (refine wpList_push _ rfl (.tmp 147) (.tmp 151) 23 rfl bx 38 j0 _ 2 24 Tryd.underlying23 hj0 hy0 hy1 hy2 rfl (by decide) (.slice hA hN hC) (hN) (cellsK encHad (hL)) rfl hown.out 1 #[.string ⟨x.toArray⟩, .int .i64 N] 38 rfl rfl (by intro u hu; simp at hu; rcases hu with rfl | rfl <;> rfl) (by unfold maxLen; omega) (by omega) hbxw2 ?_); intro v5 w5 hown5 hb5 hg5; (obtain ⟨A5, c5, rfl, hc5, -, -⟩ := own_form hown5); (have hk5 := Lib.hid (hkg.out.below hb5 (by omega))); (have hO5 := Lib.hid hown5); (have hB5 := Lib.hid hb5); (have hR5 := Lib.hid (own_other HRR.out hown.out (by decide) hg5)); (have hG5 := Lib.hid hg5); clear y0 y1 fy0 fy1 hown5 hb5 hg5; (obtain ⟨⟨y0, y1⟩, fy0, fy1⟩ := blk2T hk5.out))
                    obtain ⟨Y, hY⟩ : ∃ Y, Y = w5.setCell ⟨g11, 1, none⟩ (.slice A5 (hN + 1) c5) := ⟨_, rfl⟩
                    rw [← hY]
                    have hg6 := HG.out
                    have HOY : Hid (Y.ownsRow bx 38 2 (.slice A5 (hN + 1) c5) (hN + 1) (cellsK encHad (hL ++ [(x, N)]))) := by
                      show World.ownsRow _ _ _ _ _ _ _
                      rw [hY, cellsK_append, cellsK_one]
                      exact own_setCell_below hO5.out (by simp only; omega) _
                    have HRY : Hid (Y.ownsRow (g12 + 1) 33 5 (.slice RA (rn + 1) RC) ((rn + 1)) (cellsK encSes (rl ++ [(⟨x, N, z, ⟨none, 0, 0, []⟩, false⟩ : SesR)]))) := by
                      show World.ownsRow _ _ _ _ _ _ _
                      rw [hY]
                      exact own_setCell_below hR5.out (by simp only; omega) _
                    have HKY : Hid (Blk Y g11 25 #[.slice RA (rn + 1) RC, .slice A5 (hN + 1) c5]) := by
                      show Blk _ _ _ _
                      rw [hY]
                      exact hk5.out.set_ 1 _
                    have HBX2 : Hid (Below g11 W8 Y) := by
                      show Below _ _ _
                      rw [hY]
                      exact (hbw.out.trans (hB5.out.mono (by omega))).setCell (Nat.le_refl _) _
                    clear y0 y1 fy0 fy1 a0 a1 hkn hY
                    have kR := HKR8.out.below HBX2.out (by omega)
                    have hrg : w.heap.size + 1 ≠ g11 := by omega
                    have HKE : Hid (((Y.setCell ⟨w.heap.size + 1, 0, none⟩ (.slice RA (rn + 1) RC)).setCell ⟨w.heap.size + 1, 1, none⟩ (.slice A5 (hN + 1) c5)).cell? ⟨w.heap.size + 1, 0, none⟩ = some (.slice RA (rn + 1) RC) ∧ ((Y.setCell ⟨w.heap.size + 1, 0, none⟩ (.slice RA (rn + 1) RC)).setCell ⟨w.heap.size + 1, 1, none⟩ (.slice A5 (hN + 1) c5)).cell? ⟨w.heap.size + 1, 1, none⟩ = some (.slice A5 (hN + 1) c5)) := (blk2T ((kR.set_ 0 (.slice RA (rn + 1) RC)).set_ 1 (.slice A5 (hN + 1) c5))).1
                    have HQQ : Hid (∃ s : TabR, Ending.returned (.tuple #[.agg #[.slice RA (rn + 1) RC, .slice A5 (hN + 1) c5], .int .i64 N, .int .i64 0]) = .returned (.tuple #[s.val, .int .i64 (openC T x z).2, .int .i64 V]) ∧ TabO ((Y.setCell ⟨w.heap.size + 1, 0, none⟩ (.slice RA (rn + 1) RC)).setCell ⟨w.heap.size + 1, 1, none⟩ (.slice A5 (hN + 1) c5)) w.heap.size s ∧ s.con = (openC T x z).1 ∧ Below w.heap.size w ((Y.setCell ⟨w.heap.size + 1, 0, none⟩ (.slice RA (rn + 1) RC)).setCell ⟨w.heap.size + 1, 1, none⟩ (.slice A5 (hN + 1) c5))) := by
                      show ∃ s : TabR, _
                      have hBE : Below w.heap.size w ((Y.setCell ⟨w.heap.size + 1, 0, none⟩ (.slice RA (rn + 1) RC)).setCell ⟨w.heap.size + 1, 1, none⟩ (.slice A5 (hN + 1) c5)) := ((HW8w.out.trans (HBX2.out.mono (by omega))).setCell (by simp only; omega) _).setCell (by simp only; omega) _
                      have hT9 : KeepsT 25 Y ((Y.setCell ⟨w.heap.size + 1, 0, none⟩ (.slice RA (rn + 1) RC)).setCell ⟨w.heap.size + 1, 1, none⟩ (.slice A5 (hN + 1) c5)) := (KeepsT.of_box kR).trans (KeepsT.of_box (kR.set_ 0 (.slice RA (rn + 1) RC)))
                      obtain ⟨W9, hW9⟩ : ∃ W, W = ((Y.setCell ⟨w.heap.size + 1, 0, none⟩ (.slice RA (rn + 1) RC)).setCell ⟨w.heap.size + 1, 1, none⟩ (.slice A5 (hN + 1) c5)) := ⟨_, rfl⟩
                      rw [← hW9] at hBE hT9 ⊢
                      clear hW9
                      have h1 : openC T x z = (openL T x z, openN T x) := by rw [HVC.out, if_pos HF.out]
                      have h2 : (⟨(rl ++ [(⟨x, N, z, ⟨none, 0, 0, []⟩, false⟩ : SesR)]).map SesR.con, hL ++ [(x, N)]⟩ : TabC) = openL T x z := by rw [HRF.out, HHL.out]; rfl
                      rw [h1, HF.out]
                      refine ⟨⟨⟨RA, (rn + 1), RC, rl ++ [(⟨x, N, z, ⟨none, 0, 0, []⟩, false⟩ : SesR)]⟩, ⟨A5, (hN + 1), c5, hL ++ [(x, N)]⟩⟩, ?_, ⟨⟨HLN.out, ?_⟩, fun y hy => ⟨(HSE.out y hy).1, ?_⟩, ⟨HLF.out, ?_⟩⟩, h2, hBE⟩
                      · rw [HNT.out]; rfl
                      · exact own_mono (hT9.own HRY.out (by decide)) (by omega)
                      · exact own_mono (hT9.own (own_below (HSE.out y hy).2 (by rw [HS8.out]; exact HBX2.out)) (by decide)) (by omega)
                      · exact own_mono (hT9.own HOY.out (by decide)) (by omega)
                    obtain ⟨⟨r0, r1⟩, fr0, fr1⟩ := blk2T kR
                    obtain ⟨⟨y0, y1⟩, -⟩ := blk2T HKY.out
                    go_wp2_with (refine bodyPost_ret (v := (.tuple #[.agg #[.slice RA (rn + 1) RC, .slice A5 (hN + 1) c5], .int .i64 N, .int .i64 0])) (by have z0 := HKE.out.1; have z1 := HKE.out.2; simp [results, Tryd.results13, go_sem, z0, z1]) rfl HQQ.out)
end Go.Proofs.YtjdebhemoeojiaaDoor
