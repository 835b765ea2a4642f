/-
 tree.sets, by its contract.
-/
import Derived.Test.YteafdncnnamakaaGreatDoorQ4
import Derived.Test.YteafdncnnamakaaGreatDoorQ1
import Derived.Test.YteafdncnnamakaaGreatDoorBk1
import Derived.Test.YteafdncnnamakaaGreatDoorCls2
namespace Go.Proofs.YteafdncnnamakaaGreatDoor
open Go.RowKit

def prevT (l : List SetR) (k : Nat) : Option BS := match k with
 | 0 => none
 | j + 1 => (l[j]?).map (·.path)
theorem setsFrom_cons (all : List SetR) (p : Option BS) (s : SetR) (l : List SetR) : setsFrom all p (s :: l) = (setB all s && (match p with | none => true | some q => Op.bytesLess q s.path) && setsFrom all (some s.path) l) := by cases p <;> rfl
theorem setB_eq (all : List SetR) (s : SetR) : setB all s = (pathB s.path && (match parB s.path with | none => true | some u => all.any fun x => x.path == u) && propsB s.own.l && okL s.body.l && snapsB s.snaps.l && originP all s.path s.org) := rfl
theorem upL_len (l : BS) : (upL l).length ≤ l.length := by unfold upL; rw [List.length_take]; omega
set_option maxRecDepth 100000 in
set_option maxHeartbeats 8000000 in
theorem sets_any (v0 v1 v2 v4 v5 v6 : Value) (l : List SetR) (n : Nat) (hnl : n = l.length) (A : Option Addr) (c : Nat) (w : World) (B : Nat) (hr : Reads w B 5 A n (cellsK encSet l)) (he : ∀ y ∈ l, y.rd w B) (hB : B ≤ w.heap.size) (hn : n ≤ 1000000000000) (hv : ∀ y ∈ l, y.sz) (hmx : HasMax w) :
  Calls Tryz.prog 94 #[.agg #[v0, v1, v2, .slice A n c, v4, v5, v6]] w fun e w' => e = .returned (.bool (setsB l)) ∧ Below w.heap.size w w' := by
 have hb1 := (Below.refl w.heap.size w).alloc (Nat.le_refl _) (.cells #[v0, v1, v2, .slice A n c, v4, v5, v6] 27)
 have kT := Blk.new w 27 #[v0, v1, v2, .slice A n c, v4, v5, v6]
 obtain ⟨W1, hW1⟩ : ∃ W, W = w.alloc (.cells #[v0, v1, v2, .slice A n c, v4, v5, v6] 27) := ⟨_, rfl⟩
 have hsz1 : W1.heap.size = w.heap.size + 1 := by rw [hW1]; simp
 rw [← hW1] at hb1 kT
 have HN := Lib.hid hnl
 have HVB : Hid (setsB l = (decide (n ≤ 32) && (l.any fun x => x.path == []) && setsFrom l none l)) := by show _ = _; unfold setsB; rw [hnl]
 obtain ⟨V, hV⟩ : ∃ V, V = setsB l := ⟨_, rfl⟩
 rw [← hV] at HVB ⊢
 have hR := Lib.hid (fun (W' : World) (hB' : Below W1.heap.size W1 W') => (⟨hr.below ((hb1.trans (hB'.mono (by omega))).mono hB), hB'.size, hmx.below (hb1.trans (hB'.mono (by omega))), fun y hy => ⟨(he y hy).body.below ((hb1.trans (hB'.mono (by omega))).mono hB), (he y hy).snaps.below ((hb1.trans (hB'.mono (by omega))).mono hB), fun z hz => ⟨((he y hy).each z hz).body.below ((hb1.trans (hB'.mono (by omega))).mono hB), ((he y hy).each z hz).tags.below ((hb1.trans (hB'.mono (by omega))).mono hB), ((he y hy).each z hz).own.below ((hb1.trans (hB'.mono (by omega))).mono hB)⟩, (he y hy).own.below ((hb1.trans (hB'.mono (by omega))).mono hB)⟩⟩ : Reads W' B 5 A n (cellsK encSet l) ∧ W1.heap.size ≤ W'.heap.size ∧ HasMax W' ∧ ∀ y ∈ l, y.rd W' B))
 have hT := Lib.hid (fun (W' : World) (hB' : Below W1.heap.size W1 W') =>
  (⟨(kT.below hB' (by omega)).cell 0, (kT.below hB' (by omega)).cell 1, (kT.below hB' (by omega)).cell 2, (kT.below hB' (by omega)).cell 3, (kT.below hB' (by omega)).cell 4, (kT.below hB' (by omega)).cell 5, (kT.below hB' (by omega)).cell 6⟩ :
   W'.cell? ⟨w.heap.size, 0, none⟩ = some v0 ∧ W'.cell? ⟨w.heap.size, 1, none⟩ = some v1 ∧ W'.cell? ⟨w.heap.size, 2, none⟩ = some v2 ∧ W'.cell? ⟨w.heap.size, 3, none⟩ = some (.slice A n c) ∧ W'.cell? ⟨w.heap.size, 4, none⟩ = some v4 ∧ W'.cell? ⟨w.heap.size, 5, none⟩ = some v5 ∧ W'.cell? ⟨w.heap.size, 6, none⟩ = some v6))
 have HB0 := Lib.hid hb1
 have HSZ1 := Lib.hid hsz1
 have HVS := Lib.hid hv
 clear hnl hV hb1 kT hr he hv hsz1
 by_cases hn32 : 32 < n
 ·have hi : (32 : Int) < (n : Int) := by omega
  have HF : Hid (V = false) := by show _ = _; rw [HVB.out, decide_eq_false (by omega)]; rfl
  go_enter Tryz.func94, Tryz.ntmps94
  go_wp2_with fail
  rw [← hW1]
  go_ret
  exact ⟨by rw [HF.out]; rfl, HB0.out⟩
 have hi : ¬ (32 : Int) < (n : Int) := by omega
 have HVB2 : Hid (V = ((l.any fun x => x.path == []) && setsFrom l none l)) := by show _ = _; rw [HVB.out, decide_eq_true (by omega)]; rfl
 have hfi := find_any v0 v1 v2 v4 v5 v6 l n HN.out A c [] W1 B (hR.out _ (Below.refl _ _)).1 (by have := HSZ1.out; omega) (by omega)
 have hfa := firstI_any (fun x : SetR => x.path == []) l
 obtain ⟨z0, hz0⟩ : ∃ z, z = findS l [] := ⟨_, rfl⟩
 rw [show firstI (fun x : SetR => x.path == []) l = z0 from hz0.symm] at hfa
 rw [← hz0] at hfi
 clear hz0
 by_cases hz : z0 < 0
 ·have HF : Hid (V = false) := by show _ = _; rw [HVB2.out, ← hfa, decide_eq_false (by omega)]; rfl
  clear hfa
  go_enter Tryz.func94, Tryz.ntmps94
  go_wp2_with fail
  rw [← hW1]
  refine hfi.mono ?_
  rintro e w1 ⟨rfl, hb2⟩
  go_wp2_with fail
  go_ret
  exact ⟨by rw [HF.out]; rfl, HB0.out.trans (hb2.mono (by have := HSZ1.out; omega))⟩
 have HVB3 : Hid (V = setsFrom l none l) := by show _ = _; rw [HVB2.out, ← hfa, decide_eq_true (by omega)]; rfl
 clear hfa
 go_enter Tryz.func94, Tryz.ntmps94
 go_wp2_with fail
 rw [← hW1]
 refine hfi.mono ?_
 clear hfi
 rintro e w1 ⟨rfl, hb2⟩
 obtain ⟨t0, t1, t2, t3, t4, t5, t6⟩ := hT.out _ hb2
 go_wp2_with fail
 clear t0 t1 t2 t3 t4 t5 t6 hz
 go_loopw [19] (fun j wr => ∃ k : Nat, k ≤ n ∧ j = .int .i64 (k : Int) ∧ Hid (V = setsFrom l (prevT l k) (l.drop k)) ∧ Below W1.heap.size W1 wr) (fun j _ => n - (intOf j).toNat)
 case atStart => exact ⟨0, Nat.zero_le _, rfl, HVB3.out, hb2⟩
 case round =>
  clear hb2
  obtain ⟨k, hk, rfl, hok, hbw⟩ := hrel
  by_cases hlt : k < n
  ·obtain ⟨hrw, -, -, hew⟩ := hR.out _ hbw
   obtain ⟨ad, rfl, hadB, c0, c1, c2, c3, c4⟩ := set_at hrw HN.out hlt
   have hki : (k : Int) < (n : Int) := by omega
   have hkl : k < l.length := by have := HN.out; omega
   obtain ⟨x, hx⟩ : ∃ x, x = l[k]'hkl := ⟨_, rfl⟩
   have hxm : x ∈ l := by rw [hx]; exact List.getElem_mem _
   have hxs := HVS.out x hxm
   rw [← hx] at c0 c1 c2 c3 c4
   have hdr := List.drop_eq_getElem_cons hkl
   rw [← hx] at hdr
   have hbad : Hid ((pathB x.path = false ∨ (∃ y, prevT l k = some y ∧ Op.bytesLess y x.path = false) ∨ (∃ u, parB x.path = some u ∧ (l.any fun y => y.path == u) = false) ∨ propsB x.own.l = false ∨ okL x.body.l = false ∨ snapsB x.snaps.l = false ∨ originP l x.path x.org = false) → V = false) := by
    show _ → _
    intro h
    rw [hok.out, hdr, setsFrom_cons, setB_eq]
    rcases h with h | ⟨y, hy, h⟩ | ⟨u, hu, h⟩ | h | h | h | h
    ·rw [h]; simp
    ·rw [hy]; simp only [h]; simp
    ·rw [hu]; simp only [h]; simp
    ·rw [h]; simp
    ·rw [h]; simp
    ·rw [h]; simp
    ·rw [h]; simp
   have hgood : Hid (pathB x.path = true → (∀ y, prevT l k = some y → Op.bytesLess y x.path = true) → (∀ u, parB x.path = some u → (l.any fun y => y.path == u) = true) → propsB x.own.l = true → okL x.body.l = true → snapsB x.snaps.l = true → originP l x.path x.org = true → Hid (V = setsFrom l (prevT l (k + 1)) (l.drop (k + 1)))) := by
    show _ → _ → _ → _ → _ → _ → _ → _
    intro h1 h2 h3 h4 h5 h6 h7
    show _ = _
    rw [hok.out, hdr, setsFrom_cons, setB_eq]
    have hp : prevT l (k + 1) = some x.path := by
     show (l[k]?).map _ = _
     rw [List.getElem?_eq_getElem hkl, ← hx]
     rfl
    rw [hp, h1, h4, h5, h6, h7]
    cases hq : prevT l k with
    | none =>
     cases hu : parB x.path with
     | none => rfl
     | some u => simp only [h3 u hu]; rfl
    | some y =>
     simp only [h2 y hq]
     cases hu : parB x.path with
     | none => rfl
     | some u => simp only [h3 u hu]; rfl
   have hprev : (decide ((0 : Int) < (k : Int)) = false ∧ decide (0 < k) = false ∧ Hid (∀ y, prevT l k = some y → Op.bytesLess y x.path = true)) ∨ (decide ((0 : Int) < (k : Int)) = true ∧ decide (0 < k) = true ∧ (1 : Int) ≤ (k : Int) ∧ (k : Int) - 1 < (n : Int) ∧ IntKind.i64.wrap ((k : Int) - 1) = (k : Int) - 1 ∧ ((k : Int) - 1).toNat = k - 1 ∧ ∃ yp, Hid ((Op.bytesLess yp x.path = true → ∀ y, prevT l k = some y → Op.bytesLess y x.path = true) ∧ (Op.bytesLess yp x.path = false → ∃ y, prevT l k = some y ∧ Op.bytesLess y x.path = false)) ∧ Hid (∃ h : k - 1 < l.length, yp = (l[k - 1]'h).path)) := by
    rcases Nat.eq_zero_or_pos k with h0 | h0
    ·exact .inl ⟨by simp; omega, by simp; omega, (fun y hy => by subst h0; cases hy)⟩
    ·have hk1l : k - 1 < l.length := by omega
     have hpv : prevT l k = some (l[k - 1]'hk1l).path := by
      obtain ⟨j, rfl⟩ : ∃ j, k = j + 1 := ⟨k - 1, by omega⟩
      show (l[j]?).map _ = _
      have hj : j < l.length := by simpa using hk1l
      rw [List.getElem?_eq_getElem hj]
      rfl
     refine .inr ⟨by simp; omega, by simp; omega, by omega, by omega, IntWalk.i64_in _ (by omega), by omega, (l[k - 1]'hk1l).path, ?_, ⟨hk1l, rfl⟩⟩
     exact ⟨fun h y hy => by rw [hpv] at hy; cases hy; exact h, fun h => ⟨_, hpv, h⟩⟩
   obtain ⟨W0, hW0⟩ : ∃ W0, W0 = wr.alloc (.cells #[.string ⟨x.path.toArray⟩, .string ⟨x.org.toArray⟩, .slice x.body.A x.body.n x.body.c, .slice x.snaps.A x.snaps.n x.snaps.c, .slice x.own.A x.own.n x.own.c] 63) := ⟨_, rfl⟩
   have hblk : Blk W0 wr.heap.size 63 #[.string ⟨x.path.toArray⟩, .string ⟨x.org.toArray⟩, .slice x.body.A x.body.n x.body.c, .slice x.snaps.A x.snaps.n x.snaps.c, .slice x.own.A x.own.n x.own.c] := by rw [hW0]; exact Blk.new wr _ _
   have hszW : W0.heap.size = wr.heap.size + 1 := by rw [hW0]; show (wr.heap.push _).size = _; rw [Array.size_push]
   have hlt0 : wr.heap.size < W0.heap.size := by omega
   have HSZ := Lib.hid hszW
   have hwr := hbw.size
   have hsz1 := HSZ1.out
   have hb1W : Below W1.heap.size W1 W0 := by rw [hW0]; exact hbw.alloc hbw.size _
   have hbW := HB0.out.trans (hb1W.mono (by omega))
   have HB1 := Lib.hid hb1W
   have hto : Hid (∀ W, Below W0.heap.size W0 W → Below W1.heap.size W1 W) := fun W hb => hb1W.trans (hb.mono (by omega))
   have hPa : Hid (∀ W, Below W0.heap.size W0 W → Calls Tryz.prog 70 #[.string ⟨x.path.toArray⟩] W fun e W' => e = .returned (.bool (pathB x.path)) ∧ Below W.heap.size W W') := fun W hb =>
    path_any ⟨x.path.toArray⟩ W (by show x.path.length ≤ _; exact hxs.path) (hR.out _ (hto.out _ hb)).2.2.1
   have hPn : Hid (∀ W, Below W0.heap.size W0 W → Calls Tryz.prog 25 #[.string ⟨x.path.toArray⟩] W fun e W' => Below W.heap.size W W' ∧ ((x.path = [] ∨ pathB x.path = false) ∧ e = .returned (.tuple #[.string ⟨#[]⟩, .bool false]) ∨ x.path ≠ [] ∧ pathB x.path = true ∧ e = .returned (.tuple #[.string ⟨(upL x.path).toArray⟩, .bool true]))) := fun W hb =>
    parent_any ⟨x.path.toArray⟩ W (by show x.path.length ≤ _; exact hxs.path) (hR.out _ (hto.out _ hb)).2.2.1
   have hFi : Hid (∀ W, Below W0.heap.size W0 W → Calls Tryz.prog 26 #[.agg #[v0, v1, v2, .slice (some ad) n c, v4, v5, v6], .string ⟨(upL x.path).toArray⟩] W fun e W' => e = .returned (.int .i64 (findS l (upL x.path))) ∧ Below W.heap.size W W') := fun W hb =>
    find_any v0 v1 v2 v4 v5 v6 l n HN.out (some ad) c (upL x.path) W B (hR.out _ (hto.out _ hb)).1 (by have := hb.size; omega) (by omega)
   have hBk : Hid (∀ W, Below W0.heap.size W0 W → Calls Tryz.prog 105 #[.slice x.body.A x.body.n x.body.c] W fun e W' => e = .returned (.int .i64 (if okL x.body.l = true then 0 else 9)) ∧ Below W.heap.size W W') := fun W hb => by
    have hrd := (hR.out _ (hto.out _ hb)).2.2.2 x hxm
    exact checkBk_any x.body.l x.body.n hrd.body.1 x.body.A x.body.c W B hrd.body.2.2 (by have := hb.size; omega) (by have := hxs.body; omega)
   have hPr : Hid (∀ W, Below W0.heap.size W0 W → Calls Tryz.prog 121 #[.slice x.own.A x.own.n x.own.c] W fun e W' => e = .returned (.int .i64 (if propsB x.own.l = true then 0 else 9)) ∧ Below W.heap.size W W') := fun W hb => by
    have hrd := (hR.out _ (hto.out _ hb)).2.2.2 x hxm
    exact checkP_any x.own.l x.own.n hrd.own.1 x.own.A x.own.c W B hrd.own.2.2 (by have := hb.size; omega) (by have := hxs.own; omega) (fun p hp => by have := hxs.props p hp; omega)
   have hSn : Hid (∀ W, Below W0.heap.size W0 W → Calls Tryz.prog 142 #[.slice x.snaps.A x.snaps.n x.snaps.c] W fun e W' => e = .returned (.bool (snapsB x.snaps.l)) ∧ Below W.heap.size W W') := fun W hb => by
    have hrd := (hR.out _ (hto.out _ hb)).2.2.2 x hxm
    exact snaps_any x.snaps.l x.snaps.n hrd.snaps.1 x.snaps.A x.snaps.c W B hrd.snaps.2.2 hrd.each (by have := hb.size; omega) hxs.snaps hxs.each
   have hOr : Hid (∀ W, Below W0.heap.size W0 W → Calls Tryz.prog 143 #[.agg #[v0, v1, v2, .slice (some ad) n c, v4, v5, v6], .agg #[.string ⟨x.path.toArray⟩, .string ⟨x.org.toArray⟩, .slice x.body.A x.body.n x.body.c, .slice x.snaps.A x.snaps.n x.snaps.c, .slice x.own.A x.own.n x.own.c]] W fun e W' => e = .returned (.bool (originP l x.path x.org)) ∧ Below W.heap.size W W') := fun W hb => by
    obtain ⟨r1, -, r3, r4⟩ := hR.out _ (hto.out _ hb)
    exact origin_any v0 v1 v2 v4 v5 v6 _ _ _ l n HN.out (some ad) c x.path x.org W B r1 r4 (by have := hb.size; omega) hn HVS.out hxs.org r3
   have hS : Hid (∀ W, Below W0.heap.size W0 W → W.cell? ⟨w.heap.size, 0, none⟩ = some v0 ∧ W.cell? ⟨w.heap.size, 1, none⟩ = some v1 ∧ W.cell? ⟨w.heap.size, 2, none⟩ = some v2 ∧ W.cell? ⟨w.heap.size, 3, none⟩ = some (.slice (some ad) n c) ∧ W.cell? ⟨w.heap.size, 4, none⟩ = some v4 ∧ W.cell? ⟨w.heap.size, 5, none⟩ = some v5 ∧ W.cell? ⟨w.heap.size, 6, none⟩ = some v6 ∧
     W.cell? ⟨wr.heap.size, 0, none⟩ = some (.string ⟨x.path.toArray⟩) ∧ W.cell? ⟨wr.heap.size, 1, none⟩ = some (.string ⟨x.org.toArray⟩) ∧ W.cell? ⟨wr.heap.size, 2, none⟩ = some (.slice x.body.A x.body.n x.body.c) ∧ W.cell? ⟨wr.heap.size, 3, none⟩ = some (.slice x.snaps.A x.snaps.n x.snaps.c) ∧ W.cell? ⟨wr.heap.size, 4, none⟩ = some (.slice x.own.A x.own.n x.own.c) ∧
     ∀ yp, (∃ h : k - 1 < l.length, yp = (l[k - 1]'h).path) → W.cell? (ad.add ((k - 1) * 5)) = some (.string ⟨yp.toArray⟩)) := by
    show ∀ W, _ → _
    intro W hb
    have hb2 := hblk.below hb hlt0
    obtain ⟨t0, t1, t2, t3, t4, t5, t6⟩ := hT.out _ (hto.out _ hb)
    refine ⟨t0, t1, t2, t3, t4, t5, t6, hb2.cell 0, hb2.cell 1, hb2.cell 2, hb2.cell 3, hb2.cell 4, ?_⟩
    rintro yp ⟨h, rfl⟩
    obtain ⟨ad2, e2, -, p1, -⟩ := set_at (hR.out _ (hto.out _ hb)).1 HN.out (i := k - 1) (by omega)
    injection e2 with e2
    subst e2
    exact p1
   have HFL : Hid (∀ u, parB x.path = some u → (findS l u < 0 → (l.any fun y => y.path == u) = false) ∧ (0 ≤ findS l u → (l.any fun y => y.path == u) = true)) := by
    show ∀ u, _ → _
    intro u _
    have := firstI_any (fun y : SetR => y.path == u) l
    rw [← this]
    exact ⟨fun h => decide_eq_false (by show ¬ (0 : Int) ≤ findS l u; omega), fun h => decide_eq_true h⟩
   obtain ⟨xp, xo, ⟨b1, b2, b3, bl⟩, ⟨s1, s2, s3, sl⟩, ⟨o1, o2, o3, ol⟩⟩ := x
   simp only at c0 c1 c2 c3 c4 hbad hgood hprev hW0 hBk hPr hPa hPn hFi hSn hOr hS HFL
   clear hx hdr hok hxm hxs hblk hrw hew hR hT hto hi
   obtain ⟨bB, hbB⟩ : ∃ b, b = okL bl := ⟨_, rfl⟩
   obtain ⟨bP, hbP⟩ : ∃ b, b = propsB ol := ⟨_, rfl⟩
   obtain ⟨bS, hbS⟩ : ∃ b, b = snapsB sl := ⟨_, rfl⟩
   obtain ⟨bO, hbO⟩ : ∃ b, b = originP l xp xo := ⟨_, rfl⟩
   rw [← hbB] at hbad hgood hBk
   rw [← hbP] at hbad hgood hPr
   rw [← hbS] at hbad hgood hSn
   rw [← hbO] at hbad hgood hOr
   clear hbB hbP hbS hbO
   have hpn := hPn.out _ (Below.refl _ _)
   clear hPn
   go_wp2_with fail
   rw [← hW0]
   clear hW0 hszW c0 c1 c2 c3 c4
   refine hpn.mono ?_
   clear hpn
   rintro e w4 ⟨hb4, ⟨hpar, rfl⟩ | ⟨hne, hpb, rfl⟩⟩
   ·have HFL : Hid (∀ u, parB xp = some u → (l.any fun y => y.path == u) = true) := by
     show ∀ u, _ → _
     intro u hu
     unfold parB at hu
     rw [if_pos hpar] at hu
     cases hu
    obtain ⟨bPa, hbPa⟩ : ∃ b, b = pathB xp := ⟨_, rfl⟩
    rw [← hbPa] at hbad hgood hPa
    clear hbPa hpar hFi
    go_wp2_with fail
    refine wpC_region (fun W' => Below W0.heap.size W0 W') (by kernel_rfl) (by kernel_rfl) (hb4.drew) (fun OPS D QQ HO hD hD2 hQQ => ?_)
    have hgo4 : Hid ((OPS[4]?).bind (·.dst) = some 35) := by show _ = _; rw [HO.out]; rfl
    have hgo7 : Hid ((OPS[7]?).bind (·.dst) = some 38) := by show _ = _; rw [HO.out]; rfl
    have hgo20 : Hid ((OPS[20]?).bind (·.dst) = some 51) := by show _ = _; rw [HO.out]; rfl
    have hgo22 : Hid ((OPS[22]?).bind (·.dst) = some 53) := by show _ = _; rw [HO.out]; rfl
    clear HO
    have HD := Lib.hid hD
    have HD2 := Lib.hid hD2
    have HQQ := Lib.hid hQQ
    clear hD hD2 hQQ
    refine wpC_read (v := ?_) rfl (fun W hW => ?_) ?_
    rotate_left
    ·clear hW; go_simp; try (with_reducible rfl)
    try simp only [Act.put, List.setIfInBounds_toArray, List.set_cons_zero, List.set_cons_succ]
    refine wpC_read (v := ?_) rfl (fun W hW => ?_) ?_
    rotate_left
    ·replace hW := HD.out W hW
     obtain ⟨t0, t1, t2, t3, t4, t5, t6, q0, q1, q2, q3, q4, qp⟩ := hS.out W hW
     go_simp; try (with_reducible rfl)
    try simp only [Act.put, List.setIfInBounds_toArray, List.set_cons_zero, List.set_cons_succ]
    cases bPa with
    | false =>
     have HB := Lib.hid (hbad.out (.inl rfl))
     refine wpC_read (v := .bool false) rfl (fun W hW => ?_) ?_
     ·replace hW := HD.out W hW
      obtain ⟨t0, t1, t2, t3, t4, t5, t6, q0, q1, q2, q3, q4, qp⟩ := hS.out W hW
      go_simp
      refine (hPa.out _ hW).mono ?_
      rintro e w5 ⟨rfl, hbn⟩
      exact ⟨rfl, HD2.out _ (below_step hW hbn)⟩
     try simp only [Act.put, List.setIfInBounds_toArray, List.set_cons_zero, List.set_cons_succ]
     refine wpC_read (v := ?_) rfl (fun W hW => ?_) ?_
     rotate_left
     ·clear hW; go_simp; try (with_reducible rfl)
     try simp only [Act.put, List.setIfInBounds_toArray, List.set_cons_zero, List.set_cons_succ]
     refine wpC_read (v := ?_) rfl (fun W hW => ?_) ?_
     rotate_left
     ·clear hW; go_simp; try (with_reducible rfl)
     try simp only [Act.put, List.setIfInBounds_toArray, List.set_cons_zero, List.set_cons_succ]
     refine wpC_skip rfl hgo4.out (.inl rfl) ?_
     try simp only [Act.put, List.setIfInBounds_toArray, List.set_cons_zero, List.set_cons_succ]
     refine wpC_skip rfl hgo4.out (.inl rfl) ?_
     try simp only [Act.put, List.setIfInBounds_toArray, List.set_cons_zero, List.set_cons_succ]
     refine wpC_skip rfl hgo4.out (.inl rfl) ?_
     try simp only [Act.put, List.setIfInBounds_toArray, List.set_cons_zero, List.set_cons_succ]
     refine wpC_skip rfl hgo7.out (.inr rfl) ?_
     try simp only [Act.put, List.setIfInBounds_toArray, List.set_cons_zero, List.set_cons_succ]
     refine wpC_skip rfl hgo7.out (.inr rfl) ?_
     try simp only [Act.put, List.setIfInBounds_toArray, List.set_cons_zero, List.set_cons_succ]
     refine wpC_skip rfl hgo7.out (.inr rfl) ?_
     try simp only [Act.put, List.setIfInBounds_toArray, List.set_cons_zero, List.set_cons_succ]
     refine wpC_skip rfl hgo7.out (.inr rfl) ?_
     try simp only [Act.put, List.setIfInBounds_toArray, List.set_cons_zero, List.set_cons_succ]
     refine wpC_skip rfl hgo7.out (.inr rfl) ?_
     try simp only [Act.put, List.setIfInBounds_toArray, List.set_cons_zero, List.set_cons_succ]
     refine wpC_skip rfl hgo7.out (.inr rfl) ?_
     try simp only [Act.put, List.setIfInBounds_toArray, List.set_cons_zero, List.set_cons_succ]
     refine wpC_skip rfl hgo7.out (.inr rfl) ?_
     try simp only [Act.put, List.setIfInBounds_toArray, List.set_cons_zero, List.set_cons_succ]
     refine wpC_skip rfl hgo7.out (.inr rfl) ?_
     try simp only [Act.put, List.setIfInBounds_toArray, List.set_cons_zero, List.set_cons_succ]
     refine wpC_skip rfl hgo7.out (.inr rfl) ?_
     try simp only [Act.put, List.setIfInBounds_toArray, List.set_cons_zero, List.set_cons_succ]
     refine wpC_skip rfl hgo7.out (.inr rfl) ?_
     try simp only [Act.put, List.setIfInBounds_toArray, List.set_cons_zero, List.set_cons_succ]
     refine wpC_skip rfl hgo4.out (.inl rfl) ?_
     try simp only [Act.put, List.setIfInBounds_toArray, List.set_cons_zero, List.set_cons_succ]
     refine wpC_read (v := ?_) rfl (fun W hW => ?_) ?_
     rotate_left
     ·clear hW; go_simp; try (with_reducible rfl)
     try simp only [Act.put, List.setIfInBounds_toArray, List.set_cons_zero, List.set_cons_succ]
     refine wpC_read (v := ?_) rfl (fun W hW => ?_) ?_
     rotate_left
     ·clear hW; go_simp; try (with_reducible rfl)
     try simp only [Act.put, List.setIfInBounds_toArray, List.set_cons_zero, List.set_cons_succ]
     refine wpC_skip rfl hgo20.out (.inl rfl) ?_
     try simp only [Act.put, List.setIfInBounds_toArray, List.set_cons_zero, List.set_cons_succ]
     refine wpC_skip rfl hgo20.out (.inl rfl) ?_
     try simp only [Act.put, List.setIfInBounds_toArray, List.set_cons_zero, List.set_cons_succ]
     refine wpC_skip rfl hgo22.out (.inr rfl) ?_
     try simp only [Act.put, List.setIfInBounds_toArray, List.set_cons_zero, List.set_cons_succ]
     refine wpC_skip rfl hgo22.out (.inr rfl) ?_
     try simp only [Act.put, List.setIfInBounds_toArray, List.set_cons_zero, List.set_cons_succ]
     refine wpC_skip rfl hgo22.out (.inr rfl) ?_
     try simp only [Act.put, List.setIfInBounds_toArray, List.set_cons_zero, List.set_cons_succ]
     refine wpC_skip rfl hgo22.out (.inr rfl) ?_
     try simp only [Act.put, List.setIfInBounds_toArray, List.set_cons_zero, List.set_cons_succ]
     refine wpC_skip rfl hgo20.out (.inl rfl) ?_
     try simp only [Act.put, List.setIfInBounds_toArray, List.set_cons_zero, List.set_cons_succ]
     refine wpC_read (v := ?_) rfl (fun W hW => ?_) ?_
     rotate_left
     ·clear hW; go_simp; try (with_reducible rfl)
     try simp only [Act.put, List.setIfInBounds_toArray, List.set_cons_zero, List.set_cons_succ]
     refine wpC_read (v := ?_) rfl (fun W hW => ?_) ?_
     rotate_left
     ·clear hW; go_simp; try (with_reducible rfl)
     try simp only [Act.put, List.setIfInBounds_toArray, List.set_cons_zero, List.set_cons_succ]
     refine wpQuiet_nil (HQQ.out _ (fun W hW => ?_))
     obtain ⟨t0, t1, t2, t3, t4, t5, t6, q0, q1, q2, q3, q4, qp⟩ := hS.out W hW
     go_wp2_with fail
     go_ret
     exact ⟨by rw [HB.out]; rfl, hbW.trans (hW.mono (by have := HSZ.out; omega))⟩
    | true =>
     refine wpC_read (v := .bool true) rfl (fun W hW => ?_) ?_
     ·replace hW := HD.out W hW
      obtain ⟨t0, t1, t2, t3, t4, t5, t6, q0, q1, q2, q3, q4, qp⟩ := hS.out W hW
      go_simp
      refine (hPa.out _ hW).mono ?_
      rintro e w5 ⟨rfl, hbn⟩
      exact ⟨rfl, HD2.out _ (below_step hW hbn)⟩
     try simp only [Act.put, List.setIfInBounds_toArray, List.set_cons_zero, List.set_cons_succ]
     refine wpC_read (v := ?_) rfl (fun W hW => ?_) ?_
     rotate_left
     ·clear hW; go_simp; try (with_reducible rfl)
     try simp only [Act.put, List.setIfInBounds_toArray, List.set_cons_zero, List.set_cons_succ]
     refine wpC_read (v := ?_) rfl (fun W hW => ?_) ?_
     rotate_left
     ·clear hW; go_simp; try (with_reducible rfl)
     try simp only [Act.put, List.setIfInBounds_toArray, List.set_cons_zero, List.set_cons_succ]
     refine wpC_gread (v := ?_) rfl hgo4.out rfl (fun W hW => ?_) ?_
     rotate_left
     ·clear hW; go_simp; try (with_reducible rfl)
     try simp only [Act.put, List.setIfInBounds_toArray, List.set_cons_zero, List.set_cons_succ]
     rcases hprev with ⟨d4, d4', d5⟩ | ⟨d4, d4', i1, i2, i3, i4, yp, d5, d6⟩
     ·refine wpC_gread (v := ?_) rfl hgo4.out rfl (fun W hW => ?_) ?_
      rotate_left
      ·clear hW; go_simp; try (with_reducible rfl)
      try simp only [Act.put, List.setIfInBounds_toArray, List.set_cons_zero, List.set_cons_succ]
      refine wpC_gread (v := ?_) rfl hgo4.out rfl (fun W hW => ?_) ?_
      rotate_left
      ·clear hW; go_simp; try (with_reducible rfl)
      try simp only [Act.put, List.setIfInBounds_toArray, List.set_cons_zero, List.set_cons_succ]
      refine wpC_skip rfl hgo7.out (.inl rfl) ?_
      try simp only [Act.put, List.setIfInBounds_toArray, List.set_cons_zero, List.set_cons_succ]
      refine wpC_skip rfl hgo7.out (.inl rfl) ?_
      try simp only [Act.put, List.setIfInBounds_toArray, List.set_cons_zero, List.set_cons_succ]
      refine wpC_skip rfl hgo7.out (.inl rfl) ?_
      try simp only [Act.put, List.setIfInBounds_toArray, List.set_cons_zero, List.set_cons_succ]
      refine wpC_skip rfl hgo7.out (.inl rfl) ?_
      try simp only [Act.put, List.setIfInBounds_toArray, List.set_cons_zero, List.set_cons_succ]
      refine wpC_skip rfl hgo7.out (.inl rfl) ?_
      try simp only [Act.put, List.setIfInBounds_toArray, List.set_cons_zero, List.set_cons_succ]
      refine wpC_skip rfl hgo7.out (.inl rfl) ?_
      try simp only [Act.put, List.setIfInBounds_toArray, List.set_cons_zero, List.set_cons_succ]
      refine wpC_skip rfl hgo7.out (.inl rfl) ?_
      try simp only [Act.put, List.setIfInBounds_toArray, List.set_cons_zero, List.set_cons_succ]
      refine wpC_skip rfl hgo7.out (.inl rfl) ?_
      try simp only [Act.put, List.setIfInBounds_toArray, List.set_cons_zero, List.set_cons_succ]
      refine wpC_skip rfl hgo7.out (.inl rfl) ?_
      try simp only [Act.put, List.setIfInBounds_toArray, List.set_cons_zero, List.set_cons_succ]
      refine wpC_skip rfl hgo7.out (.inl rfl) ?_
      try simp only [Act.put, List.setIfInBounds_toArray, List.set_cons_zero, List.set_cons_succ]
      refine wpC_gread (v := ?_) rfl hgo4.out rfl (fun W hW => ?_) ?_
      rotate_left
      ·clear hW; go_simp; try (with_reducible rfl)
      try simp only [Act.put, List.setIfInBounds_toArray, List.set_cons_zero, List.set_cons_succ]
      refine wpC_read (v := ?_) rfl (fun W hW => ?_) ?_
      rotate_left
      ·clear hW; go_simp; try (with_reducible rfl)
      try simp only [Act.put, List.setIfInBounds_toArray, List.set_cons_zero, List.set_cons_succ]
      refine wpC_read (v := ?_) rfl (fun W hW => ?_) ?_
      rotate_left
      ·clear hW; go_simp; try (with_reducible rfl)
      try simp only [Act.put, List.setIfInBounds_toArray, List.set_cons_zero, List.set_cons_succ]
      refine wpC_gread (v := ?_) rfl hgo20.out rfl (fun W hW => ?_) ?_
      rotate_left
      ·clear hW; go_simp; try (with_reducible rfl)
      try simp only [Act.put, List.setIfInBounds_toArray, List.set_cons_zero, List.set_cons_succ]
      refine wpC_gread (v := ?_) rfl hgo20.out rfl (fun W hW => ?_) ?_
      rotate_left
      ·clear hW; go_simp; try (with_reducible rfl)
      try simp only [Act.put, List.setIfInBounds_toArray, List.set_cons_zero, List.set_cons_succ]
      refine wpC_skip rfl hgo22.out (.inl rfl) ?_
      try simp only [Act.put, List.setIfInBounds_toArray, List.set_cons_zero, List.set_cons_succ]
      refine wpC_skip rfl hgo22.out (.inl rfl) ?_
      try simp only [Act.put, List.setIfInBounds_toArray, List.set_cons_zero, List.set_cons_succ]
      refine wpC_skip rfl hgo22.out (.inl rfl) ?_
      try simp only [Act.put, List.setIfInBounds_toArray, List.set_cons_zero, List.set_cons_succ]
      refine wpC_skip rfl hgo22.out (.inl rfl) ?_
      try simp only [Act.put, List.setIfInBounds_toArray, List.set_cons_zero, List.set_cons_succ]
      refine wpC_gread (v := ?_) rfl hgo20.out rfl (fun W hW => ?_) ?_
      rotate_left
      ·clear hW; go_simp; try (with_reducible rfl)
      try simp only [Act.put, List.setIfInBounds_toArray, List.set_cons_zero, List.set_cons_succ]
      refine wpC_read (v := ?_) rfl (fun W hW => ?_) ?_
      rotate_left
      ·clear hW; go_simp; try (with_reducible rfl)
      try simp only [Act.put, List.setIfInBounds_toArray, List.set_cons_zero, List.set_cons_succ]
      refine wpC_read (v := ?_) rfl (fun W hW => ?_) ?_
      rotate_left
      ·clear hW; go_simp; try (with_reducible rfl)
      try simp only [Act.put, List.setIfInBounds_toArray, List.set_cons_zero, List.set_cons_succ]
      refine wpQuiet_nil (HQQ.out _ (fun W hW => ?_))
      obtain ⟨t0, t1, t2, t3, t4, t5, t6, q0, q1, q2, q3, q4, qp⟩ := hS.out W hW
      have HGO := Lib.hid (d5.out)
      have HPAR := Lib.hid (HFL.out)
      cases bP with
      | false =>
       have HB := Lib.hid (hbad.out (.inr (.inr (.inr (.inl rfl)))))
       have hc := hPr.out _ hW
       rw [if_neg (by decide)] at hc
       go_wp2_with fail
       refine (hc).mono ?_
       rintro e w6 ⟨rfl, hb6⟩
       have hWw6 := hW.trans (hb6.mono hW.size)
       clear hb6 t0 t1 t2 t3 t4 t5 t6 q0 q1 q2 q3 q4 qp
       obtain ⟨t0, t1, t2, t3, t4, t5, t6, q0, q1, q2, q3, q4, qp⟩ := hS.out _ hWw6
       go_wp2_with fail
       go_ret
       exact ⟨by rw [HB.out]; rfl, hbW.trans (hWw6.mono (by have := HSZ.out; omega))⟩
      | true =>
       have hc := hPr.out _ hW
       rw [if_pos rfl] at hc
       go_wp2_with fail
       refine (hc).mono ?_
       rintro e w6 ⟨rfl, hb6⟩
       have hWw6 := hW.trans (hb6.mono hW.size)
       clear hb6 t0 t1 t2 t3 t4 t5 t6 q0 q1 q2 q3 q4 qp
       obtain ⟨t0, t1, t2, t3, t4, t5, t6, q0, q1, q2, q3, q4, qp⟩ := hS.out _ hWw6
       clear hc
       have hc := hBk.out _ hWw6
       cases bB with
       | false =>
        have HB := Lib.hid (hbad.out (.inr (.inr (.inr (.inr (.inl rfl))))))
        rw [if_neg (by decide)] at hc
        go_wp2_with fail
        refine (hc).mono ?_
        rintro e w7 ⟨rfl, hb7⟩
        have hWw7 := hWw6.trans (hb7.mono hWw6.size)
        clear hb7 t0 t1 t2 t3 t4 t5 t6 q0 q1 q2 q3 q4 qp
        obtain ⟨t0, t1, t2, t3, t4, t5, t6, q0, q1, q2, q3, q4, qp⟩ := hS.out _ hWw7
        go_wp2_with fail
        go_ret
        exact ⟨by rw [HB.out]; rfl, hbW.trans (hWw7.mono (by have := HSZ.out; omega))⟩
       | true =>
        rw [if_pos rfl] at hc
        go_wp2_with fail
        refine (hc).mono ?_
        rintro e w7 ⟨rfl, hb7⟩
        have hWw7 := hWw6.trans (hb7.mono hWw6.size)
        clear hb7 t0 t1 t2 t3 t4 t5 t6 q0 q1 q2 q3 q4 qp
        obtain ⟨t0, t1, t2, t3, t4, t5, t6, q0, q1, q2, q3, q4, qp⟩ := hS.out _ hWw7
        clear hc
        have hc := hSn.out _ hWw7
        cases bS with
        | false =>
         have HB := Lib.hid (hbad.out (.inr (.inr (.inr (.inr (.inr (.inl rfl)))))))
         go_wp2_with fail
         refine (hc).mono ?_
         rintro e w8 ⟨rfl, hb8⟩
         have hWw8 := hWw7.trans (hb8.mono hWw7.size)
         clear hb8 t0 t1 t2 t3 t4 t5 t6 q0 q1 q2 q3 q4 qp
         obtain ⟨t0, t1, t2, t3, t4, t5, t6, q0, q1, q2, q3, q4, qp⟩ := hS.out _ hWw8
         go_wp2_with fail
         go_ret
         exact ⟨by rw [HB.out]; rfl, hbW.trans (hWw8.mono (by have := HSZ.out; omega))⟩
        | true =>
         go_wp2_with fail
         refine (hc).mono ?_
         rintro e w8 ⟨rfl, hb8⟩
         have hWw8 := hWw7.trans (hb8.mono hWw7.size)
         clear hb8 t0 t1 t2 t3 t4 t5 t6 q0 q1 q2 q3 q4 qp
         obtain ⟨t0, t1, t2, t3, t4, t5, t6, q0, q1, q2, q3, q4, qp⟩ := hS.out _ hWw8
         clear hc
         have hc := hOr.out _ hWw8
         cases bO with
         | false =>
          have HB := Lib.hid (hbad.out (.inr (.inr (.inr (.inr (.inr (.inr rfl)))))))
          go_wp2_with fail
          refine (hc).mono ?_
          rintro e w9 ⟨rfl, hb9⟩
          have hWw9 := hWw8.trans (hb9.mono hWw8.size)
          clear hb9 t0 t1 t2 t3 t4 t5 t6 q0 q1 q2 q3 q4 qp
          obtain ⟨t0, t1, t2, t3, t4, t5, t6, q0, q1, q2, q3, q4, qp⟩ := hS.out _ hWw9
          go_wp2_with fail
          go_ret
          exact ⟨by rw [HB.out]; rfl, hbW.trans (hWw9.mono (by have := HSZ.out; omega))⟩
         | true =>
          have HGG := Lib.hid (hgood.out (by trivial) HGO.out HPAR.out (by trivial) (by trivial) (by trivial) (by trivial))
          go_wp2_with fail
          refine (hc).mono ?_
          rintro e w9 ⟨rfl, hb9⟩
          have hWw9 := hWw8.trans (hb9.mono hWw8.size)
          clear hb9 t0 t1 t2 t3 t4 t5 t6 q0 q1 q2 q3 q4 qp
          obtain ⟨t0, t1, t2, t3, t4, t5, t6, q0, q1, q2, q3, q4, qp⟩ := hS.out _ hWw9
          have hbf := HB1.out.trans (hWw9.mono (by have := HSZ.out; have := HB1.out.size; omega))
          clear hc
          go_wp2_with fail
          go_roundw
          case rel => exact ⟨k + 1, by omega, by go_num, HGG.out, hbf⟩
          case measure => simp [intOf]; omega
     ·have hge := geqS 9 yp xp
      refine wpC_gread (v := ?_) rfl hgo4.out rfl (fun W hW => ?_) ?_
      rotate_left
      ·clear hW; go_simp; try (with_reducible rfl)
      try simp only [Act.put, List.setIfInBounds_toArray, List.set_cons_zero, List.set_cons_succ]
      refine wpC_gread (v := ?_) rfl hgo4.out rfl (fun W hW => ?_) ?_
      rotate_left
      ·clear hW; go_simp; try (with_reducible rfl)
      try simp only [Act.put, List.setIfInBounds_toArray, List.set_cons_zero, List.set_cons_succ]
      refine wpC_gread (v := ?_) rfl hgo7.out rfl (fun W hW => ?_) ?_
      rotate_left
      ·clear hW; go_simp; try (with_reducible rfl)
      try simp only [Act.put, List.setIfInBounds_toArray, List.set_cons_zero, List.set_cons_succ]
      refine wpC_gread (v := ?_) rfl hgo7.out rfl (fun W hW => ?_) ?_
      rotate_left
      ·replace hW := HD.out W hW
       obtain ⟨t0, t1, t2, t3, t4, t5, t6, q0, q1, q2, q3, q4, qp⟩ := hS.out W hW
       go_simp; try (with_reducible rfl)
      try simp only [Act.put, List.setIfInBounds_toArray, List.set_cons_zero, List.set_cons_succ]
      refine wpC_gread (v := ?_) rfl hgo7.out rfl (fun W hW => ?_) ?_
      rotate_left
      ·clear hW; go_simp; try (with_reducible rfl)
      try simp only [Act.put, List.setIfInBounds_toArray, List.set_cons_zero, List.set_cons_succ]
      refine wpC_gread (v := ?_) rfl hgo7.out rfl (fun W hW => ?_) ?_
      rotate_left
      ·clear hW; go_simp; try (with_reducible rfl)
      try simp only [Act.put, List.setIfInBounds_toArray, List.set_cons_zero, List.set_cons_succ]
      refine wpC_gread (v := ?_) rfl hgo7.out rfl (fun W hW => ?_) ?_
      rotate_left
      ·clear hW; go_simp; try (with_reducible rfl)
      try simp only [Act.put, List.setIfInBounds_toArray, List.set_cons_zero, List.set_cons_succ]
      refine wpC_gread (v := ?_) rfl hgo7.out rfl (fun W hW => ?_) ?_
      rotate_left
      ·clear hW; go_simp; try (with_reducible rfl)
      try simp only [Act.put, List.setIfInBounds_toArray, List.set_cons_zero, List.set_cons_succ]
      refine wpC_gread (v := ?_) rfl hgo7.out rfl (fun W hW => ?_) ?_
      rotate_left
      ·replace hW := HD.out W hW
       obtain ⟨t0, t1, t2, t3, t4, t5, t6, q0, q1, q2, q3, q4, qp⟩ := hS.out W hW
       replace qp := qp _ d6.out
       go_simp; try (with_reducible rfl)
      try simp only [Act.put, List.setIfInBounds_toArray, List.set_cons_zero, List.set_cons_succ]
      refine wpC_gread (v := ?_) rfl hgo7.out rfl (fun W hW => ?_) ?_
      rotate_left
      ·clear hW; go_simp; try (with_reducible rfl)
      try simp only [Act.put, List.setIfInBounds_toArray, List.set_cons_zero, List.set_cons_succ]
      refine wpC_gread (v := ?_) rfl hgo7.out rfl (fun W hW => ?_) ?_
      rotate_left
      ·replace hW := HD.out W hW
       obtain ⟨t0, t1, t2, t3, t4, t5, t6, q0, q1, q2, q3, q4, qp⟩ := hS.out W hW
       go_simp; try (with_reducible rfl)
      try simp only [Act.put, List.setIfInBounds_toArray, List.set_cons_zero, List.set_cons_succ]
      cases hbl : Op.bytesLess yp xp with
      | false =>
       have HB := Lib.hid (hbad.out (.inr (.inl (d5.out.2 hbl))))
       rw [hbl] at hge
       refine wpC_gread (v := ?_) rfl hgo7.out rfl (fun W hW => ?_) ?_
       rotate_left
       ·clear hW; go_simp; try (with_reducible rfl)
       try simp only [Act.put, List.setIfInBounds_toArray, List.set_cons_zero, List.set_cons_succ]
       refine wpC_gread (v := ?_) rfl hgo4.out rfl (fun W hW => ?_) ?_
       rotate_left
       ·clear hW; go_simp; try (with_reducible rfl)
       try simp only [Act.put, List.setIfInBounds_toArray, List.set_cons_zero, List.set_cons_succ]
       refine wpC_read (v := ?_) rfl (fun W hW => ?_) ?_
       rotate_left
       ·clear hW; go_simp; try (with_reducible rfl)
       try simp only [Act.put, List.setIfInBounds_toArray, List.set_cons_zero, List.set_cons_succ]
       refine wpC_read (v := ?_) rfl (fun W hW => ?_) ?_
       rotate_left
       ·clear hW; go_simp; try (with_reducible rfl)
       try simp only [Act.put, List.setIfInBounds_toArray, List.set_cons_zero, List.set_cons_succ]
       refine wpC_skip rfl hgo20.out (.inl rfl) ?_
       try simp only [Act.put, List.setIfInBounds_toArray, List.set_cons_zero, List.set_cons_succ]
       refine wpC_skip rfl hgo20.out (.inl rfl) ?_
       try simp only [Act.put, List.setIfInBounds_toArray, List.set_cons_zero, List.set_cons_succ]
       refine wpC_skip rfl hgo22.out (.inr rfl) ?_
       try simp only [Act.put, List.setIfInBounds_toArray, List.set_cons_zero, List.set_cons_succ]
       refine wpC_skip rfl hgo22.out (.inr rfl) ?_
       try simp only [Act.put, List.setIfInBounds_toArray, List.set_cons_zero, List.set_cons_succ]
       refine wpC_skip rfl hgo22.out (.inr rfl) ?_
       try simp only [Act.put, List.setIfInBounds_toArray, List.set_cons_zero, List.set_cons_succ]
       refine wpC_skip rfl hgo22.out (.inr rfl) ?_
       try simp only [Act.put, List.setIfInBounds_toArray, List.set_cons_zero, List.set_cons_succ]
       refine wpC_skip rfl hgo20.out (.inl rfl) ?_
       try simp only [Act.put, List.setIfInBounds_toArray, List.set_cons_zero, List.set_cons_succ]
       refine wpC_read (v := ?_) rfl (fun W hW => ?_) ?_
       rotate_left
       ·clear hW; go_simp; try (with_reducible rfl)
       try simp only [Act.put, List.setIfInBounds_toArray, List.set_cons_zero, List.set_cons_succ]
       refine wpC_read (v := ?_) rfl (fun W hW => ?_) ?_
       rotate_left
       ·clear hW; go_simp; try (with_reducible rfl)
       try simp only [Act.put, List.setIfInBounds_toArray, List.set_cons_zero, List.set_cons_succ]
       refine wpQuiet_nil (HQQ.out _ (fun W hW => ?_))
       obtain ⟨t0, t1, t2, t3, t4, t5, t6, q0, q1, q2, q3, q4, qp⟩ := hS.out W hW
       go_wp2_with fail
       go_ret
       exact ⟨by rw [HB.out]; rfl, hbW.trans (hW.mono (by have := HSZ.out; omega))⟩
      | true =>
       have HG := d5.out.1 hbl
       rw [hbl] at hge
       refine wpC_gread (v := ?_) rfl hgo7.out rfl (fun W hW => ?_) ?_
       rotate_left
       ·clear hW; go_simp; try (with_reducible rfl)
       try simp only [Act.put, List.setIfInBounds_toArray, List.set_cons_zero, List.set_cons_succ]
       refine wpC_gread (v := ?_) rfl hgo4.out rfl (fun W hW => ?_) ?_
       rotate_left
       ·clear hW; go_simp; try (with_reducible rfl)
       try simp only [Act.put, List.setIfInBounds_toArray, List.set_cons_zero, List.set_cons_succ]
       refine wpC_read (v := ?_) rfl (fun W hW => ?_) ?_
       rotate_left
       ·clear hW; go_simp; try (with_reducible rfl)
       try simp only [Act.put, List.setIfInBounds_toArray, List.set_cons_zero, List.set_cons_succ]
       refine wpC_read (v := ?_) rfl (fun W hW => ?_) ?_
       rotate_left
       ·clear hW; go_simp; try (with_reducible rfl)
       try simp only [Act.put, List.setIfInBounds_toArray, List.set_cons_zero, List.set_cons_succ]
       refine wpC_gread (v := ?_) rfl hgo20.out rfl (fun W hW => ?_) ?_
       rotate_left
       ·clear hW; go_simp; try (with_reducible rfl)
       try simp only [Act.put, List.setIfInBounds_toArray, List.set_cons_zero, List.set_cons_succ]
       refine wpC_gread (v := ?_) rfl hgo20.out rfl (fun W hW => ?_) ?_
       rotate_left
       ·clear hW; go_simp; try (with_reducible rfl)
       try simp only [Act.put, List.setIfInBounds_toArray, List.set_cons_zero, List.set_cons_succ]
       refine wpC_skip rfl hgo22.out (.inl rfl) ?_
       try simp only [Act.put, List.setIfInBounds_toArray, List.set_cons_zero, List.set_cons_succ]
       refine wpC_skip rfl hgo22.out (.inl rfl) ?_
       try simp only [Act.put, List.setIfInBounds_toArray, List.set_cons_zero, List.set_cons_succ]
       refine wpC_skip rfl hgo22.out (.inl rfl) ?_
       try simp only [Act.put, List.setIfInBounds_toArray, List.set_cons_zero, List.set_cons_succ]
       refine wpC_skip rfl hgo22.out (.inl rfl) ?_
       try simp only [Act.put, List.setIfInBounds_toArray, List.set_cons_zero, List.set_cons_succ]
       refine wpC_gread (v := ?_) rfl hgo20.out rfl (fun W hW => ?_) ?_
       rotate_left
       ·clear hW; go_simp; try (with_reducible rfl)
       try simp only [Act.put, List.setIfInBounds_toArray, List.set_cons_zero, List.set_cons_succ]
       refine wpC_read (v := ?_) rfl (fun W hW => ?_) ?_
       rotate_left
       ·clear hW; go_simp; try (with_reducible rfl)
       try simp only [Act.put, List.setIfInBounds_toArray, List.set_cons_zero, List.set_cons_succ]
       refine wpC_read (v := ?_) rfl (fun W hW => ?_) ?_
       rotate_left
       ·clear hW; go_simp; try (with_reducible rfl)
       try simp only [Act.put, List.setIfInBounds_toArray, List.set_cons_zero, List.set_cons_succ]
       refine wpQuiet_nil (HQQ.out _ (fun W hW => ?_))
       obtain ⟨t0, t1, t2, t3, t4, t5, t6, q0, q1, q2, q3, q4, qp⟩ := hS.out W hW
       have HGO := Lib.hid (HG)
       have HPAR := Lib.hid (HFL.out)
       cases bP with
       | false =>
        have HB := Lib.hid (hbad.out (.inr (.inr (.inr (.inl rfl)))))
        have hc := hPr.out _ hW
        rw [if_neg (by decide)] at hc
        go_wp2_with fail
        refine (hc).mono ?_
        rintro e w6 ⟨rfl, hb6⟩
        have hWw6 := hW.trans (hb6.mono hW.size)
        clear hb6 t0 t1 t2 t3 t4 t5 t6 q0 q1 q2 q3 q4 qp
        obtain ⟨t0, t1, t2, t3, t4, t5, t6, q0, q1, q2, q3, q4, qp⟩ := hS.out _ hWw6
        go_wp2_with fail
        go_ret
        exact ⟨by rw [HB.out]; rfl, hbW.trans (hWw6.mono (by have := HSZ.out; omega))⟩
       | true =>
        have hc := hPr.out _ hW
        rw [if_pos rfl] at hc
        go_wp2_with fail
        refine (hc).mono ?_
        rintro e w6 ⟨rfl, hb6⟩
        have hWw6 := hW.trans (hb6.mono hW.size)
        clear hb6 t0 t1 t2 t3 t4 t5 t6 q0 q1 q2 q3 q4 qp
        obtain ⟨t0, t1, t2, t3, t4, t5, t6, q0, q1, q2, q3, q4, qp⟩ := hS.out _ hWw6
        clear hc
        have hc := hBk.out _ hWw6
        cases bB with
        | false =>
         have HB := Lib.hid (hbad.out (.inr (.inr (.inr (.inr (.inl rfl))))))
         rw [if_neg (by decide)] at hc
         go_wp2_with fail
         refine (hc).mono ?_
         rintro e w7 ⟨rfl, hb7⟩
         have hWw7 := hWw6.trans (hb7.mono hWw6.size)
         clear hb7 t0 t1 t2 t3 t4 t5 t6 q0 q1 q2 q3 q4 qp
         obtain ⟨t0, t1, t2, t3, t4, t5, t6, q0, q1, q2, q3, q4, qp⟩ := hS.out _ hWw7
         go_wp2_with fail
         go_ret
         exact ⟨by rw [HB.out]; rfl, hbW.trans (hWw7.mono (by have := HSZ.out; omega))⟩
        | true =>
         rw [if_pos rfl] at hc
         go_wp2_with fail
         refine (hc).mono ?_
         rintro e w7 ⟨rfl, hb7⟩
         have hWw7 := hWw6.trans (hb7.mono hWw6.size)
         clear hb7 t0 t1 t2 t3 t4 t5 t6 q0 q1 q2 q3 q4 qp
         obtain ⟨t0, t1, t2, t3, t4, t5, t6, q0, q1, q2, q3, q4, qp⟩ := hS.out _ hWw7
         clear hc
         have hc := hSn.out _ hWw7
         cases bS with
         | false =>
          have HB := Lib.hid (hbad.out (.inr (.inr (.inr (.inr (.inr (.inl rfl)))))))
          go_wp2_with fail
          refine (hc).mono ?_
          rintro e w8 ⟨rfl, hb8⟩
          have hWw8 := hWw7.trans (hb8.mono hWw7.size)
          clear hb8 t0 t1 t2 t3 t4 t5 t6 q0 q1 q2 q3 q4 qp
          obtain ⟨t0, t1, t2, t3, t4, t5, t6, q0, q1, q2, q3, q4, qp⟩ := hS.out _ hWw8
          go_wp2_with fail
          go_ret
          exact ⟨by rw [HB.out]; rfl, hbW.trans (hWw8.mono (by have := HSZ.out; omega))⟩
         | true =>
          go_wp2_with fail
          refine (hc).mono ?_
          rintro e w8 ⟨rfl, hb8⟩
          have hWw8 := hWw7.trans (hb8.mono hWw7.size)
          clear hb8 t0 t1 t2 t3 t4 t5 t6 q0 q1 q2 q3 q4 qp
          obtain ⟨t0, t1, t2, t3, t4, t5, t6, q0, q1, q2, q3, q4, qp⟩ := hS.out _ hWw8
          clear hc
          have hc := hOr.out _ hWw8
          cases bO with
          | false =>
           have HB := Lib.hid (hbad.out (.inr (.inr (.inr (.inr (.inr (.inr rfl)))))))
           go_wp2_with fail
           refine (hc).mono ?_
           rintro e w9 ⟨rfl, hb9⟩
           have hWw9 := hWw8.trans (hb9.mono hWw8.size)
           clear hb9 t0 t1 t2 t3 t4 t5 t6 q0 q1 q2 q3 q4 qp
           obtain ⟨t0, t1, t2, t3, t4, t5, t6, q0, q1, q2, q3, q4, qp⟩ := hS.out _ hWw9
           go_wp2_with fail
           go_ret
           exact ⟨by rw [HB.out]; rfl, hbW.trans (hWw9.mono (by have := HSZ.out; omega))⟩
          | true =>
           have HGG := Lib.hid (hgood.out (by trivial) HGO.out HPAR.out (by trivial) (by trivial) (by trivial) (by trivial))
           go_wp2_with fail
           refine (hc).mono ?_
           rintro e w9 ⟨rfl, hb9⟩
           have hWw9 := hWw8.trans (hb9.mono hWw8.size)
           clear hb9 t0 t1 t2 t3 t4 t5 t6 q0 q1 q2 q3 q4 qp
           obtain ⟨t0, t1, t2, t3, t4, t5, t6, q0, q1, q2, q3, q4, qp⟩ := hS.out _ hWw9
           have hbf := HB1.out.trans (hWw9.mono (by have := HSZ.out; have := HB1.out.size; omega))
           clear hc
           go_wp2_with fail
           go_roundw
           case rel => exact ⟨k + 1, by omega, by go_num, HGG.out, hbf⟩
           case measure => simp [intOf]; omega
   ·have hpe : parB xp = some (upL xp) := by
     unfold parB
     rw [if_neg (by rw [hpb]; simp [hne])]
    obtain ⟨z, hz⟩ : ∃ z, z = findS l (upL xp) := ⟨_, rfl⟩
    have HFL : Hid ((z < 0 → ∃ u, parB xp = some u ∧ (l.any fun y => y.path == u) = false) ∧ (0 ≤ z → ∀ u, parB xp = some u → (l.any fun y => y.path == u) = true)) := by
     show _ ∧ _
     rw [hz]
     exact ⟨fun h => ⟨_, hpe, (HFL.out _ hpe).1 h⟩, fun h u hu => by rw [hpe] at hu; cases hu; exact (HFL.out _ hpe).2 h⟩
    rw [← hz] at hFi
    rw [hpb] at hbad hgood hPa
    have hF : z < 0 ∨ 0 ≤ z := by omega
    obtain ⟨up, hup⟩ : ∃ u, u = upL xp := ⟨_, rfl⟩
    rw [← hup] at hFi ⊢
    clear hne hpb hpe hz hup
    go_wp2_with fail
    refine wpC_region (fun W' => Below W0.heap.size W0 W') (by kernel_rfl) (by kernel_rfl) (hb4.drew) (fun OPS D QQ HO hD hD2 hQQ => ?_)
    have hgo4 : Hid ((OPS[4]?).bind (·.dst) = some 35) := by show _ = _; rw [HO.out]; rfl
    have hgo7 : Hid ((OPS[7]?).bind (·.dst) = some 38) := by show _ = _; rw [HO.out]; rfl
    have hgo20 : Hid ((OPS[20]?).bind (·.dst) = some 51) := by show _ = _; rw [HO.out]; rfl
    have hgo22 : Hid ((OPS[22]?).bind (·.dst) = some 53) := by show _ = _; rw [HO.out]; rfl
    clear HO
    have HD := Lib.hid hD
    have HD2 := Lib.hid hD2
    have HQQ := Lib.hid hQQ
    clear hD hD2 hQQ
    refine wpC_read (v := ?_) rfl (fun W hW => ?_) ?_
    rotate_left
    ·clear hW; go_simp; try (with_reducible rfl)
    try simp only [Act.put, List.setIfInBounds_toArray, List.set_cons_zero, List.set_cons_succ]
    refine wpC_read (v := ?_) rfl (fun W hW => ?_) ?_
    rotate_left
    ·replace hW := HD.out W hW
     obtain ⟨t0, t1, t2, t3, t4, t5, t6, q0, q1, q2, q3, q4, qp⟩ := hS.out W hW
     go_simp; try (with_reducible rfl)
    try simp only [Act.put, List.setIfInBounds_toArray, List.set_cons_zero, List.set_cons_succ]
    refine wpC_read (v := .bool true) rfl (fun W hW => ?_) ?_
    ·replace hW := HD.out W hW
     obtain ⟨t0, t1, t2, t3, t4, t5, t6, q0, q1, q2, q3, q4, qp⟩ := hS.out W hW
     go_simp
     refine (hPa.out _ hW).mono ?_
     rintro e w5 ⟨rfl, hbn⟩
     exact ⟨rfl, HD2.out _ (below_step hW hbn)⟩
    try simp only [Act.put, List.setIfInBounds_toArray, List.set_cons_zero, List.set_cons_succ]
    refine wpC_read (v := ?_) rfl (fun W hW => ?_) ?_
    rotate_left
    ·clear hW; go_simp; try (with_reducible rfl)
    try simp only [Act.put, List.setIfInBounds_toArray, List.set_cons_zero, List.set_cons_succ]
    refine wpC_read (v := ?_) rfl (fun W hW => ?_) ?_
    rotate_left
    ·clear hW; go_simp; try (with_reducible rfl)
    try simp only [Act.put, List.setIfInBounds_toArray, List.set_cons_zero, List.set_cons_succ]
    refine wpC_gread (v := ?_) rfl hgo4.out rfl (fun W hW => ?_) ?_
    rotate_left
    ·clear hW; go_simp; try (with_reducible rfl)
    try simp only [Act.put, List.setIfInBounds_toArray, List.set_cons_zero, List.set_cons_succ]
    rcases hprev with ⟨d4, d4', d5⟩ | ⟨d4, d4', i1, i2, i3, i4, yp, d5, d6⟩
    ·refine wpC_gread (v := ?_) rfl hgo4.out rfl (fun W hW => ?_) ?_
     rotate_left
     ·clear hW; go_simp; try (with_reducible rfl)
     try simp only [Act.put, List.setIfInBounds_toArray, List.set_cons_zero, List.set_cons_succ]
     refine wpC_gread (v := ?_) rfl hgo4.out rfl (fun W hW => ?_) ?_
     rotate_left
     ·clear hW; go_simp; try (with_reducible rfl)
     try simp only [Act.put, List.setIfInBounds_toArray, List.set_cons_zero, List.set_cons_succ]
     refine wpC_skip rfl hgo7.out (.inl rfl) ?_
     try simp only [Act.put, List.setIfInBounds_toArray, List.set_cons_zero, List.set_cons_succ]
     refine wpC_skip rfl hgo7.out (.inl rfl) ?_
     try simp only [Act.put, List.setIfInBounds_toArray, List.set_cons_zero, List.set_cons_succ]
     refine wpC_skip rfl hgo7.out (.inl rfl) ?_
     try simp only [Act.put, List.setIfInBounds_toArray, List.set_cons_zero, List.set_cons_succ]
     refine wpC_skip rfl hgo7.out (.inl rfl) ?_
     try simp only [Act.put, List.setIfInBounds_toArray, List.set_cons_zero, List.set_cons_succ]
     refine wpC_skip rfl hgo7.out (.inl rfl) ?_
     try simp only [Act.put, List.setIfInBounds_toArray, List.set_cons_zero, List.set_cons_succ]
     refine wpC_skip rfl hgo7.out (.inl rfl) ?_
     try simp only [Act.put, List.setIfInBounds_toArray, List.set_cons_zero, List.set_cons_succ]
     refine wpC_skip rfl hgo7.out (.inl rfl) ?_
     try simp only [Act.put, List.setIfInBounds_toArray, List.set_cons_zero, List.set_cons_succ]
     refine wpC_skip rfl hgo7.out (.inl rfl) ?_
     try simp only [Act.put, List.setIfInBounds_toArray, List.set_cons_zero, List.set_cons_succ]
     refine wpC_skip rfl hgo7.out (.inl rfl) ?_
     try simp only [Act.put, List.setIfInBounds_toArray, List.set_cons_zero, List.set_cons_succ]
     refine wpC_skip rfl hgo7.out (.inl rfl) ?_
     try simp only [Act.put, List.setIfInBounds_toArray, List.set_cons_zero, List.set_cons_succ]
     refine wpC_gread (v := ?_) rfl hgo4.out rfl (fun W hW => ?_) ?_
     rotate_left
     ·clear hW; go_simp; try (with_reducible rfl)
     try simp only [Act.put, List.setIfInBounds_toArray, List.set_cons_zero, List.set_cons_succ]
     refine wpC_read (v := ?_) rfl (fun W hW => ?_) ?_
     rotate_left
     ·clear hW; go_simp; try (with_reducible rfl)
     try simp only [Act.put, List.setIfInBounds_toArray, List.set_cons_zero, List.set_cons_succ]
     refine wpC_read (v := ?_) rfl (fun W hW => ?_) ?_
     rotate_left
     ·clear hW; go_simp; try (with_reducible rfl)
     try simp only [Act.put, List.setIfInBounds_toArray, List.set_cons_zero, List.set_cons_succ]
     refine wpC_gread (v := ?_) rfl hgo20.out rfl (fun W hW => ?_) ?_
     rotate_left
     ·clear hW; go_simp; try (with_reducible rfl)
     try simp only [Act.put, List.setIfInBounds_toArray, List.set_cons_zero, List.set_cons_succ]
     refine wpC_gread (v := ?_) rfl hgo20.out rfl (fun W hW => ?_) ?_
     rotate_left
     ·clear hW; go_simp; try (with_reducible rfl)
     try simp only [Act.put, List.setIfInBounds_toArray, List.set_cons_zero, List.set_cons_succ]
     refine wpC_gread (v := ?_) rfl hgo22.out rfl (fun W hW => ?_) ?_
     rotate_left
     ·replace hW := HD.out W hW
      obtain ⟨t0, t1, t2, t3, t4, t5, t6, q0, q1, q2, q3, q4, qp⟩ := hS.out W hW
      go_simp; try (with_reducible rfl)
     try simp only [Act.put, List.setIfInBounds_toArray, List.set_cons_zero, List.set_cons_succ]
     refine wpC_gread (v := ?_) rfl hgo22.out rfl (fun W hW => ?_) ?_
     rotate_left
     ·clear hW; go_simp; try (with_reducible rfl)
     try simp only [Act.put, List.setIfInBounds_toArray, List.set_cons_zero, List.set_cons_succ]
     rcases hF with hF | hF
     ·have HB := Lib.hid (hbad.out (.inr (.inr (.inl (HFL.out.1 hF)))))
      have hz1 : decide (z < 0) = true := by simpa using hF
      refine wpC_gread (v := .int .i64 z) rfl hgo22.out rfl (fun W hW => ?_) ?_
      ·replace hW := HD.out W hW
       obtain ⟨t0, t1, t2, t3, t4, t5, t6, q0, q1, q2, q3, q4, qp⟩ := hS.out W hW
       go_simp
       refine (hFi.out _ hW).mono ?_
       rintro e w5 ⟨rfl, hbn⟩
       exact ⟨rfl, HD2.out _ (below_step hW hbn)⟩
      try simp only [Act.put, List.setIfInBounds_toArray, List.set_cons_zero, List.set_cons_succ]
      refine wpC_gread (v := ?_) rfl hgo22.out rfl (fun W hW => ?_) ?_
      rotate_left
      ·clear hW; go_simp; try (with_reducible rfl)
      try simp only [Act.put, List.setIfInBounds_toArray, List.set_cons_zero, List.set_cons_succ]
      refine wpC_gread (v := ?_) rfl hgo20.out rfl (fun W hW => ?_) ?_
      rotate_left
      ·clear hW; go_simp; try (with_reducible rfl)
      try simp only [Act.put, List.setIfInBounds_toArray, List.set_cons_zero, List.set_cons_succ]
      refine wpC_read (v := ?_) rfl (fun W hW => ?_) ?_
      rotate_left
      ·clear hW; go_simp; try (with_reducible rfl)
      try simp only [Act.put, List.setIfInBounds_toArray, List.set_cons_zero, List.set_cons_succ]
      refine wpC_read (v := ?_) rfl (fun W hW => ?_) ?_
      rotate_left
      ·clear hW; go_simp; try (with_reducible rfl)
      try simp only [Act.put, List.setIfInBounds_toArray, List.set_cons_zero, List.set_cons_succ]
      refine wpQuiet_nil (HQQ.out _ (fun W hW => ?_))
      obtain ⟨t0, t1, t2, t3, t4, t5, t6, q0, q1, q2, q3, q4, qp⟩ := hS.out W hW
      go_wp2_with fail
      go_ret
      exact ⟨by rw [HB.out]; rfl, hbW.trans (hW.mono (by have := HSZ.out; omega))⟩
     ·have hz1 : decide (z < 0) = false := by simp; omega
      refine wpC_gread (v := .int .i64 z) rfl hgo22.out rfl (fun W hW => ?_) ?_
      ·replace hW := HD.out W hW
       obtain ⟨t0, t1, t2, t3, t4, t5, t6, q0, q1, q2, q3, q4, qp⟩ := hS.out W hW
       go_simp
       refine (hFi.out _ hW).mono ?_
       rintro e w5 ⟨rfl, hbn⟩
       exact ⟨rfl, HD2.out _ (below_step hW hbn)⟩
      try simp only [Act.put, List.setIfInBounds_toArray, List.set_cons_zero, List.set_cons_succ]
      refine wpC_gread (v := ?_) rfl hgo22.out rfl (fun W hW => ?_) ?_
      rotate_left
      ·clear hW; go_simp; try (with_reducible rfl)
      try simp only [Act.put, List.setIfInBounds_toArray, List.set_cons_zero, List.set_cons_succ]
      refine wpC_gread (v := ?_) rfl hgo20.out rfl (fun W hW => ?_) ?_
      rotate_left
      ·clear hW; go_simp; try (with_reducible rfl)
      try simp only [Act.put, List.setIfInBounds_toArray, List.set_cons_zero, List.set_cons_succ]
      refine wpC_read (v := ?_) rfl (fun W hW => ?_) ?_
      rotate_left
      ·clear hW; go_simp; try (with_reducible rfl)
      try simp only [Act.put, List.setIfInBounds_toArray, List.set_cons_zero, List.set_cons_succ]
      refine wpC_read (v := ?_) rfl (fun W hW => ?_) ?_
      rotate_left
      ·clear hW; go_simp; try (with_reducible rfl)
      try simp only [Act.put, List.setIfInBounds_toArray, List.set_cons_zero, List.set_cons_succ]
      refine wpQuiet_nil (HQQ.out _ (fun W hW => ?_))
      obtain ⟨t0, t1, t2, t3, t4, t5, t6, q0, q1, q2, q3, q4, qp⟩ := hS.out W hW
      have HGO := Lib.hid (d5.out)
      have HPAR := Lib.hid (HFL.out.2 hF)
      cases bP with
      | false =>
       have HB := Lib.hid (hbad.out (.inr (.inr (.inr (.inl rfl)))))
       have hc := hPr.out _ hW
       rw [if_neg (by decide)] at hc
       go_wp2_with fail
       refine (hc).mono ?_
       rintro e w6 ⟨rfl, hb6⟩
       have hWw6 := hW.trans (hb6.mono hW.size)
       clear hb6 t0 t1 t2 t3 t4 t5 t6 q0 q1 q2 q3 q4 qp
       obtain ⟨t0, t1, t2, t3, t4, t5, t6, q0, q1, q2, q3, q4, qp⟩ := hS.out _ hWw6
       go_wp2_with fail
       go_ret
       exact ⟨by rw [HB.out]; rfl, hbW.trans (hWw6.mono (by have := HSZ.out; omega))⟩
      | true =>
       have hc := hPr.out _ hW
       rw [if_pos rfl] at hc
       go_wp2_with fail
       refine (hc).mono ?_
       rintro e w6 ⟨rfl, hb6⟩
       have hWw6 := hW.trans (hb6.mono hW.size)
       clear hb6 t0 t1 t2 t3 t4 t5 t6 q0 q1 q2 q3 q4 qp
       obtain ⟨t0, t1, t2, t3, t4, t5, t6, q0, q1, q2, q3, q4, qp⟩ := hS.out _ hWw6
       clear hc
       have hc := hBk.out _ hWw6
       cases bB with
       | false =>
        have HB := Lib.hid (hbad.out (.inr (.inr (.inr (.inr (.inl rfl))))))
        rw [if_neg (by decide)] at hc
        go_wp2_with fail
        refine (hc).mono ?_
        rintro e w7 ⟨rfl, hb7⟩
        have hWw7 := hWw6.trans (hb7.mono hWw6.size)
        clear hb7 t0 t1 t2 t3 t4 t5 t6 q0 q1 q2 q3 q4 qp
        obtain ⟨t0, t1, t2, t3, t4, t5, t6, q0, q1, q2, q3, q4, qp⟩ := hS.out _ hWw7
        go_wp2_with fail
        go_ret
        exact ⟨by rw [HB.out]; rfl, hbW.trans (hWw7.mono (by have := HSZ.out; omega))⟩
       | true =>
        rw [if_pos rfl] at hc
        go_wp2_with fail
        refine (hc).mono ?_
        rintro e w7 ⟨rfl, hb7⟩
        have hWw7 := hWw6.trans (hb7.mono hWw6.size)
        clear hb7 t0 t1 t2 t3 t4 t5 t6 q0 q1 q2 q3 q4 qp
        obtain ⟨t0, t1, t2, t3, t4, t5, t6, q0, q1, q2, q3, q4, qp⟩ := hS.out _ hWw7
        clear hc
        have hc := hSn.out _ hWw7
        cases bS with
        | false =>
         have HB := Lib.hid (hbad.out (.inr (.inr (.inr (.inr (.inr (.inl rfl)))))))
         go_wp2_with fail
         refine (hc).mono ?_
         rintro e w8 ⟨rfl, hb8⟩
         have hWw8 := hWw7.trans (hb8.mono hWw7.size)
         clear hb8 t0 t1 t2 t3 t4 t5 t6 q0 q1 q2 q3 q4 qp
         obtain ⟨t0, t1, t2, t3, t4, t5, t6, q0, q1, q2, q3, q4, qp⟩ := hS.out _ hWw8
         go_wp2_with fail
         go_ret
         exact ⟨by rw [HB.out]; rfl, hbW.trans (hWw8.mono (by have := HSZ.out; omega))⟩
        | true =>
         go_wp2_with fail
         refine (hc).mono ?_
         rintro e w8 ⟨rfl, hb8⟩
         have hWw8 := hWw7.trans (hb8.mono hWw7.size)
         clear hb8 t0 t1 t2 t3 t4 t5 t6 q0 q1 q2 q3 q4 qp
         obtain ⟨t0, t1, t2, t3, t4, t5, t6, q0, q1, q2, q3, q4, qp⟩ := hS.out _ hWw8
         clear hc
         have hc := hOr.out _ hWw8
         cases bO with
         | false =>
          have HB := Lib.hid (hbad.out (.inr (.inr (.inr (.inr (.inr (.inr rfl)))))))
          go_wp2_with fail
          refine (hc).mono ?_
          rintro e w9 ⟨rfl, hb9⟩
          have hWw9 := hWw8.trans (hb9.mono hWw8.size)
          clear hb9 t0 t1 t2 t3 t4 t5 t6 q0 q1 q2 q3 q4 qp
          obtain ⟨t0, t1, t2, t3, t4, t5, t6, q0, q1, q2, q3, q4, qp⟩ := hS.out _ hWw9
          go_wp2_with fail
          go_ret
          exact ⟨by rw [HB.out]; rfl, hbW.trans (hWw9.mono (by have := HSZ.out; omega))⟩
         | true =>
          have HGG := Lib.hid (hgood.out (by trivial) HGO.out HPAR.out (by trivial) (by trivial) (by trivial) (by trivial))
          go_wp2_with fail
          refine (hc).mono ?_
          rintro e w9 ⟨rfl, hb9⟩
          have hWw9 := hWw8.trans (hb9.mono hWw8.size)
          clear hb9 t0 t1 t2 t3 t4 t5 t6 q0 q1 q2 q3 q4 qp
          obtain ⟨t0, t1, t2, t3, t4, t5, t6, q0, q1, q2, q3, q4, qp⟩ := hS.out _ hWw9
          have hbf := HB1.out.trans (hWw9.mono (by have := HSZ.out; have := HB1.out.size; omega))
          clear hc
          go_wp2_with fail
          go_roundw
          case rel => exact ⟨k + 1, by omega, by go_num, HGG.out, hbf⟩
          case measure => simp [intOf]; omega
    ·have hge := geqS 9 yp xp
     refine wpC_gread (v := ?_) rfl hgo4.out rfl (fun W hW => ?_) ?_
     rotate_left
     ·clear hW; go_simp; try (with_reducible rfl)
     try simp only [Act.put, List.setIfInBounds_toArray, List.set_cons_zero, List.set_cons_succ]
     refine wpC_gread (v := ?_) rfl hgo4.out rfl (fun W hW => ?_) ?_
     rotate_left
     ·clear hW; go_simp; try (with_reducible rfl)
     try simp only [Act.put, List.setIfInBounds_toArray, List.set_cons_zero, List.set_cons_succ]
     refine wpC_gread (v := ?_) rfl hgo7.out rfl (fun W hW => ?_) ?_
     rotate_left
     ·clear hW; go_simp; try (with_reducible rfl)
     try simp only [Act.put, List.setIfInBounds_toArray, List.set_cons_zero, List.set_cons_succ]
     refine wpC_gread (v := ?_) rfl hgo7.out rfl (fun W hW => ?_) ?_
     rotate_left
     ·replace hW := HD.out W hW
      obtain ⟨t0, t1, t2, t3, t4, t5, t6, q0, q1, q2, q3, q4, qp⟩ := hS.out W hW
      go_simp; try (with_reducible rfl)
     try simp only [Act.put, List.setIfInBounds_toArray, List.set_cons_zero, List.set_cons_succ]
     refine wpC_gread (v := ?_) rfl hgo7.out rfl (fun W hW => ?_) ?_
     rotate_left
     ·clear hW; go_simp; try (with_reducible rfl)
     try simp only [Act.put, List.setIfInBounds_toArray, List.set_cons_zero, List.set_cons_succ]
     refine wpC_gread (v := ?_) rfl hgo7.out rfl (fun W hW => ?_) ?_
     rotate_left
     ·clear hW; go_simp; try (with_reducible rfl)
     try simp only [Act.put, List.setIfInBounds_toArray, List.set_cons_zero, List.set_cons_succ]
     refine wpC_gread (v := ?_) rfl hgo7.out rfl (fun W hW => ?_) ?_
     rotate_left
     ·clear hW; go_simp; try (with_reducible rfl)
     try simp only [Act.put, List.setIfInBounds_toArray, List.set_cons_zero, List.set_cons_succ]
     refine wpC_gread (v := ?_) rfl hgo7.out rfl (fun W hW => ?_) ?_
     rotate_left
     ·clear hW; go_simp; try (with_reducible rfl)
     try simp only [Act.put, List.setIfInBounds_toArray, List.set_cons_zero, List.set_cons_succ]
     refine wpC_gread (v := ?_) rfl hgo7.out rfl (fun W hW => ?_) ?_
     rotate_left
     ·replace hW := HD.out W hW
      obtain ⟨t0, t1, t2, t3, t4, t5, t6, q0, q1, q2, q3, q4, qp⟩ := hS.out W hW
      replace qp := qp _ d6.out
      go_simp; try (with_reducible rfl)
     try simp only [Act.put, List.setIfInBounds_toArray, List.set_cons_zero, List.set_cons_succ]
     refine wpC_gread (v := ?_) rfl hgo7.out rfl (fun W hW => ?_) ?_
     rotate_left
     ·clear hW; go_simp; try (with_reducible rfl)
     try simp only [Act.put, List.setIfInBounds_toArray, List.set_cons_zero, List.set_cons_succ]
     refine wpC_gread (v := ?_) rfl hgo7.out rfl (fun W hW => ?_) ?_
     rotate_left
     ·replace hW := HD.out W hW
      obtain ⟨t0, t1, t2, t3, t4, t5, t6, q0, q1, q2, q3, q4, qp⟩ := hS.out W hW
      go_simp; try (with_reducible rfl)
     try simp only [Act.put, List.setIfInBounds_toArray, List.set_cons_zero, List.set_cons_succ]
     cases hbl : Op.bytesLess yp xp with
     | false =>
      have HB := Lib.hid (hbad.out (.inr (.inl (d5.out.2 hbl))))
      rw [hbl] at hge
      refine wpC_gread (v := ?_) rfl hgo7.out rfl (fun W hW => ?_) ?_
      rotate_left
      ·clear hW; go_simp; try (with_reducible rfl)
      try simp only [Act.put, List.setIfInBounds_toArray, List.set_cons_zero, List.set_cons_succ]
      refine wpC_gread (v := ?_) rfl hgo4.out rfl (fun W hW => ?_) ?_
      rotate_left
      ·clear hW; go_simp; try (with_reducible rfl)
      try simp only [Act.put, List.setIfInBounds_toArray, List.set_cons_zero, List.set_cons_succ]
      refine wpC_read (v := ?_) rfl (fun W hW => ?_) ?_
      rotate_left
      ·clear hW; go_simp; try (with_reducible rfl)
      try simp only [Act.put, List.setIfInBounds_toArray, List.set_cons_zero, List.set_cons_succ]
      refine wpC_read (v := ?_) rfl (fun W hW => ?_) ?_
      rotate_left
      ·clear hW; go_simp; try (with_reducible rfl)
      try simp only [Act.put, List.setIfInBounds_toArray, List.set_cons_zero, List.set_cons_succ]
      refine wpC_skip rfl hgo20.out (.inl rfl) ?_
      try simp only [Act.put, List.setIfInBounds_toArray, List.set_cons_zero, List.set_cons_succ]
      refine wpC_skip rfl hgo20.out (.inl rfl) ?_
      try simp only [Act.put, List.setIfInBounds_toArray, List.set_cons_zero, List.set_cons_succ]
      refine wpC_skip rfl hgo22.out (.inr rfl) ?_
      try simp only [Act.put, List.setIfInBounds_toArray, List.set_cons_zero, List.set_cons_succ]
      refine wpC_skip rfl hgo22.out (.inr rfl) ?_
      try simp only [Act.put, List.setIfInBounds_toArray, List.set_cons_zero, List.set_cons_succ]
      refine wpC_skip rfl hgo22.out (.inr rfl) ?_
      try simp only [Act.put, List.setIfInBounds_toArray, List.set_cons_zero, List.set_cons_succ]
      refine wpC_skip rfl hgo22.out (.inr rfl) ?_
      try simp only [Act.put, List.setIfInBounds_toArray, List.set_cons_zero, List.set_cons_succ]
      refine wpC_skip rfl hgo20.out (.inl rfl) ?_
      try simp only [Act.put, List.setIfInBounds_toArray, List.set_cons_zero, List.set_cons_succ]
      refine wpC_read (v := ?_) rfl (fun W hW => ?_) ?_
      rotate_left
      ·clear hW; go_simp; try (with_reducible rfl)
      try simp only [Act.put, List.setIfInBounds_toArray, List.set_cons_zero, List.set_cons_succ]
      refine wpC_read (v := ?_) rfl (fun W hW => ?_) ?_
      rotate_left
      ·clear hW; go_simp; try (with_reducible rfl)
      try simp only [Act.put, List.setIfInBounds_toArray, List.set_cons_zero, List.set_cons_succ]
      refine wpQuiet_nil (HQQ.out _ (fun W hW => ?_))
      obtain ⟨t0, t1, t2, t3, t4, t5, t6, q0, q1, q2, q3, q4, qp⟩ := hS.out W hW
      go_wp2_with fail
      go_ret
      exact ⟨by rw [HB.out]; rfl, hbW.trans (hW.mono (by have := HSZ.out; omega))⟩
     | true =>
      have HG := d5.out.1 hbl
      rw [hbl] at hge
      refine wpC_gread (v := ?_) rfl hgo7.out rfl (fun W hW => ?_) ?_
      rotate_left
      ·clear hW; go_simp; try (with_reducible rfl)
      try simp only [Act.put, List.setIfInBounds_toArray, List.set_cons_zero, List.set_cons_succ]
      refine wpC_gread (v := ?_) rfl hgo4.out rfl (fun W hW => ?_) ?_
      rotate_left
      ·clear hW; go_simp; try (with_reducible rfl)
      try simp only [Act.put, List.setIfInBounds_toArray, List.set_cons_zero, List.set_cons_succ]
      refine wpC_read (v := ?_) rfl (fun W hW => ?_) ?_
      rotate_left
      ·clear hW; go_simp; try (with_reducible rfl)
      try simp only [Act.put, List.setIfInBounds_toArray, List.set_cons_zero, List.set_cons_succ]
      refine wpC_read (v := ?_) rfl (fun W hW => ?_) ?_
      rotate_left
      ·clear hW; go_simp; try (with_reducible rfl)
      try simp only [Act.put, List.setIfInBounds_toArray, List.set_cons_zero, List.set_cons_succ]
      refine wpC_gread (v := ?_) rfl hgo20.out rfl (fun W hW => ?_) ?_
      rotate_left
      ·clear hW; go_simp; try (with_reducible rfl)
      try simp only [Act.put, List.setIfInBounds_toArray, List.set_cons_zero, List.set_cons_succ]
      refine wpC_gread (v := ?_) rfl hgo20.out rfl (fun W hW => ?_) ?_
      rotate_left
      ·clear hW; go_simp; try (with_reducible rfl)
      try simp only [Act.put, List.setIfInBounds_toArray, List.set_cons_zero, List.set_cons_succ]
      refine wpC_gread (v := ?_) rfl hgo22.out rfl (fun W hW => ?_) ?_
      rotate_left
      ·replace hW := HD.out W hW
       obtain ⟨t0, t1, t2, t3, t4, t5, t6, q0, q1, q2, q3, q4, qp⟩ := hS.out W hW
       go_simp; try (with_reducible rfl)
      try simp only [Act.put, List.setIfInBounds_toArray, List.set_cons_zero, List.set_cons_succ]
      refine wpC_gread (v := ?_) rfl hgo22.out rfl (fun W hW => ?_) ?_
      rotate_left
      ·clear hW; go_simp; try (with_reducible rfl)
      try simp only [Act.put, List.setIfInBounds_toArray, List.set_cons_zero, List.set_cons_succ]
      rcases hF with hF | hF
      ·have HB := Lib.hid (hbad.out (.inr (.inr (.inl (HFL.out.1 hF)))))
       have hz1 : decide (z < 0) = true := by simpa using hF
       refine wpC_gread (v := .int .i64 z) rfl hgo22.out rfl (fun W hW => ?_) ?_
       ·replace hW := HD.out W hW
        obtain ⟨t0, t1, t2, t3, t4, t5, t6, q0, q1, q2, q3, q4, qp⟩ := hS.out W hW
        go_simp
        refine (hFi.out _ hW).mono ?_
        rintro e w5 ⟨rfl, hbn⟩
        exact ⟨rfl, HD2.out _ (below_step hW hbn)⟩
       try simp only [Act.put, List.setIfInBounds_toArray, List.set_cons_zero, List.set_cons_succ]
       refine wpC_gread (v := ?_) rfl hgo22.out rfl (fun W hW => ?_) ?_
       rotate_left
       ·clear hW; go_simp; try (with_reducible rfl)
       try simp only [Act.put, List.setIfInBounds_toArray, List.set_cons_zero, List.set_cons_succ]
       refine wpC_gread (v := ?_) rfl hgo20.out rfl (fun W hW => ?_) ?_
       rotate_left
       ·clear hW; go_simp; try (with_reducible rfl)
       try simp only [Act.put, List.setIfInBounds_toArray, List.set_cons_zero, List.set_cons_succ]
       refine wpC_read (v := ?_) rfl (fun W hW => ?_) ?_
       rotate_left
       ·clear hW; go_simp; try (with_reducible rfl)
       try simp only [Act.put, List.setIfInBounds_toArray, List.set_cons_zero, List.set_cons_succ]
       refine wpC_read (v := ?_) rfl (fun W hW => ?_) ?_
       rotate_left
       ·clear hW; go_simp; try (with_reducible rfl)
       try simp only [Act.put, List.setIfInBounds_toArray, List.set_cons_zero, List.set_cons_succ]
       refine wpQuiet_nil (HQQ.out _ (fun W hW => ?_))
       obtain ⟨t0, t1, t2, t3, t4, t5, t6, q0, q1, q2, q3, q4, qp⟩ := hS.out W hW
       go_wp2_with fail
       go_ret
       exact ⟨by rw [HB.out]; rfl, hbW.trans (hW.mono (by have := HSZ.out; omega))⟩
      ·have hz1 : decide (z < 0) = false := by simp; omega
       refine wpC_gread (v := .int .i64 z) rfl hgo22.out rfl (fun W hW => ?_) ?_
       ·replace hW := HD.out W hW
        obtain ⟨t0, t1, t2, t3, t4, t5, t6, q0, q1, q2, q3, q4, qp⟩ := hS.out W hW
        go_simp
        refine (hFi.out _ hW).mono ?_
        rintro e w5 ⟨rfl, hbn⟩
        exact ⟨rfl, HD2.out _ (below_step hW hbn)⟩
       try simp only [Act.put, List.setIfInBounds_toArray, List.set_cons_zero, List.set_cons_succ]
       refine wpC_gread (v := ?_) rfl hgo22.out rfl (fun W hW => ?_) ?_
       rotate_left
       ·clear hW; go_simp; try (with_reducible rfl)
       try simp only [Act.put, List.setIfInBounds_toArray, List.set_cons_zero, List.set_cons_succ]
       refine wpC_gread (v := ?_) rfl hgo20.out rfl (fun W hW => ?_) ?_
       rotate_left
       ·clear hW; go_simp; try (with_reducible rfl)
       try simp only [Act.put, List.setIfInBounds_toArray, List.set_cons_zero, List.set_cons_succ]
       refine wpC_read (v := ?_) rfl (fun W hW => ?_) ?_
       rotate_left
       ·clear hW; go_simp; try (with_reducible rfl)
       try simp only [Act.put, List.setIfInBounds_toArray, List.set_cons_zero, List.set_cons_succ]
       refine wpC_read (v := ?_) rfl (fun W hW => ?_) ?_
       rotate_left
       ·clear hW; go_simp; try (with_reducible rfl)
       try simp only [Act.put, List.setIfInBounds_toArray, List.set_cons_zero, List.set_cons_succ]
       refine wpQuiet_nil (HQQ.out _ (fun W hW => ?_))
       obtain ⟨t0, t1, t2, t3, t4, t5, t6, q0, q1, q2, q3, q4, qp⟩ := hS.out W hW
       have HGO := Lib.hid (HG)
       have HPAR := Lib.hid (HFL.out.2 hF)
       cases bP with
       | false =>
        have HB := Lib.hid (hbad.out (.inr (.inr (.inr (.inl rfl)))))
        have hc := hPr.out _ hW
        rw [if_neg (by decide)] at hc
        go_wp2_with fail
        refine (hc).mono ?_
        rintro e w6 ⟨rfl, hb6⟩
        have hWw6 := hW.trans (hb6.mono hW.size)
        clear hb6 t0 t1 t2 t3 t4 t5 t6 q0 q1 q2 q3 q4 qp
        obtain ⟨t0, t1, t2, t3, t4, t5, t6, q0, q1, q2, q3, q4, qp⟩ := hS.out _ hWw6
        go_wp2_with fail
        go_ret
        exact ⟨by rw [HB.out]; rfl, hbW.trans (hWw6.mono (by have := HSZ.out; omega))⟩
       | true =>
        have hc := hPr.out _ hW
        rw [if_pos rfl] at hc
        go_wp2_with fail
        refine (hc).mono ?_
        rintro e w6 ⟨rfl, hb6⟩
        have hWw6 := hW.trans (hb6.mono hW.size)
        clear hb6 t0 t1 t2 t3 t4 t5 t6 q0 q1 q2 q3 q4 qp
        obtain ⟨t0, t1, t2, t3, t4, t5, t6, q0, q1, q2, q3, q4, qp⟩ := hS.out _ hWw6
        clear hc
        have hc := hBk.out _ hWw6
        cases bB with
        | false =>
         have HB := Lib.hid (hbad.out (.inr (.inr (.inr (.inr (.inl rfl))))))
         rw [if_neg (by decide)] at hc
         go_wp2_with fail
         refine (hc).mono ?_
         rintro e w7 ⟨rfl, hb7⟩
         have hWw7 := hWw6.trans (hb7.mono hWw6.size)
         clear hb7 t0 t1 t2 t3 t4 t5 t6 q0 q1 q2 q3 q4 qp
         obtain ⟨t0, t1, t2, t3, t4, t5, t6, q0, q1, q2, q3, q4, qp⟩ := hS.out _ hWw7
         go_wp2_with fail
         go_ret
         exact ⟨by rw [HB.out]; rfl, hbW.trans (hWw7.mono (by have := HSZ.out; omega))⟩
        | true =>
         rw [if_pos rfl] at hc
         go_wp2_with fail
         refine (hc).mono ?_
         rintro e w7 ⟨rfl, hb7⟩
         have hWw7 := hWw6.trans (hb7.mono hWw6.size)
         clear hb7 t0 t1 t2 t3 t4 t5 t6 q0 q1 q2 q3 q4 qp
         obtain ⟨t0, t1, t2, t3, t4, t5, t6, q0, q1, q2, q3, q4, qp⟩ := hS.out _ hWw7
         clear hc
         have hc := hSn.out _ hWw7
         cases bS with
         | false =>
          have HB := Lib.hid (hbad.out (.inr (.inr (.inr (.inr (.inr (.inl rfl)))))))
          go_wp2_with fail
          refine (hc).mono ?_
          rintro e w8 ⟨rfl, hb8⟩
          have hWw8 := hWw7.trans (hb8.mono hWw7.size)
          clear hb8 t0 t1 t2 t3 t4 t5 t6 q0 q1 q2 q3 q4 qp
          obtain ⟨t0, t1, t2, t3, t4, t5, t6, q0, q1, q2, q3, q4, qp⟩ := hS.out _ hWw8
          go_wp2_with fail
          go_ret
          exact ⟨by rw [HB.out]; rfl, hbW.trans (hWw8.mono (by have := HSZ.out; omega))⟩
         | true =>
          go_wp2_with fail
          refine (hc).mono ?_
          rintro e w8 ⟨rfl, hb8⟩
          have hWw8 := hWw7.trans (hb8.mono hWw7.size)
          clear hb8 t0 t1 t2 t3 t4 t5 t6 q0 q1 q2 q3 q4 qp
          obtain ⟨t0, t1, t2, t3, t4, t5, t6, q0, q1, q2, q3, q4, qp⟩ := hS.out _ hWw8
          clear hc
          have hc := hOr.out _ hWw8
          cases bO with
          | false =>
           have HB := Lib.hid (hbad.out (.inr (.inr (.inr (.inr (.inr (.inr rfl)))))))
           go_wp2_with fail
           refine (hc).mono ?_
           rintro e w9 ⟨rfl, hb9⟩
           have hWw9 := hWw8.trans (hb9.mono hWw8.size)
           clear hb9 t0 t1 t2 t3 t4 t5 t6 q0 q1 q2 q3 q4 qp
           obtain ⟨t0, t1, t2, t3, t4, t5, t6, q0, q1, q2, q3, q4, qp⟩ := hS.out _ hWw9
           go_wp2_with fail
           go_ret
           exact ⟨by rw [HB.out]; rfl, hbW.trans (hWw9.mono (by have := HSZ.out; omega))⟩
          | true =>
           have HGG := Lib.hid (hgood.out (by trivial) HGO.out HPAR.out (by trivial) (by trivial) (by trivial) (by trivial))
           go_wp2_with fail
           refine (hc).mono ?_
           rintro e w9 ⟨rfl, hb9⟩
           have hWw9 := hWw8.trans (hb9.mono hWw8.size)
           clear hb9 t0 t1 t2 t3 t4 t5 t6 q0 q1 q2 q3 q4 qp
           obtain ⟨t0, t1, t2, t3, t4, t5, t6, q0, q1, q2, q3, q4, qp⟩ := hS.out _ hWw9
           have hbf := HB1.out.trans (hWw9.mono (by have := HSZ.out; have := HB1.out.size; omega))
           clear hc
           go_wp2_with fail
           go_roundw
           case rel => exact ⟨k + 1, by omega, by go_num, HGG.out, hbf⟩
           case measure => simp [intOf]; omega
  ·have hkn : k = n := by omega
   have HF : Hid (V = true) := by
    show _ = _
    rw [hok.out, List.drop_of_length_le (by rw [hkn, HN.out]; exact Nat.le_refl _)]
    rfl
   clear hkn
   go_wp2_with fail
   go_ret
   exact ⟨by rw [HF.out]; rfl, HB0.out.trans (hbw.mono (by have := HSZ1.out; omega))⟩
end Go.Proofs.YteafdncnnamakaaGreatDoor

/-
 The page's SameSnap, SameSet at equal contents: they answer true.
-/
namespace Go.Proofs.YteafdncnnamakaaGreatDoor
open Go.RowKit

theorem rsameT_any (l : List BlkT) (n : Nat) (hn : n = l.length) (A A' : Option Addr) (c c' : Nat) (w : World) (B : Nat) (hr : Reads w B 2 A n (bcells l)) (hr' : Reads w B 2 A' n (bcells l)) (hm : n ≤ 1000000000000) :
  Calls Tryz.prog 101 #[.slice A n c, .slice A' n c'] w fun e w' => e = .returned (.bool true) ∧ Below w.heap.size w w' := by
 refine (bksame_any l l n n hn hn A A' c c' w B B hr hr' (by omega)).mono ?_
 rintro e w1 ⟨rfl, q, rfl⟩
 exact ⟨by simp, below_drewN (Below.refl _ _) q⟩
theorem samePropsT_any (l : List (BS × BS)) (n : Nat) (hn : n = l.length) (A A' : Option Addr) (c c' : Nat) (w : World) (B : Nat) (hr : Reads w B 2 A n (pcells l)) (hr' : Reads w B 2 A' n (pcells l)) (hm : n ≤ 1000000000000) :
  Calls Tryz.prog 102 #[.slice A n c, .slice A' n c'] w fun e w' => e = .returned (.bool true) ∧ Below w.heap.size w w' := by
 refine (sameProps_any l l n n hn hn A A' c c' w B B hr hr' (by omega) (by omega)).mono ?_
 rintro e w1 ⟨rfl, q, rfl⟩
 exact ⟨by simp, below_drewN (Below.refl _ _) q⟩
set_option maxRecDepth 100000 in
set_option maxHeartbeats 4000000 in
theorem sameSnapT_any (nm : BS) (gd : Int) (bl : List BlkT) (tl : List BS) (ol : List (BS × BS)) (b1 b1' : Option Addr) (bn b3 b3' : Nat) (t1 t1' : Option Addr) (tn t3 t3' : Nat) (o1 o1' : Option Addr) (on o3 o3' : Nat) (w : World) (B : Nat) (hB : B ≤ w.heap.size)
  (hbn : bn = bl.length) (htn : tn = tl.length) (hon : on = ol.length) (hb : Reads w B 2 b1 bn (bcells bl)) (hb' : Reads w B 2 b1' bn (bcells bl)) (ht : Reads w B 1 t1 tn (scells tl)) (ht' : Reads w B 1 t1' tn (scells tl)) (ho : Reads w B 2 o1 on (pcells ol)) (ho' : Reads w B 2 o1' on (pcells ol))
  (hbm : bn ≤ 1000000000000) (htm : tn ≤ 1000000000000) (hom : on ≤ 1000000000000) :
  Calls Tryz.prog 103 #[.agg #[.string ⟨nm.toArray⟩, .int .i64 gd, .slice b1 bn b3, .slice t1 tn t3, .slice o1 on o3], .agg #[.string ⟨nm.toArray⟩, .int .i64 gd, .slice b1' bn b3', .slice t1' tn t3', .slice o1' on o3']] w fun e w' => e = .returned (.bool true) ∧ Below w.heap.size w w' := by
 have hb1 := (Below.refl w.heap.size w).alloc (Nat.le_refl _) (.cells #[.string ⟨nm.toArray⟩, .int .i64 gd, .slice b1 bn b3, .slice t1 tn t3, .slice o1 on o3] 75)
 have hb2 := hb1.alloc hb1.size (.cells #[.string ⟨nm.toArray⟩, .int .i64 gd, .slice b1' bn b3', .slice t1' tn t3', .slice o1' on o3'] 75)
 have k1 := (Blk.new w 75 #[.string ⟨nm.toArray⟩, .int .i64 gd, .slice b1 bn b3, .slice t1 tn t3, .slice o1 on o3]).alloc (.cells #[.string ⟨nm.toArray⟩, .int .i64 gd, .slice b1' bn b3', .slice t1' tn t3', .slice o1' on o3'] 75)
 have k2 := Blk.new (w.alloc (.cells #[.string ⟨nm.toArray⟩, .int .i64 gd, .slice b1 bn b3, .slice t1 tn t3, .slice o1 on o3] 75)) 75 #[.string ⟨nm.toArray⟩, .int .i64 gd, .slice b1' bn b3', .slice t1' tn t3', .slice o1' on o3']
 rw [show (w.alloc (.cells #[.string ⟨nm.toArray⟩, .int .i64 gd, .slice b1 bn b3, .slice t1 tn t3, .slice o1 on o3] 75)).heap.size = w.heap.size + 1 by simp] at k2
 obtain ⟨W2, hW2⟩ : ∃ W, W = (w.alloc (.cells #[.string ⟨nm.toArray⟩, .int .i64 gd, .slice b1 bn b3, .slice t1 tn t3, .slice o1 on o3] 75)).alloc (.cells #[.string ⟨nm.toArray⟩, .int .i64 gd, .slice b1' bn b3', .slice t1' tn t3', .slice o1' on o3'] 75) := ⟨_, rfl⟩
 have hsz : W2.heap.size = w.heap.size + 2 := by rw [hW2]; simp
 rw [← hW2] at hb2 k1 k2
 have hS := Lib.hid (fun (W' : World) (hB' : Below W2.heap.size W2 W') => (⟨(k1.below hB' (by omega)).cell 0, (k1.below hB' (by omega)).cell 1, (k1.below hB' (by omega)).cell 2, (k1.below hB' (by omega)).cell 3, (k1.below hB' (by omega)).cell 4, (k2.below hB' (by omega)).cell 0, (k2.below hB' (by omega)).cell 1, (k2.below hB' (by omega)).cell 2, (k2.below hB' (by omega)).cell 3, (k2.below hB' (by omega)).cell 4⟩ : W'.cell? ⟨w.heap.size, 0, none⟩ = some (.string ⟨nm.toArray⟩) ∧ W'.cell? ⟨w.heap.size, 1, none⟩ = some (.int .i64 gd) ∧ W'.cell? ⟨w.heap.size, 2, none⟩ = some (.slice b1 bn b3) ∧ W'.cell? ⟨w.heap.size, 3, none⟩ = some (.slice t1 tn t3) ∧ W'.cell? ⟨w.heap.size, 4, none⟩ = some (.slice o1 on o3) ∧ W'.cell? ⟨w.heap.size + 1, 0, none⟩ = some (.string ⟨nm.toArray⟩) ∧ W'.cell? ⟨w.heap.size + 1, 1, none⟩ = some (.int .i64 gd) ∧ W'.cell? ⟨w.heap.size + 1, 2, none⟩ = some (.slice b1' bn b3') ∧ W'.cell? ⟨w.heap.size + 1, 3, none⟩ = some (.slice t1' tn t3') ∧ W'.cell? ⟨w.heap.size + 1, 4, none⟩ = some (.slice o1' on o3')))
 have HSZ := Lib.hid hsz
 have HB2 := Lib.hid hb2
 have hmv : ∀ W', Below W2.heap.size W2 W' → Below B w W' := fun W' hB' => (hb2.trans (hB'.mono (by omega))).mono hB
 have hBd : Hid (∀ W, Below W2.heap.size W2 W → Calls Tryz.prog 101 #[.slice b1 bn b3, .slice b1' bn b3'] W fun e W' => e = .returned (.bool true) ∧ Below W.heap.size W W') := fun W h => rsameT_any bl bn hbn b1 b1' b3 b3' W B (hb.below (hmv W h)) (hb'.below (hmv W h)) hbm
 have hPr : Hid (∀ W, Below W2.heap.size W2 W → Calls Tryz.prog 102 #[.slice o1 on o3, .slice o1' on o3'] W fun e W' => e = .returned (.bool true) ∧ Below W.heap.size W W') := fun W h => samePropsT_any ol on hon o1 o1' o3 o3' W B (ho.below (hmv W h)) (ho'.below (hmv W h)) hom
 have hTg : Hid (∀ W, Below W2.heap.size W2 W → Reads W B 1 t1 tn (scells tl) ∧ Reads W B 1 t1' tn (scells tl)) := fun W h => ⟨ht.below (hmv W h), ht'.below (hmv W h)⟩
 have HTN := Lib.hid htn
 clear hb1 hb2 k1 k2 hsz hmv hb hb' ht ht' ho ho' hbn htn hon
 have hW0 := Below.refl W2.heap.size W2
 go_enter Tryz.func103, Tryz.ntmps103
 go_wp2_with fail
 rw [← hW2]
 clear hW2
 refine (hBd.out _ hW0).mono ?_
 rintro e w3 ⟨rfl, hb3⟩
 have hW3 := hW0.trans (hb3.mono hW0.size)
 clear hb3 hBd
 obtain ⟨p0, p1, p2, p3, p4, q0, q1, q2, q3, q4⟩ := hS.out _ hW3
 go_wp2_with fail
 refine (hPr.out _ hW3).mono ?_
 rintro e w4 ⟨rfl, hb4⟩
 have hW4 := hW3.trans (hb4.mono hW3.size)
 clear hb4 hPr p0 p1 p2 p3 p4 q0 q1 q2 q3 q4
 obtain ⟨p0, p1, p2, p3, p4, q0, q1, q2, q3, q4⟩ := hS.out _ hW4
 go_wp2_with fail
 clear p0 p1 p2 p3 p4 q0 q1 q2 q3 q4
 go_loopw [5] (fun j wr => ∃ k : Nat, k ≤ tn ∧ j = .int .i64 (k : Int) ∧ Below W2.heap.size W2 wr) (fun j _ => tn - (intOf j).toNat)
 case atStart => exact ⟨0, Nat.zero_le _, rfl, hW4⟩
 case round =>
  clear hW4 hW3 hW0
  obtain ⟨k, hk, rfl, hWr⟩ := hrel
  obtain ⟨p0, p1, p2, p3, p4, q0, q1, q2, q3, q4⟩ := hS.out _ hWr
  by_cases hlt : k < tn
  ·have hki : (k : Int) < (tn : Int) := by omega
   obtain ⟨r1, r2⟩ := hTg.out _ hWr
   obtain ⟨ad, rfl, -, c0⟩ := strs_at r1 HTN.out hlt
   obtain ⟨ad2, rfl, -, d0⟩ := strs_at r2 HTN.out hlt
   obtain ⟨x, hx⟩ : ∃ x, x = tl[k]'(by have := HTN.out; omega) := ⟨_, rfl⟩
   rw [← hx] at c0 d0
   simp only [strV] at c0 d0
   clear hx r1 r2 hTg
   go_wp2_with fail
   go_big_quiet (fail)
   go_wp2_with fail
   go_roundw
   case rel => exact ⟨k + 1, by omega, by go_num, below_drewN hWr _⟩
   case measure => simp [intOf]; omega
  ·clear hTg
   go_wp2_with fail
   go_ret
   exact ⟨rfl, HB2.out.trans (hWr.mono (by have := HSZ.out; omega))⟩
/-- snapshots of one content -/
structure SnapR.eqv (x y : SnapR) : Prop where
 nm : x.nm = y.nm
 gd : x.gd = y.gd
 body : x.body.l = y.body.l
 tags : x.tags.l = y.tags.l
 own : x.own.l = y.own.l
theorem sameSnapR_any (x y : SnapR) (h : x.eqv y) (w : World) (B : Nat) (hB : B ≤ w.heap.size) (hx : x.rd w B) (hy : y.rd w B) (hz : x.sz) :
  Calls Tryz.prog 103 #[.agg #[.string ⟨x.nm.toArray⟩, .int .i64 x.gd, .slice x.body.A x.body.n x.body.c, .slice x.tags.A x.tags.n x.tags.c, .slice x.own.A x.own.n x.own.c], .agg #[.string ⟨y.nm.toArray⟩, .int .i64 y.gd, .slice y.body.A y.body.n y.body.c, .slice y.tags.A y.tags.n y.tags.c, .slice y.own.A y.own.n y.own.c]] w fun e w' => e = .returned (.bool true) ∧ Below w.heap.size w w' := by
 obtain ⟨h1, h2, h3, h4, h5⟩ := h
 obtain ⟨nm, gd, ⟨b1, bn, b3, bl⟩, ⟨t1, tn, t3, tl⟩, ⟨o1, on, o3, ol⟩⟩ := x
 obtain ⟨nm', gd', ⟨b1', bn', b3', bl'⟩, ⟨t1', tn', t3', tl'⟩, ⟨o1', on', o3', ol'⟩⟩ := y
 simp only at h1 h2 h3 h4 h5
 subst h1 h2 h3 h4 h5
 have e1 : bn' = bn := hy.body.1.trans hx.body.1.symm
 have e2 : tn' = tn := hy.tags.1.trans hx.tags.1.symm
 have e3 : on' = on := hy.own.1.trans hx.own.1.symm
 subst e1 e2 e3
 exact sameSnapT_any nm gd bl tl ol b1 b1' bn' b3 b3' t1 t1' tn' t3 t3' o1 o1' on' o3 o3' w B hB hx.body.1 hx.tags.1 hx.own.1 hx.body.2.2 hy.body.2.2 (by rw [← scells_enc]; exact hx.tags.2.2) (by rw [← scells_enc]; exact hy.tags.2.2) hx.own.2.2 hy.own.2.2 hz.body hz.tags hz.own
set_option maxRecDepth 100000 in
set_option maxHeartbeats 4000000 in
theorem sameSetT_any (pa og : BS) (bl : List BlkT) (sl sl' : List SnapR) (ol : List (BS × BS)) (b1 b1' : Option Addr) (bn b3 b3' : Nat) (s1 s1' : Option Addr) (sn s3 s3' : Nat) (o1 o1' : Option Addr) (on o3 o3' : Nat) (w : World) (B : Nat) (hB : B ≤ w.heap.size)
  (hbn : bn = bl.length) (hsn : sn = sl.length) (hsn' : sn = sl'.length) (hon : on = ol.length) (hb : Reads w B 2 b1 bn (bcells bl)) (hb' : Reads w B 2 b1' bn (bcells bl)) (ht : Reads w B 5 s1 sn (cellsK encSnap sl)) (ht' : Reads w B 5 s1' sn (cellsK encSnap sl')) (ho : Reads w B 2 o1 on (pcells ol)) (ho' : Reads w B 2 o1' on (pcells ol))
  (he : ∀ y ∈ sl, y.rd w B) (he' : ∀ y ∈ sl', y.rd w B) (heq : ∀ i (h : i < sl.length) (h' : i < sl'.length), (sl[i]'h).eqv (sl'[i]'h')) (hz : ∀ y ∈ sl, y.sz) (hbm : bn ≤ 1000000000000) (htm : sn ≤ 1000000000000) (hom : on ≤ 1000000000000) :
  Calls Tryz.prog 47 #[.agg #[.string ⟨pa.toArray⟩, .string ⟨og.toArray⟩, .slice b1 bn b3, .slice s1 sn s3, .slice o1 on o3], .agg #[.string ⟨pa.toArray⟩, .string ⟨og.toArray⟩, .slice b1' bn b3', .slice s1' sn s3', .slice o1' on o3']] w fun e w' => e = .returned (.bool true) ∧ Below w.heap.size w w' := by
 have hb1 := (Below.refl w.heap.size w).alloc (Nat.le_refl _) (.cells #[.string ⟨pa.toArray⟩, .string ⟨og.toArray⟩, .slice b1 bn b3, .slice s1 sn s3, .slice o1 on o3] 63)
 have hb2 := hb1.alloc hb1.size (.cells #[.string ⟨pa.toArray⟩, .string ⟨og.toArray⟩, .slice b1' bn b3', .slice s1' sn s3', .slice o1' on o3'] 63)
 have k1 := (Blk.new w 63 #[.string ⟨pa.toArray⟩, .string ⟨og.toArray⟩, .slice b1 bn b3, .slice s1 sn s3, .slice o1 on o3]).alloc (.cells #[.string ⟨pa.toArray⟩, .string ⟨og.toArray⟩, .slice b1' bn b3', .slice s1' sn s3', .slice o1' on o3'] 63)
 have k2 := Blk.new (w.alloc (.cells #[.string ⟨pa.toArray⟩, .string ⟨og.toArray⟩, .slice b1 bn b3, .slice s1 sn s3, .slice o1 on o3] 63)) 63 #[.string ⟨pa.toArray⟩, .string ⟨og.toArray⟩, .slice b1' bn b3', .slice s1' sn s3', .slice o1' on o3']
 rw [show (w.alloc (.cells #[.string ⟨pa.toArray⟩, .string ⟨og.toArray⟩, .slice b1 bn b3, .slice s1 sn s3, .slice o1 on o3] 63)).heap.size = w.heap.size + 1 by simp] at k2
 obtain ⟨W2, hW2⟩ : ∃ W, W = (w.alloc (.cells #[.string ⟨pa.toArray⟩, .string ⟨og.toArray⟩, .slice b1 bn b3, .slice s1 sn s3, .slice o1 on o3] 63)).alloc (.cells #[.string ⟨pa.toArray⟩, .string ⟨og.toArray⟩, .slice b1' bn b3', .slice s1' sn s3', .slice o1' on o3'] 63) := ⟨_, rfl⟩
 have hsz : W2.heap.size = w.heap.size + 2 := by rw [hW2]; simp
 rw [← hW2] at hb2 k1 k2
 have hS := Lib.hid (fun (W' : World) (hB' : Below W2.heap.size W2 W') => (⟨(k1.below hB' (by omega)).cell 0, (k1.below hB' (by omega)).cell 1, (k1.below hB' (by omega)).cell 2, (k1.below hB' (by omega)).cell 3, (k1.below hB' (by omega)).cell 4, (k2.below hB' (by omega)).cell 0, (k2.below hB' (by omega)).cell 1, (k2.below hB' (by omega)).cell 2, (k2.below hB' (by omega)).cell 3, (k2.below hB' (by omega)).cell 4⟩ : W'.cell? ⟨w.heap.size, 0, none⟩ = some (.string ⟨pa.toArray⟩) ∧ W'.cell? ⟨w.heap.size, 1, none⟩ = some (.string ⟨og.toArray⟩) ∧ W'.cell? ⟨w.heap.size, 2, none⟩ = some (.slice b1 bn b3) ∧ W'.cell? ⟨w.heap.size, 3, none⟩ = some (.slice s1 sn s3) ∧ W'.cell? ⟨w.heap.size, 4, none⟩ = some (.slice o1 on o3) ∧ W'.cell? ⟨w.heap.size + 1, 0, none⟩ = some (.string ⟨pa.toArray⟩) ∧ W'.cell? ⟨w.heap.size + 1, 1, none⟩ = some (.string ⟨og.toArray⟩) ∧ W'.cell? ⟨w.heap.size + 1, 2, none⟩ = some (.slice b1' bn b3') ∧ W'.cell? ⟨w.heap.size + 1, 3, none⟩ = some (.slice s1' sn s3') ∧ W'.cell? ⟨w.heap.size + 1, 4, none⟩ = some (.slice o1' on o3')))
 have HSZ := Lib.hid hsz
 have HB2 := Lib.hid hb2
 have hmv : ∀ W', Below W2.heap.size W2 W' → Below B w W' := fun W' hB' => (hb2.trans (hB'.mono (by omega))).mono hB
 have hBd : Hid (∀ W, Below W2.heap.size W2 W → Calls Tryz.prog 101 #[.slice b1 bn b3, .slice b1' bn b3'] W fun e W' => e = .returned (.bool true) ∧ Below W.heap.size W W') := fun W h => rsameT_any bl bn hbn b1 b1' b3 b3' W B (hb.below (hmv W h)) (hb'.below (hmv W h)) hbm
 have hPr : Hid (∀ W, Below W2.heap.size W2 W → Calls Tryz.prog 102 #[.slice o1 on o3, .slice o1' on o3'] W fun e W' => e = .returned (.bool true) ∧ Below W.heap.size W W') := fun W h => samePropsT_any ol on hon o1 o1' o3 o3' W B (ho.below (hmv W h)) (ho'.below (hmv W h)) hom
 have hTg : Hid (∀ W, Below W2.heap.size W2 W → Reads W B 5 s1 sn (cellsK encSnap sl) ∧ Reads W B 5 s1' sn (cellsK encSnap sl') ∧ B ≤ W.heap.size ∧ (∀ y ∈ sl, y.rd W B) ∧ ∀ y ∈ sl', y.rd W B) := fun W h => ⟨ht.below (hmv W h), ht'.below (hmv W h), by have := h.size; omega, fun y hy => ⟨(he y hy).body.below (hmv W h), (he y hy).tags.below (hmv W h), (he y hy).own.below (hmv W h)⟩, fun y hy => ⟨(he' y hy).body.below (hmv W h), (he' y hy).tags.below (hmv W h), (he' y hy).own.below (hmv W h)⟩⟩
 have HSN := Lib.hid hsn
 have HSN' := Lib.hid hsn'
 have HEQ := Lib.hid heq
 have HZ := Lib.hid hz
 clear hb1 hb2 k1 k2 hsz hmv hb hb' ht ht' ho ho' hbn hsn hsn' hon he he' heq hz
 have hW0 := Below.refl W2.heap.size W2
 go_enter Tryz.func47, Tryz.ntmps47
 go_wp2_with fail
 rw [← hW2]
 clear hW2
 refine (hBd.out _ hW0).mono ?_
 rintro e w3 ⟨rfl, hb3⟩
 have hW3 := hW0.trans (hb3.mono hW0.size)
 clear hb3 hBd
 obtain ⟨p0, p1, p2, p3, p4, q0, q1, q2, q3, q4⟩ := hS.out _ hW3
 go_wp2_with fail
 refine (hPr.out _ hW3).mono ?_
 rintro e w4 ⟨rfl, hb4⟩
 have hW4 := hW3.trans (hb4.mono hW3.size)
 clear hb4 hPr p0 p1 p2 p3 p4 q0 q1 q2 q3 q4
 obtain ⟨p0, p1, p2, p3, p4, q0, q1, q2, q3, q4⟩ := hS.out _ hW4
 go_wp2_with fail
 clear p0 p1 p2 p3 p4 q0 q1 q2 q3 q4
 go_loopw [5] (fun j wr => ∃ k : Nat, k ≤ sn ∧ j = .int .i64 (k : Int) ∧ Below W2.heap.size W2 wr) (fun j _ => sn - (intOf j).toNat)
 case atStart => exact ⟨0, Nat.zero_le _, rfl, hW4⟩
 case round =>
  clear hW4 hW3 hW0
  obtain ⟨k, hk, rfl, hWr⟩ := hrel
  obtain ⟨p0, p1, p2, p3, p4, q0, q1, q2, q3, q4⟩ := hS.out _ hWr
  by_cases hlt : k < sn
  ·have hki : (k : Int) < (sn : Int) := by omega
   obtain ⟨r1, r2, -⟩ := hTg.out _ hWr
   obtain ⟨ad, rfl, -⟩ := snap_at r1 HSN.out hlt
   obtain ⟨ad2, rfl, -⟩ := snap_at r2 HSN'.out hlt
   have hkl : k < sl.length := by have := HSN.out; omega
   have hkl' : k < sl'.length := by have := HSN'.out; omega
   have hev := HEQ.out k hkl hkl'
   have hxm : sl[k]'hkl ∈ sl := List.getElem_mem _
   have hym : sl'[k]'hkl' ∈ sl' := List.getElem_mem _
   have hX : Hid (∀ W, Below W2.heap.size W2 W → (W.cell? (ad.add (k * 5)) = some (.string ⟨(sl[k]'hkl).nm.toArray⟩) ∧ W.cell? ⟨(ad.add (k * 5)).block, (ad.add (k * 5)).off + 1, none⟩ = some (.int .i64 (sl[k]'hkl).gd) ∧ W.cell? ⟨(ad.add (k * 5)).block, (ad.add (k * 5)).off + 2, none⟩ = some (.slice (sl[k]'hkl).body.A (sl[k]'hkl).body.n (sl[k]'hkl).body.c) ∧ W.cell? ⟨(ad.add (k * 5)).block, (ad.add (k * 5)).off + 3, none⟩ = some (.slice (sl[k]'hkl).tags.A (sl[k]'hkl).tags.n (sl[k]'hkl).tags.c) ∧ W.cell? ⟨(ad.add (k * 5)).block, (ad.add (k * 5)).off + 4, none⟩ = some (.slice (sl[k]'hkl).own.A (sl[k]'hkl).own.n (sl[k]'hkl).own.c)) ∧ (W.cell? (ad2.add (k * 5)) = some (.string ⟨(sl'[k]'hkl').nm.toArray⟩) ∧ W.cell? ⟨(ad2.add (k * 5)).block, (ad2.add (k * 5)).off + 1, none⟩ = some (.int .i64 (sl'[k]'hkl').gd) ∧ W.cell? ⟨(ad2.add (k * 5)).block, (ad2.add (k * 5)).off + 2, none⟩ = some (.slice (sl'[k]'hkl').body.A (sl'[k]'hkl').body.n (sl'[k]'hkl').body.c) ∧ W.cell? ⟨(ad2.add (k * 5)).block, (ad2.add (k * 5)).off + 3, none⟩ = some (.slice (sl'[k]'hkl').tags.A (sl'[k]'hkl').tags.n (sl'[k]'hkl').tags.c) ∧ W.cell? ⟨(ad2.add (k * 5)).block, (ad2.add (k * 5)).off + 4, none⟩ = some (.slice (sl'[k]'hkl').own.A (sl'[k]'hkl').own.n (sl'[k]'hkl').own.c))) := by
    show ∀ W, _ → _
    intro W hb
    obtain ⟨u1, u2, -⟩ := hTg.out _ hb
    obtain ⟨ad3, e3, -, c⟩ := snap_at u1 HSN.out hlt
    obtain ⟨ad4, e4, -, d⟩ := snap_at u2 HSN'.out hlt
    injection e3 with e3
    injection e4 with e4
    subst e3 e4
    exact ⟨c, d⟩
   have hSS : Hid (∀ W, Below W2.heap.size W2 W → Calls Tryz.prog 103 #[.agg #[.string ⟨(sl[k]'hkl).nm.toArray⟩, .int .i64 (sl[k]'hkl).gd, .slice (sl[k]'hkl).body.A (sl[k]'hkl).body.n (sl[k]'hkl).body.c, .slice (sl[k]'hkl).tags.A (sl[k]'hkl).tags.n (sl[k]'hkl).tags.c, .slice (sl[k]'hkl).own.A (sl[k]'hkl).own.n (sl[k]'hkl).own.c], .agg #[.string ⟨(sl'[k]'hkl').nm.toArray⟩, .int .i64 (sl'[k]'hkl').gd, .slice (sl'[k]'hkl').body.A (sl'[k]'hkl').body.n (sl'[k]'hkl').body.c, .slice (sl'[k]'hkl').tags.A (sl'[k]'hkl').tags.n (sl'[k]'hkl').tags.c, .slice (sl'[k]'hkl').own.A (sl'[k]'hkl').own.n (sl'[k]'hkl').own.c]] W fun e W' => e = .returned (.bool true) ∧ Below W.heap.size W W') := fun W hb => by
    obtain ⟨-, -, u3, u4, u5⟩ := hTg.out _ hb
    exact sameSnapR_any _ _ hev W B u3 (u4 _ hxm) (u5 _ hym) (HZ.out _ hxm)
   obtain ⟨x, hx⟩ : ∃ x, x = sl[k]'hkl := ⟨_, rfl⟩
   obtain ⟨y, hy⟩ : ∃ y, y = sl'[k]'hkl' := ⟨_, rfl⟩
   rw [← hx, ← hy] at hX hSS
   obtain ⟨nm, gd, ⟨f1, f2, f3, fl⟩, ⟨t1, t2, t3, tl⟩, ⟨u1, u2, u3, ul⟩⟩ := x
   obtain ⟨nm', gd', ⟨f1', f2', f3', fl'⟩, ⟨t1', t2', t3', tl'⟩, ⟨u1', u2', u3', ul'⟩⟩ := y
   simp only at hX hSS
   clear hx hy hev hxm hym r1 r2 hTg HEQ HZ
   go_wp2_with fail
   clear p0 p1 p2 p3 p4 q0 q1 q2 q3 q4
   refine wpC_region (fun W' => Below W2.heap.size W2 W') (by kernel_rfl) (by kernel_rfl) (hWr.drew) (fun OPS D QQ HO hD hD2 hQQ => ?_)
   clear HO
   have HD := Lib.hid hD
   have HD2 := Lib.hid hD2
   have HQQ := Lib.hid hQQ
   clear hD hD2 hQQ
   refine wpC_readS (v := ?_) rfl rfl (fun W hW => ?_) ?_
   rotate_left
   ·clear hW; go_simp; try (with_reducible rfl)
   dsimp only [List.set_cons_zero, List.set_cons_succ]
   refine wpC_readS (v := ?_) rfl rfl (fun W hW => ?_) ?_
   rotate_left
   ·replace hW := HD.out W hW
    skip
    obtain ⟨-, -, -, p3, -⟩ := hS.out _ hW
    go_simp; try (with_reducible rfl)
   dsimp only [List.set_cons_zero, List.set_cons_succ]
   refine wpC_readS (v := ?_) rfl rfl (fun W hW => ?_) ?_
   rotate_left
   ·clear hW; go_simp; try (with_reducible rfl)
   dsimp only [List.set_cons_zero, List.set_cons_succ]
   refine wpC_readS (v := ?_) rfl rfl (fun W hW => ?_) ?_
   rotate_left
   ·clear hW; go_simp; try (with_reducible rfl)
   dsimp only [List.set_cons_zero, List.set_cons_succ]
   refine wpC_readS (v := ?_) rfl rfl (fun W hW => ?_) ?_
   rotate_left
   ·replace hW := HD.out W hW
    skip
    obtain ⟨⟨c0, c1, c2, c3, c4⟩, -⟩ := hX.out W hW
    go_simp; try (with_reducible rfl)
   dsimp only [List.set_cons_zero, List.set_cons_succ]
   refine wpC_readS (v := ?_) rfl rfl (fun W hW => ?_) ?_
   rotate_left
   ·clear hW; go_simp; try (with_reducible rfl)
   dsimp only [List.set_cons_zero, List.set_cons_succ]
   refine wpC_readS (v := ?_) rfl rfl (fun W hW => ?_) ?_
   rotate_left
   ·replace hW := HD.out W hW
    skip
    obtain ⟨-, -, -, -, -, -, -, -, q3, -⟩ := hS.out _ hW
    go_simp; try (with_reducible rfl)
   dsimp only [List.set_cons_zero, List.set_cons_succ]
   refine wpC_readS (v := ?_) rfl rfl (fun W hW => ?_) ?_
   rotate_left
   ·clear hW; go_simp; try (with_reducible rfl)
   dsimp only [List.set_cons_zero, List.set_cons_succ]
   refine wpC_readS (v := ?_) rfl rfl (fun W hW => ?_) ?_
   rotate_left
   ·clear hW; go_simp; try (with_reducible rfl)
   dsimp only [List.set_cons_zero, List.set_cons_succ]
   refine wpC_readS (v := ?_) rfl rfl (fun W hW => ?_) ?_
   rotate_left
   ·replace hW := HD.out W hW
    skip
    obtain ⟨-, ⟨d0, d1, d2, d3, d4⟩⟩ := hX.out W hW
    go_simp; try (with_reducible rfl)
   dsimp only [List.set_cons_zero, List.set_cons_succ]
   refine wpC_readS (v := .bool true) rfl rfl (fun W hW => ?_) ?_
   ·replace hW := HD.out W hW
    skip
    go_simp
    refine (hSS.out _ hW).mono ?_
    rintro e w5 ⟨rfl, hbn⟩
    exact ⟨rfl, HD2.out _ (below_step hW hbn)⟩
   dsimp only [List.set_cons_zero, List.set_cons_succ]
   refine wpC_readS (v := ?_) rfl rfl (fun W hW => ?_) ?_
   rotate_left
   ·clear hW; go_simp; try (with_reducible rfl)
   dsimp only [List.set_cons_zero, List.set_cons_succ]
   refine wpQuiet_nil (HQQ.out _ (fun W hW => ?_))
   skip
   go_wp2_with fail
   go_roundw
   case rel => exact ⟨k + 1, by omega, by go_num, hW⟩
   case measure => simp [intOf]; omega
  ·clear hTg
   go_wp2_with fail
   go_ret
   exact ⟨rfl, HB2.out.trans (hWr.mono (by have := HSZ.out; omega))⟩
/-- sets of one content -/
structure SetR.eqv (x y : SetR) : Prop where
 path : x.path = y.path
 org : x.org = y.org
 body : x.body.l = y.body.l
 len : x.snaps.l.length = y.snaps.l.length
 each : ∀ i (h : i < x.snaps.l.length) (h' : i < y.snaps.l.length), (x.snaps.l[i]'h).eqv (y.snaps.l[i]'h')
 own : x.own.l = y.own.l
theorem sameSetR_any (x y : SetR) (h : x.eqv y) (w : World) (B : Nat) (hB : B ≤ w.heap.size) (hx : x.rd w B) (hy : y.rd w B) (hz : x.sz) :
  Calls Tryz.prog 47 #[.agg #[.string ⟨x.path.toArray⟩, .string ⟨x.org.toArray⟩, .slice x.body.A x.body.n x.body.c, .slice x.snaps.A x.snaps.n x.snaps.c, .slice x.own.A x.own.n x.own.c], .agg #[.string ⟨y.path.toArray⟩, .string ⟨y.org.toArray⟩, .slice y.body.A y.body.n y.body.c, .slice y.snaps.A y.snaps.n y.snaps.c, .slice y.own.A y.own.n y.own.c]] w fun e w' => e = .returned (.bool true) ∧ Below w.heap.size w w' := by
 obtain ⟨h1, h2, h3, h4, h5, h6⟩ := h
 obtain ⟨pa, og, ⟨b1, bn, b3, bl⟩, ⟨s1, sn, s3, sl⟩, ⟨o1, on, o3, ol⟩⟩ := x
 obtain ⟨pa', og', ⟨b1', bn', b3', bl'⟩, ⟨s1', sn', s3', sl'⟩, ⟨o1', on', o3', ol'⟩⟩ := y
 simp only at h1 h2 h3 h4 h5 h6
 subst h1 h2 h3 h6
 have e1 : bn' = bn := hy.body.1.trans hx.body.1.symm
 have e2 : sn' = sn := by rw [show sn' = sl'.length from hy.snaps.1, show sn = sl.length from hx.snaps.1, h4]
 have e3 : on' = on := hy.own.1.trans hx.own.1.symm
 subst e1 e2 e3
 exact sameSetT_any pa og bl sl sl' ol b1 b1' bn' b3 b3' s1 s1' sn' s3 s3' o1 o1' on' o3 o3' w B hB hx.body.1 hx.snaps.1 hy.snaps.1 hx.own.1 hx.body.2.2 hy.body.2.2 hx.snaps.2.2 hy.snaps.2.2 hx.own.2.2 hy.own.2.2 hx.each hy.each h5 hz.each hz.body hz.snaps hz.own
end Go.Proofs.YteafdncnnamakaaGreatDoor
