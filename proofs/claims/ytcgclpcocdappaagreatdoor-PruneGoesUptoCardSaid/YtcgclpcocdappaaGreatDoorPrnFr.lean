/-
  prune.Frees: by how much the charge is lowered, by its contract.
-/
import Derived.Test.YtcgclpcocdappaaGreatDoorPrnBaseGz
namespace Go.Proofs.YtcgclpcocdappaaGreatDoor
open Go.RowKit

def TenC.sumK (C : TenC) (p : BS) (l : List SnapC) (late k : Nat) : Nat := (((l.take (min k late)).filter (C.free p)).map fun x => 1 + x.body.length).sum
def TenC.sumS (C : TenC) (s : SetC) (keep : Int) : Nat := C.sumK s.path s.snaps (lateN keep s.snaps.length) s.snaps.length
def TenC.freesC (C : TenC) (p : BS) (keep : Int) : Nat := if C.find p < 0 then 0 else match C.sets[(C.find p).toNat]? with
  | none => 0
  | some s => C.sumS s keep
theorem sumK_zero (C : TenC) (p : BS) (l : List SnapC) (late : Nat) : C.sumK p l late 0 = 0 := by
  unfold TenC.sumK
  simp
theorem sumK_succ (C : TenC) (p : BS) (l : List SnapC) (late k : Nat) (x : SnapC) (hx : l[k]? = some x) : C.sumK p l late (k + 1) = C.sumK p l late k + (if (decide (k < late) && C.free p x) = true then 1 + x.body.length else 0) := by
  obtain ⟨hk, e⟩ := List.getElem?_eq_some_iff.1 hx
  unfold TenC.sumK
  by_cases h : k < late
  · rw [show min (k + 1) late = k + 1 by omega, show min k late = k by omega, List.take_succ_eq_append_getElem hk, e, List.filter_append, List.map_append, List.sum_append]
    congr 1
    rw [decide_eq_true h, Bool.true_and]
    by_cases h2 : C.free p x = true
    · rw [if_pos h2, List.filter_cons_of_pos h2]
      simp
    · rw [if_neg h2, List.filter_cons_of_neg h2]
      rfl
  · rw [show min (k + 1) late = late by omega, show min k late = late by omega, decide_eq_false h, Bool.false_and, if_neg Bool.false_ne_true, Nat.add_zero]
theorem sumK_le (C : TenC) (p : BS) (l : List SnapC) (late k n : Nat) (h : k ≤ n) : C.sumK p l late k ≤ C.sumK p l late n := by
  unfold TenC.sumK
  have e : l.take (min n late) = l.take (min k late) ++ (l.take (min n late)).drop (min k late) := by
    conv => lhs; rw [← List.take_append_drop (min k late) (l.take (min n late))]
    rw [List.take_take, Nat.min_eq_left (by omega)]
  rw [e, List.filter_append, List.map_append, List.sum_append]
  omega
set_option maxRecDepth 100000 in
set_option maxHeartbeats 8000000 in
theorem frees_any (t : TenR) (p : BS) (keep : Int) (w : World) (B : Nat) (hB : B ≤ w.heap.size) (hr : t.rd w B) (hz : t.sz) (hmx : HasMax w) (hs : t.con.freesC p keep ≤ 4000000000000000000) :
    Calls Tryz.prog 23 #[t.val, .string ⟨p.toArray⟩, .int .i64 keep] w fun e w' => e = .returned (.int .i64 (t.con.freesC p keep : Nat)) ∧ Below w.heap.size w w' := by
  obtain ⟨LL, hLL⟩ : ∃ L, L = t.con.freesC p keep := ⟨_, rfl⟩
  rw [← hLL] at hs ⊢
  have HLS := Lib.hid hs
  clear hs
  obtain ⟨nm, qu, nx, ⟨s1, sn, s3, sl⟩, ⟨gA, gN, gC, gL⟩, ⟨t1, tn, t3, tl⟩, ⟨l1, ln, l3, ll⟩⟩ := t
  show Calls Tryz.prog 23 #[.agg #[.string ⟨nm.toArray⟩, .int .i64 qu, .int .i64 nx, .slice s1 sn s3, .slice gA gN gC, .slice t1 tn t3, .slice l1 ln l3], .string ⟨p.toArray⟩, .int .i64 keep] w _
  have hb := ((Below.refl w.heap.size w).alloc (Nat.le_refl _) (.cells #[.string ⟨nm.toArray⟩, .int .i64 qu, .int .i64 nx, .slice s1 sn s3, .slice gA gN gC, .slice t1 tn t3, .slice l1 ln l3] 27))
  have kt := Blk.new w 27 #[.string ⟨nm.toArray⟩, .int .i64 qu, .int .i64 nx, .slice s1 sn s3, .slice gA gN gC, .slice t1 tn t3, .slice l1 ln l3]
  have hsz : (w.alloc (.cells #[.string ⟨nm.toArray⟩, .int .i64 qu, .int .i64 nx, .slice s1 sn s3, .slice gA gN gC, .slice t1 tn t3, .slice l1 ln l3] 27)).heap.size = w.heap.size + 1 := by simp
  obtain ⟨W1, hW1⟩ : ∃ W, W = (w.alloc (.cells #[.string ⟨nm.toArray⟩, .int .i64 qu, .int .i64 nx, .slice s1 sn s3, .slice gA gN gC, .slice t1 tn t3, .slice l1 ln l3] 27)) := ⟨_, rfl⟩
  rw [← hW1] at hb hsz kt
  have hKt : Hid (∀ W, Below W1.heap.size W1 W → Blk W w.heap.size 27 #[.string ⟨nm.toArray⟩, .int .i64 qu, .int .i64 nx, .slice s1 sn s3, .slice gA gN gC, .slice t1 tn t3, .slice l1 ln l3]) := fun W h => kt.below h (by omega)
  have hBW : Hid (∀ W, Below W1.heap.size W1 W → Below w.heap.size w W) := fun W h => hb.trans (h.mono (by omega))
  have hSZ : Hid (∀ W, Below W1.heap.size W1 W → w.heap.size + 1 ≤ W.heap.size) := fun W h => by have := h.size; omega
  have hW0 : Hid (Below W1.heap.size W1 W1) := Below.refl _ _
  have hrw : Hid (∀ W, Below W1.heap.size W1 W → TenR.rd W B ⟨nm, qu, nx, ⟨s1, sn, s3, sl⟩, ⟨gA, gN, gC, gL⟩, ⟨t1, tn, t3, tl⟩, ⟨l1, ln, l3, ll⟩⟩ ∧ B ≤ W.heap.size ∧ HasMax W) := fun W h =>
    ⟨TenR.rd.below hr ((hBW.out W h).mono hB), by have := hSZ.out W h; omega, hmx.below (hBW.out W h)⟩
  obtain ⟨C, hC⟩ : ∃ C, C = TenR.con ⟨nm, qu, nx, ⟨s1, sn, s3, sl⟩, ⟨gA, gN, gC, gL⟩, ⟨t1, tn, t3, tl⟩, ⟨l1, ln, l3, ll⟩⟩ := ⟨_, rfl⟩
  have hHC := Lib.hid hC
  rw [← hC] at hLL
  have hfs : findS sl p = C.find p := by rw [hC]; exact findS_con ⟨nm, qu, nx, ⟨s1, sn, s3, sl⟩, ⟨gA, gN, gC, gL⟩, ⟨t1, tn, t3, tl⟩, ⟨l1, ln, l3, ll⟩⟩ p
  have hFI : Hid (∀ W, Below W1.heap.size W1 W → Calls Tryz.prog 57 #[.agg #[.string ⟨nm.toArray⟩, .int .i64 qu, .int .i64 nx, .slice s1 sn s3, .slice gA gN gC, .slice t1 tn t3, .slice l1 ln l3], .string ⟨p.toArray⟩] W fun e w' => e = .returned (.int .i64 (findS sl p)) ∧ Below W.heap.size W w') := fun W h =>
    find_any _ _ _ _ _ _ sl sn hr.sets.1 s1 s3 p W B (hrw.out W h).1.sets.2.2 (hrw.out W h).2.1 (by have := hz.sets; simp only at this; omega)
  have hSN := Lib.hid (show sn = sl.length from hr.sets.1)
  have HZ := Lib.hid hz
  have HLL := Lib.hid hLL
  have hcs : firstI (fun s : SetR => s.path == p) sl = findS sl p := rfl
  rcases firstI_cases (fun s : SetR => s.path == p) sl with ⟨hf, -⟩ | ⟨k, hkl, hf, -⟩
  · rw [hcs] at hf
    have hfC : C.find p = -1 := by rw [← hfs, hf]
    have HL0 : Hid (LL = 0) := by
      show _ = _
      rw [hLL]
      unfold TenC.freesC
      rw [hfC, if_pos (by decide)]
    rw [hf] at hFI
    clear hb hsz kt hr hz hmx hC hLL hfs hcs hf hfC
    go_enter Tryz.func23, Tryz.ntmps23
    have hc := hFI.out  W1 hW0.out
    have kk := hKt.out W1 hW0.out
    obtain ⟨c0, c1, c2, c3, c4, c5, c6⟩ := (⟨kk.cell 0, kk.cell 1, kk.cell 2, kk.cell 3, kk.cell 4, kk.cell 5, kk.cell 6⟩ : _ ∧ _ ∧ _ ∧ _ ∧ _ ∧ _ ∧ _)
    simp only [List.getElem?_toArray, List.getElem?_cons_succ, List.getElem?_cons_zero] at c0 c1 c2 c3 c4 c5 c6
    clear kk
    go_wp2_with fail
    rw [← hW1]
    clear hW1
    refine hc.mono ?_
    clear hc c0 c1 c2 c3 c4 c5 c6
    rintro e w2 ⟨rfl, hb⟩
    have HW2 := Lib.hid (hW0.out.trans (hb.mono hW0.out.size))
    clear hb
    go_wp2_with fail
    go_ret
    rw [HL0.out]
    exact ⟨rfl, hBW.out _ HW2.out⟩
  · rw [hcs] at hf
    have hfC : C.find p = (k : Int) := by rw [← hfs, hf]
    have hxk : C.sets[k]? = some (sl[k]'hkl).con := by
      rw [hC]
      show (sl.map SetR.con)[k]? = _
      rw [List.getElem?_map, List.getElem?_eq_getElem hkl]
      rfl
    have HLK : Hid (LL = C.sumS (sl[k]'hkl).con keep) := by
      show _ = _
      rw [hLL]
      unfold TenC.freesC
      rw [hfC, if_neg (by omega), Int.toNat_natCast, hxk]
    rw [hf] at hFI
    clear hb hsz kt hr hz hmx hC hLL hfs hcs hf hfC hxk
    go_enter Tryz.func23, Tryz.ntmps23
    have hc := hFI.out  W1 hW0.out
    have kk := hKt.out W1 hW0.out
    obtain ⟨c0, c1, c2, c3, c4, c5, c6⟩ := (⟨kk.cell 0, kk.cell 1, kk.cell 2, kk.cell 3, kk.cell 4, kk.cell 5, kk.cell 6⟩ : _ ∧ _ ∧ _ ∧ _ ∧ _ ∧ _ ∧ _)
    simp only [List.getElem?_toArray, List.getElem?_cons_succ, List.getElem?_cons_zero] at c0 c1 c2 c3 c4 c5 c6
    clear kk
    go_wp2_with fail
    rw [← hW1]
    clear hW1
    refine hc.mono ?_
    clear hc c0 c1 c2 c3 c4 c5 c6
    rintro e w2 ⟨rfl, hb⟩
    have HW2 := Lib.hid (hW0.out.trans (hb.mono hW0.out.size))
    clear hb
    have hrk := (hrw.out w2 HW2.out).1
    have hks : k < sn := by have := hSN.out; omega
    have hki : (k : Int) < (sn : Int) := by omega
    have hk0 : (0 : Int) ≤ (k : Int) := by omega
    obtain ⟨ad, hsa, -, fa0, fa1, fa2, fa3, fa4⟩ := set_at hrk.sets.2.2 hSN.out hks
    simp only at hsa
    subst hsa
    have hx := hrk.eachS _ (List.getElem_mem hkl)
    have hzx := HZ.out.eachS _ (List.getElem_mem hkl)
    have HXR : Hid (∀ W, Below W1.heap.size W1 W → (sl[k]'hkl).rd W B) := fun W h => (hrw.out W h).1.eachS _ (List.getElem_mem hkl)
    obtain ⟨x, hxx⟩ : ∃ x, x = sl[k]'hkl := ⟨_, rfl⟩
    rw [← hxx] at fa0 fa1 fa2 fa3 fa4 hx hzx HLK HXR
    clear hxx hrk
    obtain ⟨xp, xo, ⟨bA, bn, bc, bl⟩, ⟨zA, zn, zc, zl⟩, ⟨oA, on, oc, ol⟩⟩ := x
    simp only at fa0 fa1 fa2 fa3 fa4
    have hzn : zn ≤ 1000000000000 := hzx.snaps
    have HZX := Lib.hid hzx
    have HZN := Lib.hid (show zn = zl.length from hx.snaps.1)
    obtain ⟨late, hlate⟩ : ∃ q, q = lateN keep zn := ⟨_, rfl⟩
    have HLT : Hid (LL = C.sumK xp (zl.map SnapR.con) late zn) := by
      show _ = _
      rw [HLK.out]
      unfold TenC.sumS
      show C.sumK xp (zl.map SnapR.con) (lateN keep (zl.map SnapR.con).length) (zl.map SnapR.con).length = _
      rw [List.length_map, ← HZN.out, hlate]
    have hba := (HW2.out).alloc HW2.out.size (.cells #[.string ⟨xp.toArray⟩, .string ⟨xo.toArray⟩, .slice bA bn bc, .slice zA zn zc, .slice oA on oc] 42)
    have kx := Blk.new w2 42 #[.string ⟨xp.toArray⟩, .string ⟨xo.toArray⟩, .slice bA bn bc, .slice zA zn zc, .slice oA on oc]
    have hs3 : (w2.alloc (.cells #[.string ⟨xp.toArray⟩, .string ⟨xo.toArray⟩, .slice bA bn bc, .slice zA zn zc, .slice oA on oc] 42)).heap.size = w2.heap.size + 1 := by simp
    have kk := hKt.out w2 HW2.out
    have q3 := kk.cell 3
    have kk2 := kk.alloc (.cells #[.string ⟨xp.toArray⟩, .string ⟨xo.toArray⟩, .slice bA bn bc, .slice zA zn zc, .slice oA on oc] 42)
    obtain ⟨c0, c1, c2, c3, c4, c5, c6⟩ := (⟨kk2.cell 0, kk2.cell 1, kk2.cell 2, kk2.cell 3, kk2.cell 4, kk2.cell 5, kk2.cell 6⟩ : _ ∧ _ ∧ _ ∧ _ ∧ _ ∧ _ ∧ _)
    simp only [List.getElem?_toArray, List.getElem?_cons_succ, List.getElem?_cons_zero] at c0 c1 c2 c3 c4 c5 c6
    obtain ⟨e0, e1, e2, e3, e4⟩ := (⟨kx.cell 0, kx.cell 1, kx.cell 2, kx.cell 3, kx.cell 4⟩ : _ ∧ _ ∧ _ ∧ _ ∧ _)
    simp only [List.getElem?_toArray, List.getElem?_cons_succ, List.getElem?_cons_zero] at e0 e1 e2 e3 e4
    simp only [List.getElem?_toArray, List.getElem?_cons_succ, List.getElem?_cons_zero] at q3
    obtain ⟨w3, hW3⟩ : ∃ W, W = w2.alloc (.cells #[.string ⟨xp.toArray⟩, .string ⟨xo.toArray⟩, .slice bA bn bc, .slice zA zn zc, .slice oA on oc] 42) := ⟨_, rfl⟩
    rw [← hW3] at hba kx hs3
    have HW3 := Lib.hid hba
    have hmk := mkOld_any ⟨nm, qu, nx, ⟨some ad, sn, s3, sl⟩, ⟨gA, gN, gC, gL⟩, ⟨t1, tn, t3, tl⟩, ⟨l1, ln, l3, ll⟩⟩ ⟨xp, xo, ⟨bA, bn, bc, bl⟩, ⟨zA, zn, zc, zl⟩, ⟨oA, on, oc, ol⟩⟩ keep w3 (by exact hzn)
    rw [show lateN keep (SetR.snaps ⟨xp, xo, ⟨bA, bn, bc, bl⟩, ⟨zA, zn, zc, zl⟩, ⟨oA, on, oc, ol⟩⟩).n = late from hlate.symm] at hmk
    have HMK : Hid (Calls Tryz.prog 77 #[.agg #[.string ⟨nm.toArray⟩, .int .i64 qu, .int .i64 nx, .slice (some ad) sn s3, .slice gA gN gC, .slice t1 tn t3, .slice l1 ln l3], .agg #[.string ⟨xp.toArray⟩, .string ⟨xo.toArray⟩, .slice bA bn bc, .slice zA zn zc, .slice oA on oc], .int .i64 keep] w3 fun e w' => ∃ pS pL pT, e = .returned (.func (.func 140) #[] #[.pointer (some ⟨pS, 0, none⟩), .pointer (some ⟨pL, 0, none⟩), .pointer (some ⟨pT, 0, none⟩)]) ∧
          Blk w' pS 42 #[.string ⟨xp.toArray⟩, .string ⟨xo.toArray⟩, .slice bA bn bc, .slice zA zn zc, .slice oA on oc] ∧ Blk w' pL 3 #[.int .i64 late] ∧ Blk w' pT 27 #[.string ⟨nm.toArray⟩, .int .i64 qu, .int .i64 nx, .slice (some ad) sn s3, .slice gA gN gC, .slice t1 tn t3, .slice l1 ln l3] ∧ Below w3.heap.size w3 w') := hmk
    have HKX : Hid (∀ W, Below w3.heap.size w3 W → Blk W w2.heap.size 42 #[.string ⟨xp.toArray⟩, .string ⟨xo.toArray⟩, .slice bA bn bc, .slice zA zn zc, .slice oA on oc]) := fun W h => kx.below h (by omega)
    have HS3 := Lib.hid hs3
    clear kk kk2 kx hba hmk hx hzx HLK hlate hs3
    go_wp2_with fail
    rw [← hW3]
    clear hW3
    refine HMK.out.mono ?_
    clear HMK c0 c1 c2 c3 c4 c5 c6 q3 fa0 fa1 fa2 fa3 fa4 e0 e1 e2 e4 e3
    rintro e w4 ⟨pS, pL, pT, rfl, kS, kL, kT, hb⟩
    have HW4 := Lib.hid (HW3.out.trans (hb.mono HW3.out.size))
    have HB34 := Lib.hid hb
    have z3 := (HKX.out w4 hb).cell 3
    simp only [List.getElem?_toArray, List.getElem?_cons_succ, List.getElem?_cons_zero] at z3
    have HIS : Hid (∀ W, Below w4.heap.size w4 W → ∀ q (hq : q < zl.length), Calls Tryz.prog 140 #[.int .i64 (q : Int), .pointer (some ⟨pS, 0, none⟩), .pointer (some ⟨pL, 0, none⟩), .pointer (some ⟨pT, 0, none⟩)] W fun e w' => e = .returned (.bool (decide (q < late) && C.free xp (zl[q]'hq).con)) ∧ Below W.heap.size W w') := fun W h q hq => by
      have hw := HW4.out.trans (h.mono HW4.out.size)
      obtain ⟨g1, g2, g3⟩ := hrw.out W hw
      have h1 := isOld_any ⟨nm, qu, nx, ⟨some ad, sn, s3, sl⟩, ⟨gA, gN, gC, gL⟩, ⟨t1, tn, t3, tl⟩, ⟨l1, ln, l3, ll⟩⟩ ⟨xp, xo, ⟨bA, bn, bc, bl⟩, ⟨zA, zn, zc, zl⟩, ⟨oA, on, oc, ol⟩⟩ (late : Int) pS pL pT q W B g2 g1 HZ.out (HXR.out W hw) g3 (kS.below h kS.lt) (kL.below h kL.lt) (kT.below h kT.lt) hq
      rw [← hHC.out, lt_nat] at h1
      exact h1
    clear hb kS kL kT
    go_wp2_with fail
    clear z3
    go_loopw [10, 30] (fun o j wr => ∃ (q m : Nat), q ≤ zn ∧ j = .int .i64 (q : Int) ∧ o = .int .i64 (m : Int) ∧ Hid (m = C.sumK xp (zl.map SnapR.con) late q) ∧ Hid (Below w4.heap.size w4 wr)) (fun _ j _ => zn - (intOf j).toNat)
    case atStart => exact ⟨0, 0, Nat.zero_le _, rfl, rfl, by show _ = _; rw [sumK_zero], Below.refl _ _⟩
    case round =>
      obtain ⟨wo, hwo⟩ : ∃ W, W = wr := ⟨_, rfl⟩
      subst hwo
      obtain ⟨q, m, hq, rfl, rfl, HM, HB⟩ := hrel
      by_cases hlt : q < zn
      · have hqi : (q : Int) < (zn : Int) := by omega
        have hql : q < zl.length := by have := HZN.out; omega
        have hwo := HW4.out.trans (HB.out.mono HW4.out.size)
        obtain ⟨ad2, hsa, -, r0, r1, r2, r3, r4⟩ := snap_at (HXR.out wo hwo).snaps.2.2 HZN.out hlt
        simp only at hsa
        subst hsa
        have hst : C.sumK xp (zl.map SnapR.con) late (q + 1) = C.sumK xp (zl.map SnapR.con) late q + (if (decide (q < late) && C.free xp (zl[q]'hql).con) = true then 1 + (zl[q]'hql).con.body.length else 0) := sumK_succ C xp _ late q _ (by rw [List.getElem?_map, List.getElem?_eq_getElem hql]; rfl)
        have hle : C.sumK xp (zl.map SnapR.con) late (q + 1) ≤ LL := by rw [HLT.out]; exact sumK_le C xp _ late (q + 1) zn (by omega)
        have hbn := ((HXR.out wo hwo).each _ (List.getElem_mem hql)).body.1
        have hbz := (HZX.out.each _ (List.getElem_mem hql)).body
        have his := fun W h => HIS.out W h q hql
        obtain ⟨y, hy⟩ : ∃ y, y = zl[q]'hql := ⟨_, rfl⟩
        simp only at r0 r1 r2 r3 r4
        rw [← hy] at r0 r1 r2 r3 r4 hst hbn hbz
        simp only [← hy] at his
        clear hy hwo
        obtain ⟨b, hb⟩ : ∃ b, b = (decide (q < late) && C.free xp y.con) := ⟨_, rfl⟩
        rw [← hb] at hst
        simp only [← hb] at his
        clear hb
        obtain ⟨yn, yg, ⟨d1, d2, d3, dl⟩, ⟨e1, en, e3, el⟩, ⟨f1, f2, f3, fl⟩⟩ := y
        simp only at r0 r1 r2 r3 r4
        replace hbn : d2 = dl.length := hbn
        replace hbz : d2 ≤ 1000000000000 := hbz
        have hst : C.sumK xp (zl.map SnapR.con) late (q + 1) = C.sumK xp (zl.map SnapR.con) late q + (if b = true then 1 + dl.length else 0) := hst
        have HST := Lib.hid hst
        have HLE := Lib.hid hle
        have HBN := Lib.hid hbn
        have hba := HB.out.alloc HB.out.size (.cells #[.string ⟨yn.toArray⟩, .int .i64 yg, .slice d1 d2 d3, .slice e1 en e3, .slice f1 f2 f3] 57)
        have ky := Blk.new wo 57 #[.string ⟨yn.toArray⟩, .int .i64 yg, .slice d1 d2 d3, .slice e1 en e3, .slice f1 f2 f3]
        obtain ⟨w5, hW5⟩ : ∃ W, W = wo.alloc (.cells #[.string ⟨yn.toArray⟩, .int .i64 yg, .slice d1 d2 d3, .slice e1 en e3, .slice f1 f2 f3] 57) := ⟨_, rfl⟩
        have hs5 : w5.heap.size = wo.heap.size + 1 := by rw [hW5]; simp
        rw [← hW5] at hba ky
        have HB5 := Lib.hid hba
        have hc := his w5 hba
        have HKY : Hid (∀ W, Below w5.heap.size w5 W → W.cell? ⟨wo.heap.size, 2, none⟩ = some (.slice d1 d2 d3)) := fun W h => (ky.below h (by omega)).cell 2
        clear hst hle hbn hba ky his hs5
        go_wp2_with fail
        rw [← hW5]
        clear hW5
        refine hc.mono ?_
        clear hc r0 r1 r2 r3 r4
        rintro e w6 ⟨rfl, hb6⟩
        have HB6 := Lib.hid (HB5.out.trans (hb6.mono HB5.out.size))
        have y0 := HKY.out w6 hb6
        clear hb6
        cases b with
        | true =>
          have HST2 : Hid (C.sumK xp (zl.map SnapR.con) late (q + 1) = m + (1 + d2)) := by
            show _ = _
            rw [HST.out, HM.out, HBN.out]
            rfl
          have hw : IntKind.i64.wrap ((m : Int) + ((d2 : Int) + 1)) = (m : Int) + ((d2 : Int) + 1) := IntWalk.i64_in _ (by have h1 := HLE.out; have h2 := HST2.out; have h3 := HLS.out; omega)
          have hub := ubody_any d1 d2 d3 w6 (by omega)
          go_wp2_with fail
          refine hub.mono ?_
          clear hub
          rintro e w7 ⟨rfl, hw7⟩
          rw [hw7]
          clear hw7 w7 y0
          go_wp2_with fail
          go_roundw
          case rel => exact ⟨q + 1, m + (1 + d2), by omega, by go_num, by first | (show Value.int _ _ = _; congr 1; omega) | (simp; omega), by show _ = _; rw [HST2.out], HB6.out⟩
          case measure => simp [intOf]; omega
        | false =>
          have HST2 : Hid (C.sumK xp (zl.map SnapR.con) late (q + 1) = m) := by
            show _ = _
            rw [HST.out, HM.out]
            simp
          clear y0
          go_wp2_with fail
          go_roundw
          case rel => exact ⟨q + 1, m, by omega, by go_num, rfl, by show _ = _; rw [HST2.out], HB6.out⟩
          case measure => simp [intOf]; omega
      · obtain rfl : q = zn := by omega
        go_wp2_with fail
        go_ret
        refine ⟨?_, hBW.out _ (HW4.out.trans (HB.out.mono HW4.out.size))⟩
        rw [HLT.out, ← HM.out]
        rfl
end Go.Proofs.YtcgclpcocdappaaGreatDoor
