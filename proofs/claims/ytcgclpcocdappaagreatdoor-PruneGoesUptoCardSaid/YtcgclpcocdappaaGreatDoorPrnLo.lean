/-
  The law's list of those that may go, by its contract: it is the program's.
-/
import Derived.Test.YtcgclpcocdappaaGreatDoorRfClo
namespace Go.Proofs.YtcgclpcocdappaaGreatDoor
open Go.RowKit

theorem Tryz.rloStr_info : (Tryz.prog.info? 9).map (fun i => (i.zero, i.size, i.bytes)) = some (some (.string ByteArray.empty), 1, 16) := by kernel_rfl
set_option maxRecDepth 100000 in
set_option maxHeartbeats 64000000 in
theorem rold_any (t : TenR) (p : BS) (keep : Int) (w : World) (B : Nat) (hB : B ≤ w.heap.size) (hr : t.rd w B) (hz : t.sz) :
    Calls Tryz.prog 19 #[t.val, .string ⟨p.toArray⟩, .int .i64 keep] w fun e w' => ∃ A c, e = .returned (.slice A (t.con.old p keep).length c) ∧ w'.ownsRow w.heap.size 9 1 (.slice A (t.con.old p keep).length c) (t.con.old p keep).length (scells (t.con.old p keep)) ∧ Below w.heap.size w w' := by
  obtain ⟨LL, hLL⟩ : ∃ L, L = t.con.old p keep := ⟨_, rfl⟩
  rw [← hLL]
  obtain ⟨i0, hi0, hz0, hz1, hz2⟩ := info_parts Tryz.rloStr_info
  obtain ⟨nm, qu, nx, ⟨s1, sn, s3, sl⟩, ⟨gA, gN, gC, gL⟩, ⟨t1, tn, t3, tl⟩, ⟨l1, ln, l3, ll⟩⟩ := t
  show Calls Tryz.prog 19 #[.agg #[.string ⟨nm.toArray⟩, .int .i64 qu, .int .i64 nx, .slice s1 sn s3, .slice gA gN gC, .slice t1 tn t3, .slice l1 ln l3], .string ⟨p.toArray⟩, .int .i64 keep] w _
  have hb := ((Below.refl w.heap.size w).alloc (Nat.le_refl _) (.cells #[.string ⟨nm.toArray⟩, .int .i64 qu, .int .i64 nx, .slice s1 sn s3, .slice gA gN gC, .slice t1 tn t3, .slice l1 ln l3] 27))
  have kt := Blk.new w 27 #[.string ⟨nm.toArray⟩, .int .i64 qu, .int .i64 nx, .slice s1 sn s3, .slice gA gN gC, .slice t1 tn t3, .slice l1 ln l3]
  have hsz : (w.alloc (.cells #[.string ⟨nm.toArray⟩, .int .i64 qu, .int .i64 nx, .slice s1 sn s3, .slice gA gN gC, .slice t1 tn t3, .slice l1 ln l3] 27)).heap.size = w.heap.size + 1 := by simp
  obtain ⟨W1, hW1⟩ : ∃ W, W = (w.alloc (.cells #[.string ⟨nm.toArray⟩, .int .i64 qu, .int .i64 nx, .slice s1 sn s3, .slice gA gN gC, .slice t1 tn t3, .slice l1 ln l3] 27)) := ⟨_, rfl⟩
  rw [← hW1] at hb hsz kt
  have hKt : Hid (∀ W, Below W1.heap.size W1 W → Blk W w.heap.size 27 #[.string ⟨nm.toArray⟩, .int .i64 qu, .int .i64 nx, .slice s1 sn s3, .slice gA gN gC, .slice t1 tn t3, .slice l1 ln l3]) := fun W h => kt.below h (by omega)
  have hBW : Hid (∀ W, Below W1.heap.size W1 W → Below w.heap.size w W) := fun W h => hb.trans (h.mono (by omega))
  have hSZ : Hid (∀ W, Below W1.heap.size W1 W → w.heap.size + 1 ≤ W.heap.size) := fun W h => by have := h.size; omega
  have hW0 : Hid (Below W1.heap.size W1 W1) := Below.refl _ _
  have hrw : Hid (∀ W, Below W1.heap.size W1 W → TenR.rd W B ⟨nm, qu, nx, ⟨s1, sn, s3, sl⟩, ⟨gA, gN, gC, gL⟩, ⟨t1, tn, t3, tl⟩, ⟨l1, ln, l3, ll⟩⟩ ∧ B ≤ W.heap.size) := fun W h =>
    ⟨TenR.rd.below hr ((hBW.out W h).mono hB), by have := hSZ.out W h; omega⟩
  obtain ⟨C, hC⟩ : ∃ C, C = TenR.con ⟨nm, qu, nx, ⟨s1, sn, s3, sl⟩, ⟨gA, gN, gC, gL⟩, ⟨t1, tn, t3, tl⟩, ⟨l1, ln, l3, ll⟩⟩ := ⟨_, rfl⟩
  have hHC := Lib.hid hC
  rw [← hC] at hLL
  have hfs : findS sl p = C.find p := by rw [hC]; exact findS_con ⟨nm, qu, nx, ⟨s1, sn, s3, sl⟩, ⟨gA, gN, gC, gL⟩, ⟨t1, tn, t3, tl⟩, ⟨l1, ln, l3, ll⟩⟩ p
  have hFI : Hid (∀ W, Below W1.heap.size W1 W → Calls Tryz.prog 10 #[.agg #[.string ⟨nm.toArray⟩, .int .i64 qu, .int .i64 nx, .slice s1 sn s3, .slice gA gN gC, .slice t1 tn t3, .slice l1 ln l3], .string ⟨p.toArray⟩] W fun e w' => e = .returned (.int .i64 (findS sl p)) ∧ Below W.heap.size W w') := fun W h =>
    refFind_any _ _ _ _ _ _ sl sn hr.sets.1 s1 s3 p W B (hrw.out W h).1.sets.2.2 (hrw.out W h).2 (by have := hz.sets; simp only at this; omega)
  have hCL : Hid (∀ q W, Below W1.heap.size W1 W → Calls Tryz.prog 69 #[.agg #[.string ⟨nm.toArray⟩, .int .i64 qu, .int .i64 nx, .slice s1 sn s3, .slice gA gN gC, .slice t1 tn t3, .slice l1 ln l3], .string ⟨p.toArray⟩, .string ⟨q.toArray⟩] W fun e w' => (∃ A1 c1, e = .returned (.slice A1 (clonesL sl p q).length c1)) ∧ Below W.heap.size W w') := fun q W h =>
    rclones_any _ _ _ _ _ _ sl sn hr.sets.1 s1 s3 p q W B (hrw.out W h).1.sets.2.2 (hrw.out W h).2 (by have := hz.sets; simp only at this; omega) (fun y hy => (hz.eachS y hy).org)
  have hCC : Hid (∀ q, (clonesL sl p q).length = C.clones p q) := fun q => by rw [hC]; exact clones_con ⟨nm, qu, nx, ⟨s1, sn, s3, sl⟩, ⟨gA, gN, gC, gL⟩, ⟨t1, tn, t3, tl⟩, ⟨l1, ln, l3, ll⟩⟩ p q
  have hSN := Lib.hid (show sn = sl.length from hr.sets.1)
  have HZ := Lib.hid hz
  have hcs : firstI (fun s : SetR => s.path == p) sl = findS sl p := rfl
  rcases firstI_cases (fun s : SetR => s.path == p) sl with ⟨hf, -⟩ | ⟨k, hkl, hf, hfd⟩
  · rw [hcs] at hf
    have hfC : C.find p = -1 := by rw [← hfs, hf]
    have HL0 : Hid (LL = []) := by
      show _ = _
      rw [hLL]
      unfold TenC.old
      rw [hfC, if_pos (by decide)]
    rw [hf] at hFI
    clear hb hsz kt hr hz hC hLL hfs hcs hf hfC hCL
    go_enter Tryz.func19, Tryz.ntmps19
    have hc := hFI.out  W1 hW0.out
    have kk := hKt.out W1 hW0.out
    obtain ⟨c0, c1, c2, c3, c4, c5, c6⟩ := (⟨kk.cell 0, kk.cell 1, kk.cell 2, kk.cell 3, kk.cell 4, kk.cell 5, kk.cell 6⟩ : _ ∧ _ ∧ _ ∧ _ ∧ _ ∧ _ ∧ _)
    simp only [List.getElem?_toArray, List.getElem?_cons_succ, List.getElem?_cons_zero] at c0 c1 c2 c3 c4 c5 c6
    clear kk
    go_wp2_with fail
    rw [← hW1]
    clear hW1
    refine hc.mono ?_
    clear hc c0 c1 c2 c3 c4 c5 c6
    rintro e w2 ⟨rfl, hb⟩
    have HW2 := Lib.hid (hW0.out.trans (hb.mono hW0.out.size))
    clear hb
    go_wp2_with fail
    go_ret
    rw [HL0.out]
    exact ⟨none, 0, rfl, World.ownsRow_nil _ _ _ _, hBW.out _ HW2.out⟩
  · rw [hcs] at hf
    have hfC : C.find p = (k : Int) := by rw [← hfs, hf]
    have hpath : p = (sl[k]'hkl).path := by
      have h := List.find?_some hfd
      exact (by simpa using h : (sl[k]'hkl).path = p).symm
    have hxk : C.sets[k]? = some (sl[k]'hkl).con := by
      rw [hC]
      show (sl.map SetR.con)[k]? = _
      rw [List.getElem?_map, List.getElem?_eq_getElem hkl]
      rfl
    have HLK : Hid (LL = C.oldS (sl[k]'hkl).con keep) := by
      show _ = _
      rw [hLL]
      unfold TenC.old
      rw [hfC, if_neg (by omega), Int.toNat_natCast, hxk]
    rw [hf] at hFI
    have HPA := Lib.hid hpath
    clear hb hsz kt hr hz hC hLL hfs hcs hf hfC hxk hfd hpath
    go_enter Tryz.func19, Tryz.ntmps19
    have hc := hFI.out  W1 hW0.out
    have kk := hKt.out W1 hW0.out
    obtain ⟨c0, c1, c2, c3, c4, c5, c6⟩ := (⟨kk.cell 0, kk.cell 1, kk.cell 2, kk.cell 3, kk.cell 4, kk.cell 5, kk.cell 6⟩ : _ ∧ _ ∧ _ ∧ _ ∧ _ ∧ _ ∧ _)
    simp only [List.getElem?_toArray, List.getElem?_cons_succ, List.getElem?_cons_zero] at c0 c1 c2 c3 c4 c5 c6
    clear kk
    go_wp2_with fail
    rw [← hW1]
    clear hW1
    refine hc.mono ?_
    clear hc c0 c1 c2 c3 c4 c5 c6
    rintro e w2 ⟨rfl, hb⟩
    have HW2 := Lib.hid (hW0.out.trans (hb.mono hW0.out.size))
    clear hb
    have hpath := HPA.out
    clear HPA
    have hrk := (hrw.out w2 HW2.out).1
    have hks : k < sn := by have := hSN.out; omega
    have hki : (k : Int) < (sn : Int) := by omega
    have hk0 : (0 : Int) ≤ (k : Int) := by omega
    obtain ⟨ad, hsa, -, fa0, fa1, fa2, fa3, fa4⟩ := set_at hrk.sets.2.2 hSN.out hks
    simp only at hsa
    subst hsa
    have hx := hrk.eachS _ (List.getElem_mem hkl)
    have hzx := HZ.out.eachS _ (List.getElem_mem hkl)
    have HXR : Hid (∀ W, Below W1.heap.size W1 W → (sl[k]'hkl).rd W B) := fun W h => (hrw.out W h).1.eachS _ (List.getElem_mem hkl)
    obtain ⟨x, hxx⟩ : ∃ x, x = sl[k]'hkl := ⟨_, rfl⟩
    rw [← hxx] at fa0 fa1 fa2 fa3 fa4 hx hzx HLK HXR hpath
    clear hxx hrk
    obtain ⟨xp, xo, ⟨bA, bn, bc, bl⟩, ⟨zA, zn, zc, zl⟩, ⟨oA, on, oc, ol⟩⟩ := x
    simp only at fa0 fa1 fa2 fa3 fa4
    replace hpath : p = xp := hpath
    subst hpath
    have hzn : zn ≤ 1000000000000 := hzx.snaps
    have HZN := Lib.hid (show zn = zl.length from hx.snaps.1)
    obtain ⟨late, hlate⟩ : ∃ q, q = lateN keep zn := ⟨_, rfl⟩
    have HLA := Lib.hid hlate
    have HLT : Hid (LL = C.oldK p (zl.map SnapR.con) late zn) := by
      show _ = _
      rw [HLK.out]
      unfold TenC.oldS
      show C.oldK p (zl.map SnapR.con) (lateN keep (zl.map SnapR.con).length) (zl.map SnapR.con).length = _
      rw [List.length_map, ← HZN.out, hlate]
    have kk := hKt.out w2 HW2.out
    have q3 := kk.cell 3
    simp only [List.getElem?_toArray, List.getElem?_cons_succ, List.getElem?_cons_zero] at q3
    clear kk hx hzx HLK hlate
    go_wp2_with fail
    clear q3 fa0 fa1 fa2 fa3 fa4
    go_loopw [8, 10] (fun o j wr => ∃ (q m : Nat) (A : Option Addr) (c : Nat), q ≤ zn ∧ m ≤ q ∧ j = .int .i64 (q : Int) ∧ o = .slice A m c ∧ Hid (m = (C.oldK p (zl.map SnapR.con) late q).length) ∧ Hid (wr.ownsRow W1.heap.size 9 1 (.slice A m c) m (scells (C.oldK p (zl.map SnapR.con) late q))) ∧ Hid (Below W1.heap.size W1 wr)) (fun _ j _ => zn - (intOf j).toNat)
    case atStart => exact ⟨0, 0, none, 0, Nat.zero_le _, Nat.le_refl _, rfl, rfl, by show _ = _; rw [oldK_zero]; rfl, by show World.ownsRow _ _ _ _ _ _ _; rw [oldK_zero]; exact World.ownsRow_nil _ _ _ _, HW2⟩
    case round =>
      obtain ⟨wo, hwo⟩ : ∃ W, W = wr := ⟨_, rfl⟩
      subst hwo
      obtain ⟨q, mo, Ao, co, hq, hmq, rfl, rfl, HM, HO, HB⟩ := hrel
      by_cases hlt : q < zn
      · have hqi : (q : Int) < (zn : Int) := by omega
        have hq0 : (0 : Int) ≤ (q : Int) := by omega
        have hql : q < zl.length := by have := HZN.out; omega
        have hat := fun W h => snap_at (HXR.out W h).snaps.2.2 HZN.out hlt
        have hst : C.oldK p (zl.map SnapR.con) late (q + 1) = C.oldK p (zl.map SnapR.con) late q ++ (if (decide (q < late) && C.free p (zl[q]'hql).con) = true then [(zl[q]'hql).con.nm] else []) := oldK_succ C p _ late q _ (by rw [List.getElem?_map, List.getElem?_eq_getElem hql]; rfl)
        have htn := ((HXR.out wo HB.out).each _ (List.getElem_mem hql)).tags.1
        obtain ⟨y, hy⟩ : ∃ y, y = zl[q]'hql := ⟨_, rfl⟩
        simp only at hat
        simp only [← hy] at hat
        rw [← hy] at hst htn
        clear hy
        obtain ⟨cN, hcN⟩ : ∃ k, k = (clonesL sl p y.nm).length := ⟨_, rfl⟩
        have hfr : C.free p y.con = (decide (y.tags.n = 0) && decide (cN = 0)) := by
          unfold TenC.free
          rw [hcN, hCC.out, htn]
          rfl
        rw [hfr] at hst
        obtain ⟨yn, yg, ⟨d1, d2, d3, dl⟩, ⟨e1, en, e3, el⟩, ⟨f1, f2, f3, fl⟩⟩ := y
        simp only at hat htn hcN hst
        have HAT := Lib.hid hat
        have hCN : Hid (∀ W, Below W1.heap.size W1 W → Calls Tryz.prog 69 #[.agg #[.string ⟨nm.toArray⟩, .int .i64 qu, .int .i64 nx, .slice (some ad) sn s3, .slice gA gN gC, .slice t1 tn t3, .slice l1 ln l3], .string ⟨p.toArray⟩, .string ⟨yn.toArray⟩] W fun e w' => (∃ A1 c1, e = .returned (.slice A1 cN c1)) ∧ Below W.heap.size W w') := fun W h => by
          rw [hcN]
          exact hCL.out yn W h
        obtain ⟨ad2, hsa, -, r0, r1, r2, r3, r4⟩ := hat wo HB.out
        subst hsa
        have hst : C.oldK p (zl.map SnapR.con) late (q + 1) = C.oldK p (zl.map SnapR.con) late q ++ (if (decide (q < late) && (decide (en = 0) && decide (cN = 0))) = true then [yn] else []) := hst
        have HST := Lib.hid hst
        obtain ⟨TV, hTV⟩ : ∃ v, v = Value.agg #[.string ⟨nm.toArray⟩, .int .i64 qu, .int .i64 nx, .slice (some ad) sn s3, .slice gA gN gC, .slice t1 tn t3, .slice l1 ln l3] := ⟨_, rfl⟩
        have HTV := Lib.hid hTV
        have hw : IntKind.i64.wrap ((zn : Int) - (q : Int)) = (zn : Int) - (q : Int) := IntWalk.i64_in _ (by omega)
        have hS : Hid (∀ W, Below wo.heap.size wo W → W.cell? ⟨w.heap.size, 0, none⟩ = some (.string ⟨nm.toArray⟩) ∧ W.cell? ⟨w.heap.size, 1, none⟩ = some (.int .i64 qu) ∧ W.cell? ⟨w.heap.size, 2, none⟩ = some (.int .i64 nx) ∧ W.cell? ⟨w.heap.size, 3, none⟩ = some (.slice (some ad) sn s3) ∧ W.cell? ⟨w.heap.size, 4, none⟩ = some (.slice gA gN gC) ∧ W.cell? ⟨w.heap.size, 5, none⟩ = some (.slice t1 tn t3) ∧ W.cell? ⟨w.heap.size, 6, none⟩ = some (.slice l1 ln l3) ∧ W.cell? (ad2.add (q * 5)) = some (.string ⟨yn.toArray⟩) ∧ W.cell? ⟨(ad2.add (q * 5)).block, (ad2.add (q * 5)).off + 3, none⟩ = some (.slice e1 en e3)) := fun W h => by
          have h2 := HB.out.trans (h.mono HB.out.size)
          obtain ⟨a0, a1, a2, a3, a4, a5, a6⟩ := blk7 (hKt.out W h2)
          obtain ⟨ad3, h3, -, g0, -, -, g3, -⟩ := HAT.out W h2
          injection h3 with h3
          subst h3
          exact ⟨a0, a1, a2, a3, a4, a5, a6, g0, g3⟩
        clear hst hat htn hcN hfr hTV r0 r1 r2 r3 r4
        go_upto_region 9 with (fail)
        go_cut [11] from 23 to 69 (fun s11 wx => ∃ lb : Bool, s11 = .bool lb ∧ Hid (decide (q < late) = !lb) ∧ wx = wo)
        case first =>
          by_cases hk1 : 0 < keep
          · by_cases hk2 : (zn : Int) - (q : Int) ≤ keep
            · have HLQ : Hid (decide (q < late) = !true) := by
                show _ = _
                rw [HLA.out]
                unfold lateN
                exact decide_eq_false (by omega)
              go_wp2_with fail
              go_meet
              exact ⟨true, rfl, HLQ, rfl⟩
            · have HLQ : Hid (decide (q < late) = !false) := by
                show _ = _
                rw [HLA.out]
                unfold lateN
                exact decide_eq_true (by omega)
              go_wp2_with fail
              go_meet
              exact ⟨false, rfl, HLQ, rfl⟩
          · have HLQ : Hid (decide (q < late) = !false) := by
              show _ = _
              rw [HLA.out]
              unfold lateN
              exact decide_eq_true (by omega)
            go_wp2_with fail
            go_meet
            exact ⟨false, rfl, HLQ, rfl⟩
        case rest =>
        obtain ⟨lb, rfl, HLB, rfl⟩ := hcut
        cases lb with
        | true =>
          have HLQ : Hid (decide (q < late) = false) := HLB.out
          clear HLB
          go_upto_region 10 with (fail)
          have HST2 : Hid (C.oldK p (zl.map SnapR.con) late (q + 1) = C.oldK p (zl.map SnapR.con) late q) := by
            show _ = _
            rw [HST.out, if_neg (by rw [HLQ.out, Bool.false_and]; decide)]
            simp
          refine wp_region_good2 (by kernel_rfl) (by kernel_rfl) [(fun v _ => v = .bool true),
            (fun v _ => v = .bool false),
            (fun v _ => v = .bool false),
            (fun v _ => v = undef),
            (fun v _ => v = undef),
            (fun v _ => v = undef),
            (fun v _ => v = undef),
            (fun v _ => v = undef),
            (fun v _ => v = undef),
            (fun v _ => v = undef),
            (fun v _ => v = .bool false),
            (fun v _ => v = .bool false),
            (fun v _ => v = undef),
            (fun v _ => v = undef),
            (fun v _ => v = undef),
            (fun v _ => v = undef),
            (fun v _ => v = undef),
            (fun v _ => v = undef),
            (fun v _ => v = undef),
            (fun v _ => v = undef),
            (fun v _ => v = undef),
            (fun v _ => v = undef),
            (fun v _ => v = .bool false)] ?_ ?_ ?_
          · repeat' (first | exact stays_nil | refine stays_cons ?_ ?_ | exact Stays.pure)
          · intro i oo ho m2 W hb0 hmi hcl hdeps AA KK hA hK
            rcases i with _ | _ | _ | _ | _ | _ | _ | _ | _ | _ | _ | _ | _ | _ | _ | _ | _ | _ | _ | _ | _ | _ | _ | i
            · injection ho with ho; subst ho
              have ef11 : AA.tmps[11]?.getD undef = .bool true := tF hA
              exact zP
            · injection ho with ho; subst ho
              have e0 := eD hdeps hA 0 39
              exact zP
            · injection ho with ho; subst ho
              have e1 := eD hdeps hA 1 40
              exact zP
            · injection ho with ho; subst ho
              have e2 := eD hdeps hA 2 41
              have ef9 : AA.tmps[9]?.getD undef = .slice (some ad2) zn zc := tF hA
              clear hA hdeps hcl hmi
              rw [if_neg (unwanted_of (b := true) (k := 41) rfl rfl (.inl e2))]
              exact hK undef _ (Below.refl _ _) (Eq.refl _)
            · injection ho with ho; subst ho
              have e2 := eD hdeps hA 2 41
              have ef10 : AA.tmps[10]?.getD undef = .int .i64 (q : Int) := tF hA
              clear hA hdeps hcl hmi
              rw [if_neg (unwanted_of (b := true) (k := 41) rfl rfl (.inl e2))]
              exact hK undef _ (Below.refl _ _) (Eq.refl _)
            · injection ho with ho; subst ho
              have e2 := eD hdeps hA 2 41
              have e3 := eD hdeps hA 3 42
              have e4 := eD hdeps hA 4 43
              clear hA hdeps hcl hmi
              rw [if_neg (unwanted_of (b := true) (k := 41) rfl rfl (.inl e2))]
              exact hK undef _ (Below.refl _ _) (Eq.refl _)
            · injection ho with ho; subst ho
              have e2 := eD hdeps hA 2 41
              have e5 := eD hdeps hA 5 44
              clear hA hdeps hcl hmi
              rw [if_neg (unwanted_of (b := true) (k := 41) rfl rfl (.inl e2))]
              exact hK undef _ (Below.refl _ _) (Eq.refl _)
            · injection ho with ho; subst ho
              have e2 := eD hdeps hA 2 41
              have e6 := eD hdeps hA 6 45
              clear hA hdeps hcl hmi
              rw [if_neg (unwanted_of (b := true) (k := 41) rfl rfl (.inl e2))]
              exact hK undef _ (Below.refl _ _) (Eq.refl _)
            · injection ho with ho; subst ho
              have e2 := eD hdeps hA 2 41
              have e7 := eD hdeps hA 7 46
              clear hA hdeps hcl hmi
              rw [if_neg (unwanted_of (b := true) (k := 41) rfl rfl (.inl e2))]
              exact hK undef _ (Below.refl _ _) (Eq.refl _)
            · injection ho with ho; subst ho
              have e2 := eD hdeps hA 2 41
              have e8 := eD hdeps hA 8 47
              clear hA hdeps hcl hmi
              rw [if_neg (unwanted_of (b := true) (k := 41) rfl rfl (.inl e2))]
              exact hK undef _ (Below.refl _ _) (Eq.refl _)
            · injection ho with ho; subst ho
              have e2 := eD hdeps hA 2 41
              have e9 := eD hdeps hA 9 48
              exact zP
            · injection ho with ho; subst ho
              have e10 := eD hdeps hA 10 49
              exact zP
            · injection ho with ho; subst ho
              have e11 := eD hdeps hA 11 50
              have ef3 : AA.tmps[3]?.getD undef = .pointer (some ⟨w.heap.size, 0, none⟩) := tF hA
              clear hA hdeps hcl hmi
              rw [if_neg (unwanted_of (b := true) (k := 50) rfl rfl (.inl e11))]
              exact hK undef _ (Below.refl _ _) (Eq.refl _)
            · injection ho with ho; subst ho
              have e11 := eD hdeps hA 11 50
              have ef1 : AA.tmps[1]?.getD undef = .string ⟨p.toArray⟩ := tF hA
              clear hA hdeps hcl hmi
              rw [if_neg (unwanted_of (b := true) (k := 50) rfl rfl (.inl e11))]
              exact hK undef _ (Below.refl _ _) (Eq.refl _)
            · injection ho with ho; subst ho
              have e11 := eD hdeps hA 11 50
              have ef9 : AA.tmps[9]?.getD undef = .slice (some ad2) zn zc := tF hA
              clear hA hdeps hcl hmi
              rw [if_neg (unwanted_of (b := true) (k := 50) rfl rfl (.inl e11))]
              exact hK undef _ (Below.refl _ _) (Eq.refl _)
            · injection ho with ho; subst ho
              have e11 := eD hdeps hA 11 50
              have ef10 : AA.tmps[10]?.getD undef = .int .i64 (q : Int) := tF hA
              clear hA hdeps hcl hmi
              rw [if_neg (unwanted_of (b := true) (k := 50) rfl rfl (.inl e11))]
              exact hK undef _ (Below.refl _ _) (Eq.refl _)
            · injection ho with ho; subst ho
              have e11 := eD hdeps hA 11 50
              have e14 := eD hdeps hA 14 53
              have e15 := eD hdeps hA 15 54
              clear hA hdeps hcl hmi
              rw [if_neg (unwanted_of (b := true) (k := 50) rfl rfl (.inl e11))]
              exact hK undef _ (Below.refl _ _) (Eq.refl _)
            · injection ho with ho; subst ho
              have e11 := eD hdeps hA 11 50
              have e16 := eD hdeps hA 16 55
              clear hA hdeps hcl hmi
              rw [if_neg (unwanted_of (b := true) (k := 50) rfl rfl (.inl e11))]
              exact hK undef _ (Below.refl _ _) (Eq.refl _)
            · injection ho with ho; subst ho
              have e11 := eD hdeps hA 11 50
              have e17 := eD hdeps hA 17 56
              clear hA hdeps hcl hmi
              rw [if_neg (unwanted_of (b := true) (k := 50) rfl rfl (.inl e11))]
              exact hK undef _ (Below.refl _ _) (Eq.refl _)
            · injection ho with ho; subst ho
              have e11 := eD hdeps hA 11 50
              have e12 := eD hdeps hA 12 51
              have e13 := eD hdeps hA 13 52
              have e18 := eD hdeps hA 18 57
              clear hA hdeps hcl hmi
              rw [if_neg (unwanted_of (b := true) (k := 50) rfl rfl (.inl e11))]
              exact hK undef _ (Below.refl _ _) (Eq.refl _)
            · injection ho with ho; subst ho
              have e11 := eD hdeps hA 11 50
              have e19 := eD hdeps hA 19 58
              clear hA hdeps hcl hmi
              rw [if_neg (unwanted_of (b := true) (k := 50) rfl rfl (.inl e11))]
              exact hK undef _ (Below.refl _ _) (Eq.refl _)
            · injection ho with ho; subst ho
              have e11 := eD hdeps hA 11 50
              have e20 := eD hdeps hA 20 59
              clear hA hdeps hcl hmi
              rw [if_neg (unwanted_of (b := true) (k := 50) rfl rfl (.inl e11))]
              exact hK undef _ (Below.refl _ _) (Eq.refl _)
            · injection ho with ho; subst ho
              have e11 := eD hdeps hA 11 50
              have e21 := eD hdeps hA 21 60
              exact zP
            · simp at ho
          · intro m W hbx hall
            have m0 := dV (hall 0 (by simp))
            have m1 := dV (hall 1 (by simp))
            have m2 := dV (hall 2 (by simp))
            have m3 := dV (hall 3 (by simp))
            have m4 := dV (hall 4 (by simp))
            have m5 := dV (hall 5 (by simp))
            have m6 := dV (hall 6 (by simp))
            have m7 := dV (hall 7 (by simp))
            have m8 := dV (hall 8 (by simp))
            have m9 := dV (hall 9 (by simp))
            have m10 := dV (hall 10 (by simp))
            have m11 := dV (hall 11 (by simp))
            have m12 := dV (hall 12 (by simp))
            have m13 := dV (hall 13 (by simp))
            have m14 := dV (hall 14 (by simp))
            have m15 := dV (hall 15 (by simp))
            have m16 := dV (hall 16 (by simp))
            have m17 := dV (hall 17 (by simp))
            have m18 := dV (hall 18 (by simp))
            have m19 := dV (hall 19 (by simp))
            have m20 := dV (hall 20 (by simp))
            have m21 := dV (hall 21 (by simp))
            have m22 := dV (hall 22 (by simp))
            rw [frameM_all (by kernel_rfl) [.bool true, .bool false, .bool false, undef, undef, undef, undef, undef, undef, undef, .bool false, .bool false, undef, undef, undef, undef, undef, undef, undef, undef, undef, undef, .bool false] rfl (fun i hi => by rcases i with _ | _ | _ | _ | _ | _ | _ | _ | _ | _ | _ | _ | _ | _ | _ | _ | _ | _ | _ | _ | _ | _ | _ | i <;> first | assumption | (simp at hi; omega))]
            clear hall m0 m1 m2 m3 m4 m5 m6 m7 m8 m9 m10 m11 m12 m13 m14 m15 m16 m17 m18 m19 m20 m21 m22
            simp only [putAll, Act.put, List.setIfInBounds_toArray, List.set_cons_succ, List.set_cons_zero]
            have HB6 := Lib.hid (HB.out.trans (hbx.mono HB.out.size))
            have ho6 := own_below HO.out hbx
            have hs6 := hS.out _ hbx
            obtain ⟨w6, hw6⟩ : ∃ w6, w6 = W := ⟨_, rfl⟩
            subst hw6
            clear hbx hS
            go_wp2_with fail
            go_roundw
            case rel => exact ⟨q + 1, mo, Ao, co, by omega, by omega, by go_num, rfl, by show _ = _; rw [HST2.out]; exact HM.out, by show World.ownsRow _ _ _ _ _ _ _; rw [HST2.out]; exact ho6, HB6.out⟩
            case measure => simp [intOf]; omega
        | false =>
          have HLQ : Hid (decide (q < late) = true) := HLB.out
          clear HLB
          go_upto_region 10 with (fail)
          by_cases ht : en = 0
          · have htb : ((en : Int) == 0) = true := by simpa using ht
            have HT0 := Lib.hid ht
            clear ht
            by_cases hcn : cN = 0
            · have hcb : ((cN : Int) == 0) = true := by simpa using hcn
              have HC0 := Lib.hid hcn
              clear hcn
              refine wp_region_good2 (by kernel_rfl) (by kernel_rfl) [(fun v _ => v = .bool false),
                (fun v _ => v = .bool true),
                (fun v _ => v = .bool true),
                (fun v _ => v = .slice (some ad2) zn zc),
                (fun v _ => v = .int .i64 (q : Int)),
                (fun v _ => v = .pointer (some (ad2.add (q * 5)))),
                (fun v _ => v = .pointer (some ⟨(ad2.add (q * 5)).block, (ad2.add (q * 5)).off + 3, none⟩)),
                (fun v _ => v = .slice e1 en e3),
                (fun v _ => v = .int .i64 (en : Int)),
                (fun v _ => v = .bool true),
                (fun v _ => v = .bool true),
                (fun v _ => v = .bool true),
                (fun v _ => v = TV),
                (fun v _ => v = .string ⟨p.toArray⟩),
                (fun v _ => v = .slice (some ad2) zn zc),
                (fun v _ => v = .int .i64 (q : Int)),
                (fun v _ => v = .pointer (some (ad2.add (q * 5)))),
                (fun v _ => v = .pointer (some (ad2.add (q * 5)))),
                (fun v _ => v = .string ⟨yn.toArray⟩),
                (fun v _ => ∃ A c, v = .slice A cN c),
                (fun v _ => v = .int .i64 (cN : Int)),
                (fun v _ => v = .bool true),
                (fun v _ => v = .bool true)] ?_ ?_ ?_
              · repeat' (first | exact stays_nil | refine stays_cons ?_ ?_ | exact Stays.pure)
              · intro i oo ho m2 W hb0 hmi hcl hdeps AA KK hA hK
                rcases i with _ | _ | _ | _ | _ | _ | _ | _ | _ | _ | _ | _ | _ | _ | _ | _ | _ | _ | _ | _ | _ | _ | _ | i
                · injection ho with ho; subst ho
                  have ef11 : AA.tmps[11]?.getD undef = .bool false := tF hA
                  exact zP
                · injection ho with ho; subst ho
                  have e0 := eD hdeps hA 0 39
                  exact zP
                · injection ho with ho; subst ho
                  have e1 := eD hdeps hA 1 40
                  exact zP
                · injection ho with ho; subst ho
                  have e2 := eD hdeps hA 2 41
                  have ef9 : AA.tmps[9]?.getD undef = .slice (some ad2) zn zc := tF hA
                  clear hA hdeps hcl hmi
                  rw [if_pos (wanted_of (k := 41) rfl rfl e2)]
                  have hK0 : KK (AA.put (some 42) _) _ := hK (.slice (some ad2) zn zc) _ (Below.refl _ _) (Eq.refl _)
                  clear hK
                  go_simp
                  exact hK0
                · injection ho with ho; subst ho
                  have e2 := eD hdeps hA 2 41
                  have ef10 : AA.tmps[10]?.getD undef = .int .i64 (q : Int) := tF hA
                  clear hA hdeps hcl hmi
                  rw [if_pos (wanted_of (k := 41) rfl rfl e2)]
                  have hK0 : KK (AA.put (some 43) _) _ := hK (.int .i64 (q : Int)) _ (Below.refl _ _) (Eq.refl _)
                  clear hK
                  go_simp
                  exact hK0
                · injection ho with ho; subst ho
                  have e2 := eD hdeps hA 2 41
                  have e3 := eD hdeps hA 3 42
                  have e4 := eD hdeps hA 4 43
                  clear hA hdeps hcl hmi
                  rw [if_pos (wanted_of (k := 41) rfl rfl e2)]
                  have hK0 : KK (AA.put (some 44) _) _ := hK (.pointer (some (ad2.add (q * 5)))) _ (Below.refl _ _) (Eq.refl _)
                  clear hK
                  go_simp
                  exact hK0
                · injection ho with ho; subst ho
                  have e2 := eD hdeps hA 2 41
                  have e5 := eD hdeps hA 5 44
                  clear hA hdeps hcl hmi
                  rw [if_pos (wanted_of (k := 41) rfl rfl e2)]
                  have hK0 : KK (AA.put (some 45) _) _ := hK (.pointer (some ⟨(ad2.add (q * 5)).block, (ad2.add (q * 5)).off + 3, none⟩)) _ (Below.refl _ _) (Eq.refl _)
                  clear hK
                  go_simp
                  exact hK0
                · injection ho with ho; subst ho
                  have e2 := eD hdeps hA 2 41
                  have e6 := eD hdeps hA 6 45
                  clear hA hdeps hcl hmi
                  rw [if_pos (wanted_of (k := 41) rfl rfl e2)]
                  obtain ⟨c0, c1, c2, c3, c4, c5, c6, g0, g3⟩ := hS.out W hb0
                  have hK0 : KK (AA.put (some 46) _) _ := hK (.slice e1 en e3) _ (Below.refl _ _) (Eq.refl _)
                  clear hK
                  go_simp
                  exact hK0
                · injection ho with ho; subst ho
                  have e2 := eD hdeps hA 2 41
                  have e7 := eD hdeps hA 7 46
                  clear hA hdeps hcl hmi
                  rw [if_pos (wanted_of (k := 41) rfl rfl e2)]
                  have hK0 : KK (AA.put (some 47) _) _ := hK (.int .i64 (en : Int)) _ (Below.refl _ _) (Eq.refl _)
                  clear hK
                  go_simp
                  exact hK0
                · injection ho with ho; subst ho
                  have e2 := eD hdeps hA 2 41
                  have e8 := eD hdeps hA 8 47
                  clear hA hdeps hcl hmi
                  rw [if_pos (wanted_of (k := 41) rfl rfl e2)]
                  have hK0 : KK (AA.put (some 48) _) _ := hK (.bool true) _ (Below.refl _ _) (Eq.refl _)
                  clear hK
                  go_simp
                  exact hK0
                · injection ho with ho; subst ho
                  have e2 := eD hdeps hA 2 41
                  have e9 := eD hdeps hA 9 48
                  exact zP
                · injection ho with ho; subst ho
                  have e10 := eD hdeps hA 10 49
                  exact zP
                · injection ho with ho; subst ho
                  have e11 := eD hdeps hA 11 50
                  have ef3 : AA.tmps[3]?.getD undef = .pointer (some ⟨w.heap.size, 0, none⟩) := tF hA
                  clear hA hdeps hcl hmi
                  rw [if_pos (wanted_of (k := 50) rfl rfl e11)]
                  obtain ⟨c0, c1, c2, c3, c4, c5, c6, g0, g3⟩ := hS.out W hb0
                  have hK0 : KK (AA.put (some 51) _) _ := hK (TV) _ (Below.refl _ _) (Eq.refl _)
                  clear hK
                  rw [HTV.out] at hK0
                  go_simp
                  exact hK0
                · injection ho with ho; subst ho
                  have e11 := eD hdeps hA 11 50
                  have ef1 : AA.tmps[1]?.getD undef = .string ⟨p.toArray⟩ := tF hA
                  clear hA hdeps hcl hmi
                  rw [if_pos (wanted_of (k := 50) rfl rfl e11)]
                  have hK0 : KK (AA.put (some 52) _) _ := hK (.string ⟨p.toArray⟩) _ (Below.refl _ _) (Eq.refl _)
                  clear hK
                  go_simp
                  exact hK0
                · injection ho with ho; subst ho
                  have e11 := eD hdeps hA 11 50
                  have ef9 : AA.tmps[9]?.getD undef = .slice (some ad2) zn zc := tF hA
                  clear hA hdeps hcl hmi
                  rw [if_pos (wanted_of (k := 50) rfl rfl e11)]
                  have hK0 : KK (AA.put (some 53) _) _ := hK (.slice (some ad2) zn zc) _ (Below.refl _ _) (Eq.refl _)
                  clear hK
                  go_simp
                  exact hK0
                · injection ho with ho; subst ho
                  have e11 := eD hdeps hA 11 50
                  have ef10 : AA.tmps[10]?.getD undef = .int .i64 (q : Int) := tF hA
                  clear hA hdeps hcl hmi
                  rw [if_pos (wanted_of (k := 50) rfl rfl e11)]
                  have hK0 : KK (AA.put (some 54) _) _ := hK (.int .i64 (q : Int)) _ (Below.refl _ _) (Eq.refl _)
                  clear hK
                  go_simp
                  exact hK0
                · injection ho with ho; subst ho
                  have e11 := eD hdeps hA 11 50
                  have e14 := eD hdeps hA 14 53
                  have e15 := eD hdeps hA 15 54
                  clear hA hdeps hcl hmi
                  rw [if_pos (wanted_of (k := 50) rfl rfl e11)]
                  have hK0 : KK (AA.put (some 55) _) _ := hK (.pointer (some (ad2.add (q * 5)))) _ (Below.refl _ _) (Eq.refl _)
                  clear hK
                  go_simp
                  exact hK0
                · injection ho with ho; subst ho
                  have e11 := eD hdeps hA 11 50
                  have e16 := eD hdeps hA 16 55
                  clear hA hdeps hcl hmi
                  rw [if_pos (wanted_of (k := 50) rfl rfl e11)]
                  have hK0 : KK (AA.put (some 56) _) _ := hK (.pointer (some (ad2.add (q * 5)))) _ (Below.refl _ _) (Eq.refl _)
                  clear hK
                  go_simp
                  exact hK0
                · injection ho with ho; subst ho
                  have e11 := eD hdeps hA 11 50
                  have e17 := eD hdeps hA 17 56
                  clear hA hdeps hcl hmi
                  rw [if_pos (wanted_of (k := 50) rfl rfl e11)]
                  obtain ⟨c0, c1, c2, c3, c4, c5, c6, g0, g3⟩ := hS.out W hb0
                  have hK0 : KK (AA.put (some 57) _) _ := hK (.string ⟨yn.toArray⟩) _ (Below.refl _ _) (Eq.refl _)
                  clear hK
                  go_simp
                  exact hK0
                · injection ho with ho; subst ho
                  have e11 := eD hdeps hA 11 50
                  have e12 := eD hdeps hA 12 51
                  have e13 := eD hdeps hA 13 52
                  have e18 := eD hdeps hA 18 57
                  clear hA hdeps hcl hmi
                  rw [if_pos (wanted_of (k := 50) rfl rfl e11)]
                  have hKK := Lib.hid hK
                  clear hK
                  go_simp
                  rw [HTV.out]
                  refine (hCN.out _ (HB.out.trans (hb0.mono HB.out.size))).mono ?_
                  rintro e w5 ⟨⟨A9, c9, rfl⟩, hbn⟩
                  exact hKK.out _ _ hbn ⟨A9, c9, rfl⟩
                · injection ho with ho; subst ho
                  have e11 := eD hdeps hA 11 50
                  obtain ⟨x19, hx19, hg19⟩ := hdeps ⟨19, .data⟩ (by simp) rfl
                  have hg19 : ∃ A c, x19 = .slice A cN c := hg19
                  have hk19 := hg19
                  obtain ⟨A19, c19, rfl⟩ := hg19
                  have e19 : AA.tmps[58]?.getD undef = .slice A19 cN c19 := tO hA hx19
                  clear hA hdeps hcl hmi hx19
                  rw [if_pos (wanted_of (k := 50) rfl rfl e11)]
                  have hK0 : KK (AA.put (some 59) _) _ := hK (.int .i64 (cN : Int)) _ (Below.refl _ _) (Eq.refl _)
                  clear hK
                  go_simp
                  exact hK0
                · injection ho with ho; subst ho
                  have e11 := eD hdeps hA 11 50
                  have e20 := eD hdeps hA 20 59
                  clear hA hdeps hcl hmi
                  rw [if_pos (wanted_of (k := 50) rfl rfl e11)]
                  have hK0 : KK (AA.put (some 60) _) _ := hK (.bool true) _ (Below.refl _ _) (Eq.refl _)
                  clear hK
                  go_simp
                  exact hK0
                · injection ho with ho; subst ho
                  have e11 := eD hdeps hA 11 50
                  have e21 := eD hdeps hA 21 60
                  exact zP
                · simp at ho
              · intro m W hbx hall
                have m0 := dV (hall 0 (by simp))
                have m1 := dV (hall 1 (by simp))
                have m2 := dV (hall 2 (by simp))
                have m3 := dV (hall 3 (by simp))
                have m4 := dV (hall 4 (by simp))
                have m5 := dV (hall 5 (by simp))
                have m6 := dV (hall 6 (by simp))
                have m7 := dV (hall 7 (by simp))
                have m8 := dV (hall 8 (by simp))
                have m9 := dV (hall 9 (by simp))
                have m10 := dV (hall 10 (by simp))
                have m11 := dV (hall 11 (by simp))
                have m12 := dV (hall 12 (by simp))
                have m13 := dV (hall 13 (by simp))
                have m14 := dV (hall 14 (by simp))
                have m15 := dV (hall 15 (by simp))
                have m16 := dV (hall 16 (by simp))
                have m17 := dV (hall 17 (by simp))
                have m18 := dV (hall 18 (by simp))
                obtain ⟨x19, m19, g19⟩ := hall 19 (by simp)
                replace g19 : ∃ A c, x19 = .slice A cN c := g19
                have m20 := dV (hall 20 (by simp))
                have m21 := dV (hall 21 (by simp))
                have m22 := dV (hall 22 (by simp))
                rw [frameM_all (by kernel_rfl) [.bool false, .bool true, .bool true, .slice (some ad2) zn zc, .int .i64 (q : Int), .pointer (some (ad2.add (q * 5))), .pointer (some ⟨(ad2.add (q * 5)).block, (ad2.add (q * 5)).off + 3, none⟩), .slice e1 en e3, .int .i64 (en : Int), .bool true, .bool true, .bool true, TV, .string ⟨p.toArray⟩, .slice (some ad2) zn zc, .int .i64 (q : Int), .pointer (some (ad2.add (q * 5))), .pointer (some (ad2.add (q * 5))), .string ⟨yn.toArray⟩, x19, .int .i64 (cN : Int), .bool true, .bool true] rfl (fun i hi => by rcases i with _ | _ | _ | _ | _ | _ | _ | _ | _ | _ | _ | _ | _ | _ | _ | _ | _ | _ | _ | _ | _ | _ | _ | i <;> first | assumption | (simp at hi; omega))]
                clear hall m0 m1 m2 m3 m4 m5 m6 m7 m8 m9 m10 m11 m12 m13 m14 m15 m16 m17 m18 m19 m20 m21 m22
                simp only [putAll, Act.put, List.setIfInBounds_toArray, List.set_cons_succ, List.set_cons_zero]
                have HB6 := Lib.hid (HB.out.trans (hbx.mono HB.out.size))
                have ho6 := own_below HO.out hbx
                have hs6 := hS.out _ hbx
                obtain ⟨w6, hw6⟩ : ∃ w6, w6 = W := ⟨_, rfl⟩
                subst hw6
                clear hbx hS
                have HST2 : Hid (C.oldK p (zl.map SnapR.con) late (q + 1) = C.oldK p (zl.map SnapR.con) late q ++ [yn]) := by
                  show _ = _
                  rw [HST.out, if_pos (by rw [HLQ.out, decide_eq_true HT0.out, decide_eq_true HC0.out]; rfl)]
                obtain ⟨-, -, -, -, -, -, -, g0, -⟩ := hs6
                have hbase := HB6.out.size
                go_wp2_with (at_builtin; (refine wpList_push w6 rfl (.tmp 62) (.tmp 68) 48 rfl W1.heap.size 9 i0 (.string ByteArray.empty) 1 16 Tryz.underlying48 hi0 hz0 hz1 hz2 rfl (by omega) (.slice Ao mo co) mo _ rfl ho6 1 #[.string ⟨yn.toArray⟩] 9 rfl rfl (by simp [Value.oneCell']) (by unfold maxLen; omega) (by omega) hbase ?_); intro v' w' ho' hb' hg')
                obtain ⟨A2, c2, rfl, _, _, _⟩ := own_form ho'
                have hb'2 := HB6.out.trans hb'
                go_wp2_with fail
                go_roundw
                case rel => exact ⟨q + 1, mo + 1, A2, c2, by omega, by omega, by go_num, rfl, by show _ = _; rw [HST2.out, List.length_append, ← HM.out]; rfl, by show World.ownsRow _ _ _ _ _ _ _; rw [HST2.out, scells_append]; exact ho', hb'2⟩
                case measure => simp [intOf]; omega
            · have hcb : ((cN : Int) == 0) = false := by simpa using hcn
              have HST2 : Hid (C.oldK p (zl.map SnapR.con) late (q + 1) = C.oldK p (zl.map SnapR.con) late q) := by
                show _ = _
                rw [HST.out, if_neg (by rw [decide_eq_false hcn, Bool.and_false, Bool.and_false]; decide)]
                simp
              clear hcn
              refine wp_region_good2 (by kernel_rfl) (by kernel_rfl) [(fun v _ => v = .bool false),
                (fun v _ => v = .bool true),
                (fun v _ => v = .bool true),
                (fun v _ => v = .slice (some ad2) zn zc),
                (fun v _ => v = .int .i64 (q : Int)),
                (fun v _ => v = .pointer (some (ad2.add (q * 5)))),
                (fun v _ => v = .pointer (some ⟨(ad2.add (q * 5)).block, (ad2.add (q * 5)).off + 3, none⟩)),
                (fun v _ => v = .slice e1 en e3),
                (fun v _ => v = .int .i64 (en : Int)),
                (fun v _ => v = .bool true),
                (fun v _ => v = .bool true),
                (fun v _ => v = .bool true),
                (fun v _ => v = TV),
                (fun v _ => v = .string ⟨p.toArray⟩),
                (fun v _ => v = .slice (some ad2) zn zc),
                (fun v _ => v = .int .i64 (q : Int)),
                (fun v _ => v = .pointer (some (ad2.add (q * 5)))),
                (fun v _ => v = .pointer (some (ad2.add (q * 5)))),
                (fun v _ => v = .string ⟨yn.toArray⟩),
                (fun v _ => ∃ A c, v = .slice A cN c),
                (fun v _ => v = .int .i64 (cN : Int)),
                (fun v _ => v = .bool false),
                (fun v _ => v = .bool false)] ?_ ?_ ?_
              · repeat' (first | exact stays_nil | refine stays_cons ?_ ?_ | exact Stays.pure)
              · intro i oo ho m2 W hb0 hmi hcl hdeps AA KK hA hK
                rcases i with _ | _ | _ | _ | _ | _ | _ | _ | _ | _ | _ | _ | _ | _ | _ | _ | _ | _ | _ | _ | _ | _ | _ | i
                · injection ho with ho; subst ho
                  have ef11 : AA.tmps[11]?.getD undef = .bool false := tF hA
                  exact zP
                · injection ho with ho; subst ho
                  have e0 := eD hdeps hA 0 39
                  exact zP
                · injection ho with ho; subst ho
                  have e1 := eD hdeps hA 1 40
                  exact zP
                · injection ho with ho; subst ho
                  have e2 := eD hdeps hA 2 41
                  have ef9 : AA.tmps[9]?.getD undef = .slice (some ad2) zn zc := tF hA
                  clear hA hdeps hcl hmi
                  rw [if_pos (wanted_of (k := 41) rfl rfl e2)]
                  have hK0 : KK (AA.put (some 42) _) _ := hK (.slice (some ad2) zn zc) _ (Below.refl _ _) (Eq.refl _)
                  clear hK
                  go_simp
                  exact hK0
                · injection ho with ho; subst ho
                  have e2 := eD hdeps hA 2 41
                  have ef10 : AA.tmps[10]?.getD undef = .int .i64 (q : Int) := tF hA
                  clear hA hdeps hcl hmi
                  rw [if_pos (wanted_of (k := 41) rfl rfl e2)]
                  have hK0 : KK (AA.put (some 43) _) _ := hK (.int .i64 (q : Int)) _ (Below.refl _ _) (Eq.refl _)
                  clear hK
                  go_simp
                  exact hK0
                · injection ho with ho; subst ho
                  have e2 := eD hdeps hA 2 41
                  have e3 := eD hdeps hA 3 42
                  have e4 := eD hdeps hA 4 43
                  clear hA hdeps hcl hmi
                  rw [if_pos (wanted_of (k := 41) rfl rfl e2)]
                  have hK0 : KK (AA.put (some 44) _) _ := hK (.pointer (some (ad2.add (q * 5)))) _ (Below.refl _ _) (Eq.refl _)
                  clear hK
                  go_simp
                  exact hK0
                · injection ho with ho; subst ho
                  have e2 := eD hdeps hA 2 41
                  have e5 := eD hdeps hA 5 44
                  clear hA hdeps hcl hmi
                  rw [if_pos (wanted_of (k := 41) rfl rfl e2)]
                  have hK0 : KK (AA.put (some 45) _) _ := hK (.pointer (some ⟨(ad2.add (q * 5)).block, (ad2.add (q * 5)).off + 3, none⟩)) _ (Below.refl _ _) (Eq.refl _)
                  clear hK
                  go_simp
                  exact hK0
                · injection ho with ho; subst ho
                  have e2 := eD hdeps hA 2 41
                  have e6 := eD hdeps hA 6 45
                  clear hA hdeps hcl hmi
                  rw [if_pos (wanted_of (k := 41) rfl rfl e2)]
                  obtain ⟨c0, c1, c2, c3, c4, c5, c6, g0, g3⟩ := hS.out W hb0
                  have hK0 : KK (AA.put (some 46) _) _ := hK (.slice e1 en e3) _ (Below.refl _ _) (Eq.refl _)
                  clear hK
                  go_simp
                  exact hK0
                · injection ho with ho; subst ho
                  have e2 := eD hdeps hA 2 41
                  have e7 := eD hdeps hA 7 46
                  clear hA hdeps hcl hmi
                  rw [if_pos (wanted_of (k := 41) rfl rfl e2)]
                  have hK0 : KK (AA.put (some 47) _) _ := hK (.int .i64 (en : Int)) _ (Below.refl _ _) (Eq.refl _)
                  clear hK
                  go_simp
                  exact hK0
                · injection ho with ho; subst ho
                  have e2 := eD hdeps hA 2 41
                  have e8 := eD hdeps hA 8 47
                  clear hA hdeps hcl hmi
                  rw [if_pos (wanted_of (k := 41) rfl rfl e2)]
                  have hK0 : KK (AA.put (some 48) _) _ := hK (.bool true) _ (Below.refl _ _) (Eq.refl _)
                  clear hK
                  go_simp
                  exact hK0
                · injection ho with ho; subst ho
                  have e2 := eD hdeps hA 2 41
                  have e9 := eD hdeps hA 9 48
                  exact zP
                · injection ho with ho; subst ho
                  have e10 := eD hdeps hA 10 49
                  exact zP
                · injection ho with ho; subst ho
                  have e11 := eD hdeps hA 11 50
                  have ef3 : AA.tmps[3]?.getD undef = .pointer (some ⟨w.heap.size, 0, none⟩) := tF hA
                  clear hA hdeps hcl hmi
                  rw [if_pos (wanted_of (k := 50) rfl rfl e11)]
                  obtain ⟨c0, c1, c2, c3, c4, c5, c6, g0, g3⟩ := hS.out W hb0
                  have hK0 : KK (AA.put (some 51) _) _ := hK (TV) _ (Below.refl _ _) (Eq.refl _)
                  clear hK
                  rw [HTV.out] at hK0
                  go_simp
                  exact hK0
                · injection ho with ho; subst ho
                  have e11 := eD hdeps hA 11 50
                  have ef1 : AA.tmps[1]?.getD undef = .string ⟨p.toArray⟩ := tF hA
                  clear hA hdeps hcl hmi
                  rw [if_pos (wanted_of (k := 50) rfl rfl e11)]
                  have hK0 : KK (AA.put (some 52) _) _ := hK (.string ⟨p.toArray⟩) _ (Below.refl _ _) (Eq.refl _)
                  clear hK
                  go_simp
                  exact hK0
                · injection ho with ho; subst ho
                  have e11 := eD hdeps hA 11 50
                  have ef9 : AA.tmps[9]?.getD undef = .slice (some ad2) zn zc := tF hA
                  clear hA hdeps hcl hmi
                  rw [if_pos (wanted_of (k := 50) rfl rfl e11)]
                  have hK0 : KK (AA.put (some 53) _) _ := hK (.slice (some ad2) zn zc) _ (Below.refl _ _) (Eq.refl _)
                  clear hK
                  go_simp
                  exact hK0
                · injection ho with ho; subst ho
                  have e11 := eD hdeps hA 11 50
                  have ef10 : AA.tmps[10]?.getD undef = .int .i64 (q : Int) := tF hA
                  clear hA hdeps hcl hmi
                  rw [if_pos (wanted_of (k := 50) rfl rfl e11)]
                  have hK0 : KK (AA.put (some 54) _) _ := hK (.int .i64 (q : Int)) _ (Below.refl _ _) (Eq.refl _)
                  clear hK
                  go_simp
                  exact hK0
                · injection ho with ho; subst ho
                  have e11 := eD hdeps hA 11 50
                  have e14 := eD hdeps hA 14 53
                  have e15 := eD hdeps hA 15 54
                  clear hA hdeps hcl hmi
                  rw [if_pos (wanted_of (k := 50) rfl rfl e11)]
                  have hK0 : KK (AA.put (some 55) _) _ := hK (.pointer (some (ad2.add (q * 5)))) _ (Below.refl _ _) (Eq.refl _)
                  clear hK
                  go_simp
                  exact hK0
                · injection ho with ho; subst ho
                  have e11 := eD hdeps hA 11 50
                  have e16 := eD hdeps hA 16 55
                  clear hA hdeps hcl hmi
                  rw [if_pos (wanted_of (k := 50) rfl rfl e11)]
                  have hK0 : KK (AA.put (some 56) _) _ := hK (.pointer (some (ad2.add (q * 5)))) _ (Below.refl _ _) (Eq.refl _)
                  clear hK
                  go_simp
                  exact hK0
                · injection ho with ho; subst ho
                  have e11 := eD hdeps hA 11 50
                  have e17 := eD hdeps hA 17 56
                  clear hA hdeps hcl hmi
                  rw [if_pos (wanted_of (k := 50) rfl rfl e11)]
                  obtain ⟨c0, c1, c2, c3, c4, c5, c6, g0, g3⟩ := hS.out W hb0
                  have hK0 : KK (AA.put (some 57) _) _ := hK (.string ⟨yn.toArray⟩) _ (Below.refl _ _) (Eq.refl _)
                  clear hK
                  go_simp
                  exact hK0
                · injection ho with ho; subst ho
                  have e11 := eD hdeps hA 11 50
                  have e12 := eD hdeps hA 12 51
                  have e13 := eD hdeps hA 13 52
                  have e18 := eD hdeps hA 18 57
                  clear hA hdeps hcl hmi
                  rw [if_pos (wanted_of (k := 50) rfl rfl e11)]
                  have hKK := Lib.hid hK
                  clear hK
                  go_simp
                  rw [HTV.out]
                  refine (hCN.out _ (HB.out.trans (hb0.mono HB.out.size))).mono ?_
                  rintro e w5 ⟨⟨A9, c9, rfl⟩, hbn⟩
                  exact hKK.out _ _ hbn ⟨A9, c9, rfl⟩
                · injection ho with ho; subst ho
                  have e11 := eD hdeps hA 11 50
                  obtain ⟨x19, hx19, hg19⟩ := hdeps ⟨19, .data⟩ (by simp) rfl
                  have hg19 : ∃ A c, x19 = .slice A cN c := hg19
                  have hk19 := hg19
                  obtain ⟨A19, c19, rfl⟩ := hg19
                  have e19 : AA.tmps[58]?.getD undef = .slice A19 cN c19 := tO hA hx19
                  clear hA hdeps hcl hmi hx19
                  rw [if_pos (wanted_of (k := 50) rfl rfl e11)]
                  have hK0 : KK (AA.put (some 59) _) _ := hK (.int .i64 (cN : Int)) _ (Below.refl _ _) (Eq.refl _)
                  clear hK
                  go_simp
                  exact hK0
                · injection ho with ho; subst ho
                  have e11 := eD hdeps hA 11 50
                  have e20 := eD hdeps hA 20 59
                  clear hA hdeps hcl hmi
                  rw [if_pos (wanted_of (k := 50) rfl rfl e11)]
                  have hK0 : KK (AA.put (some 60) _) _ := hK (.bool false) _ (Below.refl _ _) (Eq.refl _)
                  clear hK
                  go_simp
                  exact hK0
                · injection ho with ho; subst ho
                  have e11 := eD hdeps hA 11 50
                  have e21 := eD hdeps hA 21 60
                  exact zP
                · simp at ho
              · intro m W hbx hall
                have m0 := dV (hall 0 (by simp))
                have m1 := dV (hall 1 (by simp))
                have m2 := dV (hall 2 (by simp))
                have m3 := dV (hall 3 (by simp))
                have m4 := dV (hall 4 (by simp))
                have m5 := dV (hall 5 (by simp))
                have m6 := dV (hall 6 (by simp))
                have m7 := dV (hall 7 (by simp))
                have m8 := dV (hall 8 (by simp))
                have m9 := dV (hall 9 (by simp))
                have m10 := dV (hall 10 (by simp))
                have m11 := dV (hall 11 (by simp))
                have m12 := dV (hall 12 (by simp))
                have m13 := dV (hall 13 (by simp))
                have m14 := dV (hall 14 (by simp))
                have m15 := dV (hall 15 (by simp))
                have m16 := dV (hall 16 (by simp))
                have m17 := dV (hall 17 (by simp))
                have m18 := dV (hall 18 (by simp))
                obtain ⟨x19, m19, g19⟩ := hall 19 (by simp)
                replace g19 : ∃ A c, x19 = .slice A cN c := g19
                have m20 := dV (hall 20 (by simp))
                have m21 := dV (hall 21 (by simp))
                have m22 := dV (hall 22 (by simp))
                rw [frameM_all (by kernel_rfl) [.bool false, .bool true, .bool true, .slice (some ad2) zn zc, .int .i64 (q : Int), .pointer (some (ad2.add (q * 5))), .pointer (some ⟨(ad2.add (q * 5)).block, (ad2.add (q * 5)).off + 3, none⟩), .slice e1 en e3, .int .i64 (en : Int), .bool true, .bool true, .bool true, TV, .string ⟨p.toArray⟩, .slice (some ad2) zn zc, .int .i64 (q : Int), .pointer (some (ad2.add (q * 5))), .pointer (some (ad2.add (q * 5))), .string ⟨yn.toArray⟩, x19, .int .i64 (cN : Int), .bool false, .bool false] rfl (fun i hi => by rcases i with _ | _ | _ | _ | _ | _ | _ | _ | _ | _ | _ | _ | _ | _ | _ | _ | _ | _ | _ | _ | _ | _ | _ | i <;> first | assumption | (simp at hi; omega))]
                clear hall m0 m1 m2 m3 m4 m5 m6 m7 m8 m9 m10 m11 m12 m13 m14 m15 m16 m17 m18 m19 m20 m21 m22
                simp only [putAll, Act.put, List.setIfInBounds_toArray, List.set_cons_succ, List.set_cons_zero]
                have HB6 := Lib.hid (HB.out.trans (hbx.mono HB.out.size))
                have ho6 := own_below HO.out hbx
                have hs6 := hS.out _ hbx
                obtain ⟨w6, hw6⟩ : ∃ w6, w6 = W := ⟨_, rfl⟩
                subst hw6
                clear hbx hS
                go_wp2_with fail
                go_roundw
                case rel => exact ⟨q + 1, mo, Ao, co, by omega, by omega, by go_num, rfl, by show _ = _; rw [HST2.out]; exact HM.out, by show World.ownsRow _ _ _ _ _ _ _; rw [HST2.out]; exact ho6, HB6.out⟩
                case measure => simp [intOf]; omega
          · have htb : ((en : Int) == 0) = false := by simpa using ht
            have HST2 : Hid (C.oldK p (zl.map SnapR.con) late (q + 1) = C.oldK p (zl.map SnapR.con) late q) := by
              show _ = _
              rw [HST.out, if_neg (by rw [decide_eq_false ht, Bool.false_and, Bool.and_false]; decide)]
              simp
            clear ht
            refine wp_region_good2 (by kernel_rfl) (by kernel_rfl) [(fun v _ => v = .bool false),
              (fun v _ => v = .bool true),
              (fun v _ => v = .bool true),
              (fun v _ => v = .slice (some ad2) zn zc),
              (fun v _ => v = .int .i64 (q : Int)),
              (fun v _ => v = .pointer (some (ad2.add (q * 5)))),
              (fun v _ => v = .pointer (some ⟨(ad2.add (q * 5)).block, (ad2.add (q * 5)).off + 3, none⟩)),
              (fun v _ => v = .slice e1 en e3),
              (fun v _ => v = .int .i64 (en : Int)),
              (fun v _ => v = .bool false),
              (fun v _ => v = .bool false),
              (fun v _ => v = .bool false),
              (fun v _ => v = undef),
              (fun v _ => v = undef),
              (fun v _ => v = undef),
              (fun v _ => v = undef),
              (fun v _ => v = undef),
              (fun v _ => v = undef),
              (fun v _ => v = undef),
              (fun v _ => v = undef),
              (fun v _ => v = undef),
              (fun v _ => v = undef),
              (fun v _ => v = .bool false)] ?_ ?_ ?_
            · repeat' (first | exact stays_nil | refine stays_cons ?_ ?_ | exact Stays.pure)
            · intro i oo ho m2 W hb0 hmi hcl hdeps AA KK hA hK
              rcases i with _ | _ | _ | _ | _ | _ | _ | _ | _ | _ | _ | _ | _ | _ | _ | _ | _ | _ | _ | _ | _ | _ | _ | i
              · injection ho with ho; subst ho
                have ef11 : AA.tmps[11]?.getD undef = .bool false := tF hA
                exact zP
              · injection ho with ho; subst ho
                have e0 := eD hdeps hA 0 39
                exact zP
              · injection ho with ho; subst ho
                have e1 := eD hdeps hA 1 40
                exact zP
              · injection ho with ho; subst ho
                have e2 := eD hdeps hA 2 41
                have ef9 : AA.tmps[9]?.getD undef = .slice (some ad2) zn zc := tF hA
                clear hA hdeps hcl hmi
                rw [if_pos (wanted_of (k := 41) rfl rfl e2)]
                have hK0 : KK (AA.put (some 42) _) _ := hK (.slice (some ad2) zn zc) _ (Below.refl _ _) (Eq.refl _)
                clear hK
                go_simp
                exact hK0
              · injection ho with ho; subst ho
                have e2 := eD hdeps hA 2 41
                have ef10 : AA.tmps[10]?.getD undef = .int .i64 (q : Int) := tF hA
                clear hA hdeps hcl hmi
                rw [if_pos (wanted_of (k := 41) rfl rfl e2)]
                have hK0 : KK (AA.put (some 43) _) _ := hK (.int .i64 (q : Int)) _ (Below.refl _ _) (Eq.refl _)
                clear hK
                go_simp
                exact hK0
              · injection ho with ho; subst ho
                have e2 := eD hdeps hA 2 41
                have e3 := eD hdeps hA 3 42
                have e4 := eD hdeps hA 4 43
                clear hA hdeps hcl hmi
                rw [if_pos (wanted_of (k := 41) rfl rfl e2)]
                have hK0 : KK (AA.put (some 44) _) _ := hK (.pointer (some (ad2.add (q * 5)))) _ (Below.refl _ _) (Eq.refl _)
                clear hK
                go_simp
                exact hK0
              · injection ho with ho; subst ho
                have e2 := eD hdeps hA 2 41
                have e5 := eD hdeps hA 5 44
                clear hA hdeps hcl hmi
                rw [if_pos (wanted_of (k := 41) rfl rfl e2)]
                have hK0 : KK (AA.put (some 45) _) _ := hK (.pointer (some ⟨(ad2.add (q * 5)).block, (ad2.add (q * 5)).off + 3, none⟩)) _ (Below.refl _ _) (Eq.refl _)
                clear hK
                go_simp
                exact hK0
              · injection ho with ho; subst ho
                have e2 := eD hdeps hA 2 41
                have e6 := eD hdeps hA 6 45
                clear hA hdeps hcl hmi
                rw [if_pos (wanted_of (k := 41) rfl rfl e2)]
                obtain ⟨c0, c1, c2, c3, c4, c5, c6, g0, g3⟩ := hS.out W hb0
                have hK0 : KK (AA.put (some 46) _) _ := hK (.slice e1 en e3) _ (Below.refl _ _) (Eq.refl _)
                clear hK
                go_simp
                exact hK0
              · injection ho with ho; subst ho
                have e2 := eD hdeps hA 2 41
                have e7 := eD hdeps hA 7 46
                clear hA hdeps hcl hmi
                rw [if_pos (wanted_of (k := 41) rfl rfl e2)]
                have hK0 : KK (AA.put (some 47) _) _ := hK (.int .i64 (en : Int)) _ (Below.refl _ _) (Eq.refl _)
                clear hK
                go_simp
                exact hK0
              · injection ho with ho; subst ho
                have e2 := eD hdeps hA 2 41
                have e8 := eD hdeps hA 8 47
                clear hA hdeps hcl hmi
                rw [if_pos (wanted_of (k := 41) rfl rfl e2)]
                have hK0 : KK (AA.put (some 48) _) _ := hK (.bool false) _ (Below.refl _ _) (Eq.refl _)
                clear hK
                go_simp
                exact hK0
              · injection ho with ho; subst ho
                have e2 := eD hdeps hA 2 41
                have e9 := eD hdeps hA 9 48
                exact zP
              · injection ho with ho; subst ho
                have e10 := eD hdeps hA 10 49
                exact zP
              · injection ho with ho; subst ho
                have e11 := eD hdeps hA 11 50
                have ef3 : AA.tmps[3]?.getD undef = .pointer (some ⟨w.heap.size, 0, none⟩) := tF hA
                clear hA hdeps hcl hmi
                rw [if_neg (unwanted_of (b := true) (k := 50) rfl rfl (.inl e11))]
                exact hK undef _ (Below.refl _ _) (Eq.refl _)
              · injection ho with ho; subst ho
                have e11 := eD hdeps hA 11 50
                have ef1 : AA.tmps[1]?.getD undef = .string ⟨p.toArray⟩ := tF hA
                clear hA hdeps hcl hmi
                rw [if_neg (unwanted_of (b := true) (k := 50) rfl rfl (.inl e11))]
                exact hK undef _ (Below.refl _ _) (Eq.refl _)
              · injection ho with ho; subst ho
                have e11 := eD hdeps hA 11 50
                have ef9 : AA.tmps[9]?.getD undef = .slice (some ad2) zn zc := tF hA
                clear hA hdeps hcl hmi
                rw [if_neg (unwanted_of (b := true) (k := 50) rfl rfl (.inl e11))]
                exact hK undef _ (Below.refl _ _) (Eq.refl _)
              · injection ho with ho; subst ho
                have e11 := eD hdeps hA 11 50
                have ef10 : AA.tmps[10]?.getD undef = .int .i64 (q : Int) := tF hA
                clear hA hdeps hcl hmi
                rw [if_neg (unwanted_of (b := true) (k := 50) rfl rfl (.inl e11))]
                exact hK undef _ (Below.refl _ _) (Eq.refl _)
              · injection ho with ho; subst ho
                have e11 := eD hdeps hA 11 50
                have e14 := eD hdeps hA 14 53
                have e15 := eD hdeps hA 15 54
                clear hA hdeps hcl hmi
                rw [if_neg (unwanted_of (b := true) (k := 50) rfl rfl (.inl e11))]
                exact hK undef _ (Below.refl _ _) (Eq.refl _)
              · injection ho with ho; subst ho
                have e11 := eD hdeps hA 11 50
                have e16 := eD hdeps hA 16 55
                clear hA hdeps hcl hmi
                rw [if_neg (unwanted_of (b := true) (k := 50) rfl rfl (.inl e11))]
                exact hK undef _ (Below.refl _ _) (Eq.refl _)
              · injection ho with ho; subst ho
                have e11 := eD hdeps hA 11 50
                have e17 := eD hdeps hA 17 56
                clear hA hdeps hcl hmi
                rw [if_neg (unwanted_of (b := true) (k := 50) rfl rfl (.inl e11))]
                exact hK undef _ (Below.refl _ _) (Eq.refl _)
              · injection ho with ho; subst ho
                have e11 := eD hdeps hA 11 50
                have e12 := eD hdeps hA 12 51
                have e13 := eD hdeps hA 13 52
                have e18 := eD hdeps hA 18 57
                clear hA hdeps hcl hmi
                rw [if_neg (unwanted_of (b := true) (k := 50) rfl rfl (.inl e11))]
                exact hK undef _ (Below.refl _ _) (Eq.refl _)
              · injection ho with ho; subst ho
                have e11 := eD hdeps hA 11 50
                have e19 := eD hdeps hA 19 58
                clear hA hdeps hcl hmi
                rw [if_neg (unwanted_of (b := true) (k := 50) rfl rfl (.inl e11))]
                exact hK undef _ (Below.refl _ _) (Eq.refl _)
              · injection ho with ho; subst ho
                have e11 := eD hdeps hA 11 50
                have e20 := eD hdeps hA 20 59
                clear hA hdeps hcl hmi
                rw [if_neg (unwanted_of (b := true) (k := 50) rfl rfl (.inl e11))]
                exact hK undef _ (Below.refl _ _) (Eq.refl _)
              · injection ho with ho; subst ho
                have e11 := eD hdeps hA 11 50
                have e21 := eD hdeps hA 21 60
                exact zP
              · simp at ho
            · intro m W hbx hall
              have m0 := dV (hall 0 (by simp))
              have m1 := dV (hall 1 (by simp))
              have m2 := dV (hall 2 (by simp))
              have m3 := dV (hall 3 (by simp))
              have m4 := dV (hall 4 (by simp))
              have m5 := dV (hall 5 (by simp))
              have m6 := dV (hall 6 (by simp))
              have m7 := dV (hall 7 (by simp))
              have m8 := dV (hall 8 (by simp))
              have m9 := dV (hall 9 (by simp))
              have m10 := dV (hall 10 (by simp))
              have m11 := dV (hall 11 (by simp))
              have m12 := dV (hall 12 (by simp))
              have m13 := dV (hall 13 (by simp))
              have m14 := dV (hall 14 (by simp))
              have m15 := dV (hall 15 (by simp))
              have m16 := dV (hall 16 (by simp))
              have m17 := dV (hall 17 (by simp))
              have m18 := dV (hall 18 (by simp))
              have m19 := dV (hall 19 (by simp))
              have m20 := dV (hall 20 (by simp))
              have m21 := dV (hall 21 (by simp))
              have m22 := dV (hall 22 (by simp))
              rw [frameM_all (by kernel_rfl) [.bool false, .bool true, .bool true, .slice (some ad2) zn zc, .int .i64 (q : Int), .pointer (some (ad2.add (q * 5))), .pointer (some ⟨(ad2.add (q * 5)).block, (ad2.add (q * 5)).off + 3, none⟩), .slice e1 en e3, .int .i64 (en : Int), .bool false, .bool false, .bool false, undef, undef, undef, undef, undef, undef, undef, undef, undef, undef, .bool false] rfl (fun i hi => by rcases i with _ | _ | _ | _ | _ | _ | _ | _ | _ | _ | _ | _ | _ | _ | _ | _ | _ | _ | _ | _ | _ | _ | _ | i <;> first | assumption | (simp at hi; omega))]
              clear hall m0 m1 m2 m3 m4 m5 m6 m7 m8 m9 m10 m11 m12 m13 m14 m15 m16 m17 m18 m19 m20 m21 m22
              simp only [putAll, Act.put, List.setIfInBounds_toArray, List.set_cons_succ, List.set_cons_zero]
              have HB6 := Lib.hid (HB.out.trans (hbx.mono HB.out.size))
              have ho6 := own_below HO.out hbx
              have hs6 := hS.out _ hbx
              obtain ⟨w6, hw6⟩ : ∃ w6, w6 = W := ⟨_, rfl⟩
              subst hw6
              clear hbx hS
              go_wp2_with fail
              go_roundw
              case rel => exact ⟨q + 1, mo, Ao, co, by omega, by omega, by go_num, rfl, by show _ = _; rw [HST2.out]; exact HM.out, by show World.ownsRow _ _ _ _ _ _ _; rw [HST2.out]; exact ho6, HB6.out⟩
              case measure => simp [intOf]; omega
      · obtain rfl : q = zn := by omega
        go_wp2_with fail
        go_ret
        refine ⟨Ao, co, ?_, ?_, ?_⟩
        · rw [HLT.out, ← HM.out]; rfl
        · rw [HLT.out, ← HM.out]
          exact own_mono HO.out (by have h2 := hSZ.out W1 hW0.out; omega)
        · exact hBW.out _ HB.out
end Go.Proofs.YtcgclpcocdappaaGreatDoor
