/-
  The page's Begin and Check of records, by their contracts. (mkrf5.py)
-/
import Derived.Test.YthfjfkjlgdnohaaZ10
import Derived.Deep.DeepCutAuto
namespace Go.Proofs.Ythfjfkjlgdnohaa
open Go.RowKit

theorem amount14_any (x l : Int) (w : World) : Calls Try.prog 100 #[.int .i64 x, .int .i64 l] w fun e w' => e = .returned (.bool (amt x l)) ∧ w' = w := by
  by_cases h1 : l ≤ x
  · by_cases h2 : x ≤ 1099511627776
    · have hE : Hid (amt x l = true) := by show _ = _; unfold amt; simp [h1, h2]
      go_enter Try.func100, Try.ntmps100
      go_wp2_with fail
      go_ret
      exact ⟨by rw [hE.out]; rfl, rfl⟩
    · have hE : Hid (amt x l = false) := by show _ = _; unfold amt; simp [h2]
      go_enter Try.func100, Try.ntmps100
      go_wp2_with fail
      go_ret
      exact ⟨by rw [hE.out]; rfl, rfl⟩
  · have hE : Hid (amt x l = false) := by show _ = _; unfold amt; simp [h1]
    go_enter Try.func100, Try.ntmps100
    go_wp2_with fail
    go_ret
    exact ⟨by rw [hE.out]; rfl, rfl⟩
set_option maxRecDepth 100000 in
set_option maxHeartbeats 4000000 in
theorem pbegin_any (rn : BS) (rf rg : Int) (ro : PL) (ri rc : Int) (rd : BS) (ra rb rx ry : Int) (n : Nat) (hn : n = ro.length) (A1 : Option Addr) (c1 : Nat) (w : World) (B1 : Nat) (hB1 : B1 ≤ w.heap.size) (hr1 : Reads w B1 2 A1 n (pcells ro)) (hn5 : n ≤ 5000000000000) (hv : strOk ro) (hnl : rn.length ≤ 140737488351232) :
    Calls Try.prog 65 #[.agg #[.int .i64 1, .string ⟨rn.toArray⟩, .int .i64 rf, .int .i64 rg, .slice A1 n c1, .int .i64 ri, .int .i64 rc, .string ⟨rd.toArray⟩, .int .u64 ra, .int .u64 rb, .int .u64 rx, .int .u64 ry]] w fun e w' => e = .returned (.bool (mayB ⟨1, rn, rf, rg, ro, ri, rc, rd, ⟨ra, rb, rx, ry⟩⟩)) ∧ Below w.heap.size w w' := by
  obtain ⟨M, hM⟩ : ∃ M, M = mayB ⟨1, rn, rf, rg, ro, ri, rc, rd, ⟨ra, rb, rx, ry⟩⟩ := ⟨_, rfl⟩
  rw [← hM]
  obtain ⟨bn, hbn⟩ : ∃ b, b = nameB rn := ⟨_, rfl⟩
  obtain ⟨b1, hb1⟩ : ∃ b, b = amt rf 0 := ⟨_, rfl⟩
  obtain ⟨b2, hb2⟩ : ∃ b, b = amt rg 1 := ⟨_, rfl⟩
  obtain ⟨E, hE⟩ : ∃ E, E = propsE ro := ⟨_, rfl⟩
  have HR : Hid (M = (bn && b1 && b2 && (E == 0) && decide (ri = 0) && decide (rc = 0) && decide (rd = []) && smZ ⟨ra, rb, rx, ry⟩)) := by
    show _ = _
    rw [hM, hbn, hb1, hb2, hE]
    unfold mayB propsE
    simp only [if_true]
    cases propsB ro <;> simp
  obtain ⟨W0, hW0⟩ : ∃ W0, W0 = w.alloc (.cells #[.int .i64 1, .string ⟨rn.toArray⟩, .int .i64 rf, .int .i64 rg, .slice A1 n c1, .int .i64 ri, .int .i64 rc, .string ⟨rd.toArray⟩, .int .u64 ra, .int .u64 rb, .int .u64 rx, .int .u64 ry] 27) := ⟨_, rfl⟩
  have hb0 : Below w.heap.size w W0 := by rw [hW0]; exact (Below.refl _ w).alloc (Nat.le_refl _) _
  have kb : Blk W0 w.heap.size 27 #[.int .i64 1, .string ⟨rn.toArray⟩, .int .i64 rf, .int .i64 rg, .slice A1 n c1, .int .i64 ri, .int .i64 rc, .string ⟨rd.toArray⟩, .int .u64 ra, .int .u64 rb, .int .u64 rx, .int .u64 ry] := by rw [hW0]; exact Blk.new _ _ _
  obtain ⟨a0, a1, a2, a3, a4, a5, a6, a7, a8, a9, a10, a11⟩ := blk12 kb
  have HW0 := Lib.hid hW0
  have hN := fun W => refName_any rn W hnl
  rw [← hbn] at hN
  have h1 := fun W => amount14_any rf 0 W
  rw [← hb1] at h1
  have h2 := fun W => amount14_any rg 1 W
  rw [← hb2] at h2
  have hP := fun W (hb : Below w.heap.size w W) => refProps_any ro n hn A1 c1 W B1 (hr1.below (hb.mono hB1)) hn5 hv
  rw [← hE] at hP
  have HN := Lib.hid hN
  have H1 := Lib.hid h1
  have H2 := Lib.hid h2
  have HP := Lib.hid (hP _ hb0)
  have HB := Lib.hid hb0
  clear hM hbn hb1 hb2 hE hn hr1 hv hN h1 h2 hP hb0 kb hW0
  go_enter Try.func65, Try.ntmps65
  go_wp2_with fail
  rw [← HW0.out]
  refine (HN.out _).mono ?_
  clear HN
  rintro e w1 ⟨rfl, hw⟩
  rw [hw]
  clear hw w1
  cases bn with
  | false =>
    have HF : Hid (M = false) := by show _ = _; rw [HR.out]; simp
    go_wp2_with fail
    go_ret
    exact ⟨by rw [HF.out]; rfl, HB.out⟩
  | true =>
    go_wp2_with fail
    refine (H1.out _).mono ?_
    clear H1
    rintro e w1 ⟨rfl, hw⟩
    rw [hw]
    clear hw w1
    cases b1 with
    | false =>
      have HF : Hid (M = false) := by show _ = _; rw [HR.out]; simp
      go_wp2_with fail
      go_ret
      exact ⟨by rw [HF.out]; rfl, HB.out⟩
    | true =>
      go_wp2_with fail
      refine (H2.out _).mono ?_
      clear H2
      rintro e w1 ⟨rfl, hw⟩
      rw [hw]
      clear hw w1
      cases b2 with
      | false =>
        have HF : Hid (M = false) := by show _ = _; rw [HR.out]; simp
        go_wp2_with fail
        go_ret
        exact ⟨by rw [HF.out]; rfl, HB.out⟩
      | true =>
        go_wp2_with fail
        refine HP.out.mono ?_
        clear HP
        rintro e w1 ⟨rfl, q, rfl⟩
        have HBQ := Lib.hid (below_drewN HB.out q)
        by_cases h0 : E = 0
        · subst h0
          have HF : Hid (M = (decide (ri = 0) && decide (rc = 0) && decide (rd = []) && smZ ⟨ra, rb, rx, ry⟩)) := by show _ = _; rw [HR.out]; simp
          clear HR
          go_wp2_with fail
          all_goals
            go_ret
            refine ⟨?_, HBQ.out⟩
            rw [HF.out]
            unfold smZ
            simp_all
        · have hd : (E == 0) = false := by simp [h0]
          have HF : Hid (M = false) := by show _ = _; rw [HR.out, hd]; simp
          go_wp2_with fail
          go_ret
          exact ⟨by rw [HF.out]; rfl, HBQ.out⟩
set_option maxRecDepth 100000 in
set_option maxHeartbeats 4000000 in
theorem pcheck_any (rk : Int) (rn : BS) (rf rg : Int) (ro : PL) (ri rc : Int) (rd : BS) (ra rb rx ry : Int) (n : Nat) (hn : n = ro.length) (A1 : Option Addr) (c1 : Nat) (w : World) (B1 : Nat) (hB1 : B1 ≤ w.heap.size) (hr1 : Reads w B1 2 A1 n (pcells ro)) (hn5 : n ≤ 5000000000000) (hv : strOk ro) (hnl : rn.length ≤ 140737488351232) :
    Calls Try.prog 20 #[.agg #[.int .i64 rk, .string ⟨rn.toArray⟩, .int .i64 rf, .int .i64 rg, .slice A1 n c1, .int .i64 ri, .int .i64 rc, .string ⟨rd.toArray⟩, .int .u64 ra, .int .u64 rb, .int .u64 rx, .int .u64 ry]] w fun e w' => e = .returned (.int .i64 (recE ⟨rk, rn, rf, rg, ro, ri, rc, rd, ⟨ra, rb, rx, ry⟩⟩)) ∧ Below w.heap.size w w' := by
  obtain ⟨E, hE⟩ : ∃ E, E = recE ⟨rk, rn, rf, rg, ro, ri, rc, rd, ⟨ra, rb, rx, ry⟩⟩ := ⟨_, rfl⟩
  rw [← hE]
  have HE := Lib.hid hE
  obtain ⟨W0, hW0⟩ : ∃ W0, W0 = w.alloc (.cells #[.int .i64 rk, .string ⟨rn.toArray⟩, .int .i64 rf, .int .i64 rg, .slice A1 n c1, .int .i64 ri, .int .i64 rc, .string ⟨rd.toArray⟩, .int .u64 ra, .int .u64 rb, .int .u64 rx, .int .u64 ry] 27) := ⟨_, rfl⟩
  have hb0 : Below w.heap.size w W0 := by rw [hW0]; exact (Below.refl _ w).alloc (Nat.le_refl _) _
  have kb : Blk W0 w.heap.size 27 #[.int .i64 rk, .string ⟨rn.toArray⟩, .int .i64 rf, .int .i64 rg, .slice A1 n c1, .int .i64 ri, .int .i64 rc, .string ⟨rd.toArray⟩, .int .u64 ra, .int .u64 rb, .int .u64 rx, .int .u64 ry] := by rw [hW0]; exact Blk.new _ _ _
  have hbg := fun W (hb : Below w.heap.size w W) => pbegin_any rn rf rg ro ri rc rd ra rb rx ry n hn A1 c1 W B1 (Nat.le_trans hB1 hb.size) (hr1.below (hb.mono hB1)) hn5 hv hnl
  have HBG := Lib.hid hbg
  have HB := Lib.hid hb0
  have HON : Hid (decide (ro = []) = decide (n = 0)) := by
    show _ = _
    rw [hn]
    cases ro <;> simp
  obtain ⟨a0, a1, a2, a3, a4, a5, a6, a7, a8, a9, a10, a11⟩ := blk12 kb
  have HW0 := Lib.hid hW0
  clear hE hb0 hbg hn hr1 hv hW0 kb
  by_cases hk : rk < 1 ∨ 4 < rk
  · have HF : Hid (E = 23) := by show _ = _; rw [HE.out]; unfold recE; rw [if_pos hk]
    clear HE
    rcases hk with hk | hk
    all_goals
      go_enter Try.func20, Try.ntmps20
      go_wp2_with fail
      go_ret
      rw [← HW0.out]
      exact ⟨by rw [HF.out]; rfl, HB.out⟩
  · have HF : Hid (E = if mayB ⟨rk, rn, rf, rg, ro, ri, rc, rd, ⟨ra, rb, rx, ry⟩⟩ = true then 0 else 9) := by show _ = _; rw [HE.out]; unfold recE; rw [if_neg hk]
    have hk4 : rk = 1 ∨ rk = 2 ∨ rk = 3 ∨ rk = 4 := by omega
    have hk1 : ¬ rk < 1 := by omega
    have hk5 : ¬ 4 < rk := by omega
    obtain ⟨Zb, hZ⟩ : ∃ b, b = (decide (rn = []) && decide (rf = 0) && decide (rg = 0) && decide (n = 0)) := ⟨_, rfl⟩
    obtain ⟨Ib, hI⟩ : ∃ b, b = (decide (0 ≤ ri) && decide (ri < 1024)) := ⟨_, rfl⟩
    obtain ⟨Sb, hSb⟩ : ∃ b, b = smZ ⟨ra, rb, rx, ry⟩ := ⟨_, rfl⟩
    have HZ := Lib.hid hZ
    have HI := Lib.hid hI
    have HS := Lib.hid hSb
    clear HE hk hZ hI hSb
    go_enter Try.func20, Try.ntmps20
    go_upto_region 3 with (fail)
    rw [← HW0.out]
    go_cut [1, 2, 3] from 0 to 33 (fun s1 s2 s wx => s1 = .pointer (some ⟨w.heap.size, 0, none⟩) ∧ s2 = .int .i64 0 ∧ s = .bool Zb ∧ wx = W0)
    case first =>
      go_wp2_with fail
      all_goals
        go_meet
        refine ⟨rfl, rfl, ?_, by trivial⟩
        rw [HZ.out]
        have hn0 : ((n : Int) == 0) = decide (n = 0) := by rw [Bool.eq_iff_iff]; simp
        simp_all
    case rest =>
    obtain ⟨rfl, rfl, rfl, hwx⟩ := hcut
    rw [hwx]
    clear hwx
    go_upto_region 4 with (fail)
    go_cut [1, 2, 3, 4] from 0 to 41 (fun s1 s2 s3 s wx => s1 = .pointer (some ⟨w.heap.size, 0, none⟩) ∧ s2 = .int .i64 0 ∧ s3 = .bool Zb ∧ s = .bool Ib ∧ wx = W0)
    case first =>
      go_wp2_with fail
      all_goals
        go_meet
        refine ⟨rfl, rfl, rfl, ?_, by trivial⟩
        rw [HI.out]
        (try simp_all) <;> (intros; omega)
    case rest =>
    obtain ⟨rfl, rfl, rfl, rfl, hwx⟩ := hcut
    rw [hwx]
    clear hwx
    go_upto_region 5 with (fail)
    go_cut [1, 2, 3, 4, 5] from 0 to 45 (fun s1 s2 s3 s4 s wx => s1 = .pointer (some ⟨w.heap.size, 0, none⟩) ∧ s2 = .int .i64 0 ∧ s3 = .bool Zb ∧ s4 = .bool Ib ∧ s = .bool Sb ∧ wx = W0)
    case first =>
      go_wp2_with fail
      all_goals
        go_meet
        refine ⟨rfl, rfl, rfl, rfl, ?_, by trivial⟩
        rw [HS.out]
        unfold smZ
        simp_all
    case rest =>
    obtain ⟨rfl, rfl, rfl, rfl, rfl, hwx⟩ := hcut
    rw [hwx]
    clear hwx
    rcases hk4 with rfl | rfl | rfl | rfl
    · have HBG := Lib.hid (HBG.out _ HB.out)
      obtain ⟨m, hm⟩ : ∃ m, m = mayB ⟨1, rn, rf, rg, ro, ri, rc, rd, ⟨ra, rb, rx, ry⟩⟩ := ⟨_, rfl⟩
      rw [← hm] at HF HBG
      clear hm
      go_wp2_with fail
      refine HBG.out.mono ?_
      clear HBG
      rintro e w1 ⟨rfl, hb1⟩
      cases m with
      | true =>
        go_wp2_with fail
        go_ret
        exact ⟨by rw [HF.out]; rfl, HB.out.trans (hb1.mono HB.out.size)⟩
      | false =>
        go_wp2_with fail
        go_ret
        exact ⟨by rw [HF.out]; rfl, HB.out.trans (hb1.mono HB.out.size)⟩
    · have HF2 : Hid (E = if (Zb && Ib && decide (rc = 0) && decide (rd.length = 16) && Sb) = true then 0 else 9) := by
        show _ = _
        rw [HF.out, HZ.out, HI.out, HS.out]
        congr 1
        unfold mayB
        rw [if_neg (show ¬ (2 : Int) = 1 by decide), if_pos rfl, HON.out]
        simp only [Bool.and_eq_true, decide_eq_true_eq, eq_iff_iff]
        constructor <;> (intro h; simp_all)
      clear HF HZ HI HS HON HBG
      cases Zb <;> cases Ib <;> cases Sb
      all_goals
        go_wp2_with fail
      all_goals
        go_ret
        refine ⟨?_, HB.out⟩
        rw [HF2.out]
        (try simp_all) <;> (intros; omega)
    · have HF2 : Hid (E = if (Zb && Ib && decide (1 ≤ rc) && decide (rc ≤ 1024 - ri) && decide (rd = []) && Sb) = true then 0 else 9) := by
        show _ = _
        rw [HF.out, HZ.out, HI.out, HS.out]
        congr 1
        unfold mayB
        rw [if_neg (show ¬ (3 : Int) = 1 by decide), if_neg (show ¬ (3 : Int) = 2 by decide), if_pos rfl, HON.out]
        simp only [Bool.and_eq_true, decide_eq_true_eq, eq_iff_iff]
        constructor <;> (intro h; simp_all)
      have hib : Ib = true → 0 ≤ ri ∧ ri < 1024 := by
        rw [HI.out]
        simp
      have HIB := Lib.hid hib
      clear HF HZ HI HS HON HBG hib
      cases Ib with
      | false =>
        cases Zb <;> cases Sb
        all_goals
          go_wp2_with fail
        all_goals
          go_ret
          refine ⟨?_, HB.out⟩
          rw [HF2.out]
          (try simp_all) <;> (intros; omega)
      | true =>
        obtain ⟨hi0, hi1⟩ := HIB.out rfl
        cases Zb <;> cases Sb
        all_goals
          go_wp2_with fail
        all_goals
          go_ret
          refine ⟨?_, HB.out⟩
          rw [HF2.out]
          (try simp_all) <;> (intros; omega)
    · have HF2 : Hid (E = if (Zb && decide (ri = 0) && decide (rc = 0) && decide (rd = [])) = true then 0 else 9) := by
        show _ = _
        rw [HF.out, HZ.out]
        congr 1
        unfold mayB
        rw [if_neg (show ¬ (4 : Int) = 1 by decide), if_neg (show ¬ (4 : Int) = 2 by decide), if_neg (show ¬ (4 : Int) = 3 by decide), HON.out]
      clear HF HZ HI HS HON HBG
      cases Zb
      all_goals
        go_wp2_with fail
      all_goals
        go_ret
        refine ⟨?_, HB.out⟩
        rw [HF2.out]
        (try simp_all) <;> (intros; omega)
end Go.Proofs.Ythfjfkjlgdnohaa
