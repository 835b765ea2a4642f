/-
  The page's Encode of a record, by its contract. (mkrf6.py)
-/
import Derived.Test.YtcbeadldieeceaaZ8
import Derived.Test.YtcbeadldieeceaaZ10
import Derived.Test.YtcbeadldieeceaaZ24
import Derived.Test.YtcbeadldieeceaaZ25
namespace Go.Proofs.Ytcbeadldieeceaa
open Go.RowKit

theorem up_reads' {w W : World} {B size n : Nat} {A : Option Addr} {xs : List Value} (h : Reads w B size A n xs) (hb : Below w.heap.size w W) (hB : B ≤ w.heap.size) : Reads W W.heap.size size A n xs := (h.below (hb.mono hB)).more (Nat.le_trans hB hb.size)
set_option maxRecDepth 100000 in
set_option maxHeartbeats 4000000 in
theorem penc1_any (rn : BS) (rf rg : Int) (ro : PL) (ri rc : Int) (rd : BS) (ra rb rx ry : Int) (n : Nat) (hn : n = ro.length) (A1 : Option Addr) (c1 : Nat) (w0 : World) (B1 : Nat) (hB1 : B1 ≤ w0.heap.size) (hr1 : Reads w0 B1 2 A1 n (pcells ro)) (hv : strOk ro) (hnl : rn.length ≤ 140737488351232) (hsm : (⟨ra, rb, rx, ry⟩ : Sm).ok) (hE : recE ⟨1, rn, rf, rg, ro, ri, rc, rd, ⟨ra, rb, rx, ry⟩⟩ = 0) :
    Calls Try.prog 13 #[.agg #[.int .i64 1, .string ⟨rn.toArray⟩, .int .i64 rf, .int .i64 rg, .slice A1 n c1, .int .i64 ri, .int .i64 rc, .string ⟨rd.toArray⟩, .int .u64 ra, .int .u64 rb, .int .u64 rx, .int .u64 ry]] w0 fun e w' => ∃ v, e = .returned (.tuple #[v, .int .i64 0]) ∧ w'.ownsRow w0.heap.size 5 1 v (encL ⟨1, rn, rf, rg, ro, ri, rc, rd, ⟨ra, rb, rx, ry⟩⟩).length (bts (encL ⟨1, rn, rf, rg, ro, ri, rc, rd, ⟨ra, rb, rx, ry⟩⟩)) ∧ Below w0.heap.size w0 w' := by
  obtain ⟨i0, hi0, hz0, hz1, hz2⟩ := info_parts Try.infoS
  obtain ⟨i1, hj0, hw0, hw1, hw2⟩ := info_parts Try.infoU8c
  obtain ⟨hkk, hmay⟩ := recE_kind _ hE
  have h8 : ro.length ≤ 8 := own_small _ hkk hmay
  have hn8 : n ≤ 8 := by omega
  have HSM := Lib.hid (rtexts_small _ hE)
  have HFL := Lib.hid (fwrite_len _ hE)
  have hc := fun W (hb : Below w0.heap.size w0 W) => pcheck_any 1 rn rf rg ro ri rc rd ra rb rx ry n hn A1 c1 W B1 (Nat.le_trans hB1 hb.size) (hr1.below (hb.mono hB1)) (by omega) hv hnl
  rw [hE] at hc
  have hTX := fun W (hb : Below w0.heap.size w0 W) => refText_any ro n hn A1 c1 W B1 (hr1.below (hb.mono hB1)) (Nat.le_trans hB1 hb.size) (by omega)
  obtain ⟨L, hL⟩ : ∃ L, L = encL ⟨1, rn, rf, rg, ro, ri, rc, rd, ⟨ra, rb, rx, ry⟩⟩ := ⟨_, rfl⟩
  have HLL : Hid (L = 1 :: (putL ((fwrite (rtexts ⟨1, rn, rf, rg, ro, ri, rc, rd, ⟨ra, rb, rx, ry⟩⟩)).length : Int) 2 ++ fwrite (rtexts ⟨1, rn, rf, rg, ro, ri, rc, rd, ⟨ra, rb, rx, ry⟩⟩))) := hL
  rw [← hL]
  obtain ⟨TX, hTX2⟩ : ∃ TX, TX = rtexts ⟨1, rn, rf, rg, ro, ri, rc, rd, ⟨ra, rb, rx, ry⟩⟩ := ⟨_, rfl⟩
  rw [← hTX2] at HSM HFL HLL
  obtain ⟨tl, htl⟩ : ∃ t, t = TX.length := ⟨_, rfl⟩
  have HTL := Lib.hid htl
  have HTXE := Lib.hid hTX2
  have HN := Lib.hid hn
  have hk := Blk.new w0 47 #[.int .i64 1, .string ⟨rn.toArray⟩, .int .i64 rf, .int .i64 rg, .slice A1 n c1, .int .i64 ri, .int .i64 rc, .string ⟨rd.toArray⟩, .int .u64 ra, .int .u64 rb, .int .u64 rx, .int .u64 ry]
  have hbel := (Below.refl w0.heap.size w0).alloc (Nat.le_refl _) (.cells #[.int .i64 1, .string ⟨rn.toArray⟩, .int .i64 rf, .int .i64 rg, .slice A1 n c1, .int .i64 ri, .int .i64 rc, .string ⟨rd.toArray⟩, .int .u64 ra, .int .u64 rb, .int .u64 rx, .int .u64 ry] 47)
  have HC := Lib.hid (hc _ hbel)
  have HTXT := Lib.hid hTX
  have HSMO := Lib.hid hsm
  clear hc hTX hL hTX2 htl hn hr1 hv hE hkk hmay h8 hsm
  go_enter Try.func13, Try.ntmps13
  go_wp2_with fail
  refine HC.out.mono ?_
  rintro e w1 ⟨rfl, hb1⟩
  have hk := hk.below hb1 hk.lt
  have hbel := hbel.trans (hb1.mono hbel.size)
  have hB0 : w0.heap.size ≤ w1.heap.size := hbel.size
  clear hb1 HC
  obtain ⟨c0_, c1_, c2_, c3_, c4_, c5_, c6_, c7_, c8_, c9_, c10_, c11_⟩ := blk12 hk
  have HTX := Lib.hid (fun W (hb : Below w1.heap.size w1 W) => HTXT.out W (hbel.trans (hb.mono hB0)))
  have hS := Lib.hid (fun (W' : World) (hB : Below w1.heap.size w1 W') => (blk12 (hk.below hB hk.lt) :
    W'.cell? ⟨w0.heap.size, 0, none⟩ = some (.int .i64 1) ∧ W'.cell? ⟨w0.heap.size, 1, none⟩ = some (.string ⟨rn.toArray⟩) ∧ W'.cell? ⟨w0.heap.size, 2, none⟩ = some (.int .i64 rf) ∧ W'.cell? ⟨w0.heap.size, 3, none⟩ = some (.int .i64 rg) ∧ W'.cell? ⟨w0.heap.size, 4, none⟩ = some (.slice A1 n c1) ∧ W'.cell? ⟨w0.heap.size, 5, none⟩ = some (.int .i64 ri) ∧ W'.cell? ⟨w0.heap.size, 6, none⟩ = some (.int .i64 rc) ∧ W'.cell? ⟨w0.heap.size, 7, none⟩ = some (.string ⟨rd.toArray⟩) ∧ W'.cell? ⟨w0.heap.size, 8, none⟩ = some (.int .u64 ra) ∧ W'.cell? ⟨w0.heap.size, 9, none⟩ = some (.int .u64 rb) ∧ W'.cell? ⟨w0.heap.size, 10, none⟩ = some (.int .u64 rx) ∧ W'.cell? ⟨w0.heap.size, 11, none⟩ = some (.int .u64 ry)))
  have HTXC : Hid (scells TX = scells [rn, n8 rf, n8 rg] ++ scells (ptexts ro)) := by show _ = _; rw [HTXE.out]; simp [rtexts, scells]
  have HTN : Hid (3 + 2 * n = tl) := by show _ = _; rw [HTL.out, HTXE.out]; simp [rtexts, ptexts_len, HN.out]; omega
  go_wp2_with fail
  obtain ⟨val, hval⟩ : ∃ val : Nat → Option Value, val = fun i => [some (.pointer (some ⟨w0.heap.size, 1, none⟩)), some (.string ⟨rn.toArray⟩), some (.pointer (some ⟨w0.heap.size, 2, none⟩)), some (.int .i64 rf), some (.string ⟨(n8 rf).toArray⟩), some (.pointer (some ⟨w0.heap.size, 3, none⟩)), some (.int .i64 rg), some (.string ⟨(n8 rg).toArray⟩), none, some (.pointer (some ⟨w0.heap.size, 4, none⟩)), some (.slice A1 n c1), none, none, none][i]?.join := ⟨_, rfl⟩
  obtain ⟨row, hrow⟩ : ∃ row : Nat → Option (TypeId × Nat × List Value), row = fun i => [none, none, none, none, none, none, none, none, some (9, 3, scells [rn, n8 rf, n8 rg]), none, none, some (9, (2 * n), scells (ptexts ro)), some (9, 3 + (2 * n), scells [rn, n8 rf, n8 rg] ++ scells (ptexts ro)), some (9, 3 + (2 * n), scells [rn, n8 rf, n8 rg] ++ scells (ptexts ro))][i]?.join := ⟨_, rfl⟩
  obtain ⟨user, husr⟩ : ∃ user : Nat → Option Nat, user = fun i => [none, none, none, none, none, none, none, none, some 12, none, none, none, some 13, none][i]?.join := ⟨_, rfl⟩
  have v0 : val 0 = some (.pointer (some ⟨w0.heap.size, 1, none⟩)) := by rw [hval]; rfl
  have r0 : row 0 = none := by rw [hrow]; rfl
  have u0 : user 0 = none := by rw [husr]; rfl
  have v1 : val 1 = some (.string ⟨rn.toArray⟩) := by rw [hval]; rfl
  have r1 : row 1 = none := by rw [hrow]; rfl
  have u1 : user 1 = none := by rw [husr]; rfl
  have v2 : val 2 = some (.pointer (some ⟨w0.heap.size, 2, none⟩)) := by rw [hval]; rfl
  have r2 : row 2 = none := by rw [hrow]; rfl
  have u2 : user 2 = none := by rw [husr]; rfl
  have v3 : val 3 = some (.int .i64 rf) := by rw [hval]; rfl
  have r3 : row 3 = none := by rw [hrow]; rfl
  have u3 : user 3 = none := by rw [husr]; rfl
  have v4 : val 4 = some (.string ⟨(n8 rf).toArray⟩) := by rw [hval]; rfl
  have r4 : row 4 = none := by rw [hrow]; rfl
  have u4 : user 4 = none := by rw [husr]; rfl
  have v5 : val 5 = some (.pointer (some ⟨w0.heap.size, 3, none⟩)) := by rw [hval]; rfl
  have r5 : row 5 = none := by rw [hrow]; rfl
  have u5 : user 5 = none := by rw [husr]; rfl
  have v6 : val 6 = some (.int .i64 rg) := by rw [hval]; rfl
  have r6 : row 6 = none := by rw [hrow]; rfl
  have u6 : user 6 = none := by rw [husr]; rfl
  have v7 : val 7 = some (.string ⟨(n8 rg).toArray⟩) := by rw [hval]; rfl
  have r7 : row 7 = none := by rw [hrow]; rfl
  have u7 : user 7 = none := by rw [husr]; rfl
  have v8 : val 8 = none := by rw [hval]; rfl
  have r8 : row 8 = some (9, 3, scells [rn, n8 rf, n8 rg]) := by rw [hrow]; rfl
  have u8 : user 8 = some 12 := by rw [husr]; rfl
  have v9 : val 9 = some (.pointer (some ⟨w0.heap.size, 4, none⟩)) := by rw [hval]; rfl
  have r9 : row 9 = none := by rw [hrow]; rfl
  have u9 : user 9 = none := by rw [husr]; rfl
  have v10 : val 10 = some (.slice A1 n c1) := by rw [hval]; rfl
  have r10 : row 10 = none := by rw [hrow]; rfl
  have u10 : user 10 = none := by rw [husr]; rfl
  have v11 : val 11 = none := by rw [hval]; rfl
  have r11 : row 11 = some (9, (2 * n), scells (ptexts ro)) := by rw [hrow]; rfl
  have u11 : user 11 = none := by rw [husr]; rfl
  have v12 : val 12 = none := by rw [hval]; rfl
  have r12 : row 12 = some (9, 3 + (2 * n), scells [rn, n8 rf, n8 rg] ++ scells (ptexts ro)) := by rw [hrow]; rfl
  have u12 : user 12 = some 13 := by rw [husr]; rfl
  have v13 : val 13 = none := by rw [hval]; rfl
  have r13 : row 13 = some (9, 3 + (2 * n), scells [rn, n8 rf, n8 rg] ++ scells (ptexts ro)) := by rw [hrow]; rfl
  have u13 : user 13 = none := by rw [husr]; rfl
  clear hval hrow husr
  refine wp_region_inv (by kernel_rfl) (by kernel_rfl) (RowsK w1 val row user) RowsK.start ?_ ?_
  · intro i o ho m W hJ hmi hdeps AA KK hA hK
    rcases i with _ | _ | _ | _ | _ | _ | _ | _ | _ | _ | _ | _ | _ | _ | i
    · injection ho with ho
      subst ho
      have e4 : AA.tmps[1]?.getD undef = .pointer (some ⟨w0.heap.size, 0, none⟩) := by rw [hA]; exact tmps_free (by kernel_rfl)
      have hK0 : KK (AA.put (some 22) _) _ := hK _ _ (hJ.pure (Below.refl _ _) r0 (fun x hx => by rw [v0] at hx; exact Option.some.inj hx))
      clear hA hdeps hK v0 v1 v2 v3 v4 v5 v6 v7 v8 v9 v10 v11 v12 v13 r0 r1 r2 r3 r4 r5 r6 r7 r8 r9 r10 r11 r12 r13 u0 u1 u2 u3 u4 u5 u6 u7 u8 u9 u10 u11 u12 u13
      go_simp
      exact hK0
    · injection ho with ho
      subst ho
      have hx0 := hJ.det.get v0 (hdeps ⟨0, .data⟩ (by simp) rfl)
      have e0 : AA.tmps[22]?.getD undef = .pointer (some ⟨w0.heap.size, 1, none⟩) := by rw [hA]; exact tmps_own (by kernel_rfl) hx0 (of_decide_eq_true (by kernel_rfl))
      obtain ⟨c0_, c1_, c2_, c3_, c4_, c5_, c6_, c7_, c8_, c9_, c10_, c11_⟩ := hS.out W hJ.bel
      have hK0 : KK (AA.put (some 23) _) _ := hK _ _ (hJ.pure (Below.refl _ _) r1 (fun x hx => by rw [v1] at hx; exact Option.some.inj hx))
      clear hA hdeps hK v0 v1 v2 v3 v4 v5 v6 v7 v8 v9 v10 v11 v12 v13 r0 r1 r2 r3 r4 r5 r6 r7 r8 r9 r10 r11 r12 r13 u0 u1 u2 u3 u4 u5 u6 u7 u8 u9 u10 u11 u12 u13
      go_simp
      exact hK0
    · injection ho with ho
      subst ho
      have e4 : AA.tmps[1]?.getD undef = .pointer (some ⟨w0.heap.size, 0, none⟩) := by rw [hA]; exact tmps_free (by kernel_rfl)
      have hK0 : KK (AA.put (some 24) _) _ := hK _ _ (hJ.pure (Below.refl _ _) r2 (fun x hx => by rw [v2] at hx; exact Option.some.inj hx))
      clear hA hdeps hK v0 v1 v2 v3 v4 v5 v6 v7 v8 v9 v10 v11 v12 v13 r0 r1 r2 r3 r4 r5 r6 r7 r8 r9 r10 r11 r12 r13 u0 u1 u2 u3 u4 u5 u6 u7 u8 u9 u10 u11 u12 u13
      go_simp
      exact hK0
    · injection ho with ho
      subst ho
      have hx2 := hJ.det.get v2 (hdeps ⟨2, .data⟩ (by simp) rfl)
      have e2 : AA.tmps[24]?.getD undef = .pointer (some ⟨w0.heap.size, 2, none⟩) := by rw [hA]; exact tmps_own (by kernel_rfl) hx2 (of_decide_eq_true (by kernel_rfl))
      obtain ⟨c0_, c1_, c2_, c3_, c4_, c5_, c6_, c7_, c8_, c9_, c10_, c11_⟩ := hS.out W hJ.bel
      have hK0 : KK (AA.put (some 25) _) _ := hK _ _ (hJ.pure (Below.refl _ _) r3 (fun x hx => by rw [v3] at hx; exact Option.some.inj hx))
      clear hA hdeps hK v0 v1 v2 v3 v4 v5 v6 v7 v8 v9 v10 v11 v12 v13 r0 r1 r2 r3 r4 r5 r6 r7 r8 r9 r10 r11 r12 r13 u0 u1 u2 u3 u4 u5 u6 u7 u8 u9 u10 u11 u12 u13
      go_simp
      exact hK0
    · injection ho with ho
      subst ho
      have hx3 := hJ.det.get v3 (hdeps ⟨3, .data⟩ (by simp) rfl)
      have e3 : AA.tmps[25]?.getD undef = .int .i64 rf := by rw [hA]; exact tmps_own (by kernel_rfl) hx3 (of_decide_eq_true (by kernel_rfl))
      have hKK := Lib.hid hK
      have HV := Lib.hid v4
      have HR := Lib.hid r4
      clear hA hdeps hK v0 v1 v2 v3 v4 v5 v6 v7 v8 v9 v10 v11 v12 v13 r0 r1 r2 r3 r4 r5 r6 r7 r8 r9 r10 r11 r12 r13 u0 u1 u2 u3 u4 u5 u6 u7 u8 u9 u10 u11 u12 u13
      go_simp
      refine (pnum_any rf W).mono ?_
      rintro e w5 ⟨rfl, hbn⟩
      exact hKK.out _ _ (hJ.pure hbn HR.out (fun x hx => by rw [HV.out] at hx; exact Option.some.inj hx))
    · injection ho with ho
      subst ho
      have e4 : AA.tmps[1]?.getD undef = .pointer (some ⟨w0.heap.size, 0, none⟩) := by rw [hA]; exact tmps_free (by kernel_rfl)
      have hK0 : KK (AA.put (some 27) _) _ := hK _ _ (hJ.pure (Below.refl _ _) r5 (fun x hx => by rw [v5] at hx; exact Option.some.inj hx))
      clear hA hdeps hK v0 v1 v2 v3 v4 v5 v6 v7 v8 v9 v10 v11 v12 v13 r0 r1 r2 r3 r4 r5 r6 r7 r8 r9 r10 r11 r12 r13 u0 u1 u2 u3 u4 u5 u6 u7 u8 u9 u10 u11 u12 u13
      go_simp
      exact hK0
    · injection ho with ho
      subst ho
      have hx5 := hJ.det.get v5 (hdeps ⟨5, .data⟩ (by simp) rfl)
      have e5 : AA.tmps[27]?.getD undef = .pointer (some ⟨w0.heap.size, 3, none⟩) := by rw [hA]; exact tmps_own (by kernel_rfl) hx5 (of_decide_eq_true (by kernel_rfl))
      obtain ⟨c0_, c1_, c2_, c3_, c4_, c5_, c6_, c7_, c8_, c9_, c10_, c11_⟩ := hS.out W hJ.bel
      have hK0 : KK (AA.put (some 28) _) _ := hK _ _ (hJ.pure (Below.refl _ _) r6 (fun x hx => by rw [v6] at hx; exact Option.some.inj hx))
      clear hA hdeps hK v0 v1 v2 v3 v4 v5 v6 v7 v8 v9 v10 v11 v12 v13 r0 r1 r2 r3 r4 r5 r6 r7 r8 r9 r10 r11 r12 r13 u0 u1 u2 u3 u4 u5 u6 u7 u8 u9 u10 u11 u12 u13
      go_simp
      exact hK0
    · injection ho with ho
      subst ho
      have hx6 := hJ.det.get v6 (hdeps ⟨6, .data⟩ (by simp) rfl)
      have e6 : AA.tmps[28]?.getD undef = .int .i64 rg := by rw [hA]; exact tmps_own (by kernel_rfl) hx6 (of_decide_eq_true (by kernel_rfl))
      have hKK := Lib.hid hK
      have HV := Lib.hid v7
      have HR := Lib.hid r7
      clear hA hdeps hK v0 v1 v2 v3 v4 v5 v6 v7 v8 v9 v10 v11 v12 v13 r0 r1 r2 r3 r4 r5 r6 r7 r8 r9 r10 r11 r12 r13 u0 u1 u2 u3 u4 u5 u6 u7 u8 u9 u10 u11 u12 u13
      go_simp
      refine (pnum_any rg W).mono ?_
      rintro e w5 ⟨rfl, hbn⟩
      exact hKK.out _ _ (hJ.pure hbn HR.out (fun x hx => by rw [HV.out] at hx; exact Option.some.inj hx))
    · injection ho with ho
      subst ho
      have hx1 := hJ.det.get v1 (hdeps ⟨1, .data⟩ (by simp) rfl)
      have e1 : AA.tmps[23]?.getD undef = .string ⟨rn.toArray⟩ := by rw [hA]; exact tmps_own (by kernel_rfl) hx1 (of_decide_eq_true (by kernel_rfl))
      have hx4 := hJ.det.get v4 (hdeps ⟨4, .data⟩ (by simp) rfl)
      have e4 : AA.tmps[26]?.getD undef = .string ⟨(n8 rf).toArray⟩ := by rw [hA]; exact tmps_own (by kernel_rfl) hx4 (of_decide_eq_true (by kernel_rfl))
      have hx7 := hJ.det.get v7 (hdeps ⟨7, .data⟩ (by simp) rfl)
      have e7 : AA.tmps[29]?.getD undef = .string ⟨(n8 rg).toArray⟩ := by rw [hA]; exact tmps_own (by kernel_rfl) hx7 (of_decide_eq_true (by kernel_rfl))
      have hK0 : KK (AA.put (some 30) _) _ := hK _ _ (hJ.new (W' := W.alloc (.cells #[.string ⟨rn.toArray⟩, .string ⟨(n8 rf).toArray⟩, .string ⟨(n8 rg).toArray⟩] 9)) ((Below.refl _ _).alloc (Nat.le_refl _) _) r8 v8 (own_lit W #[.string ⟨rn.toArray⟩, .string ⟨(n8 rf).toArray⟩, .string ⟨(n8 rg).toArray⟩] 9 3 rfl (by decide)))
      clear hA hdeps hK v0 v1 v2 v3 v4 v5 v6 v7 v8 v9 v10 v11 v12 v13 r0 r1 r2 r3 r4 r5 r6 r7 r8 r9 r10 r11 r12 r13 u0 u1 u2 u3 u4 u5 u6 u7 u8 u9 u10 u11 u12 u13
      go_simp
      exact hK0
    · injection ho with ho
      subst ho
      have e4 : AA.tmps[1]?.getD undef = .pointer (some ⟨w0.heap.size, 0, none⟩) := by rw [hA]; exact tmps_free (by kernel_rfl)
      have hK0 : KK (AA.put (some 31) _) _ := hK _ _ (hJ.pure (Below.refl _ _) r9 (fun x hx => by rw [v9] at hx; exact Option.some.inj hx))
      clear hA hdeps hK v0 v1 v2 v3 v4 v5 v6 v7 v8 v9 v10 v11 v12 v13 r0 r1 r2 r3 r4 r5 r6 r7 r8 r9 r10 r11 r12 r13 u0 u1 u2 u3 u4 u5 u6 u7 u8 u9 u10 u11 u12 u13
      go_simp
      exact hK0
    · injection ho with ho
      subst ho
      have hx9 := hJ.det.get v9 (hdeps ⟨9, .data⟩ (by simp) rfl)
      have e9 : AA.tmps[31]?.getD undef = .pointer (some ⟨w0.heap.size, 4, none⟩) := by rw [hA]; exact tmps_own (by kernel_rfl) hx9 (of_decide_eq_true (by kernel_rfl))
      obtain ⟨c0_, c1_, c2_, c3_, c4_, c5_, c6_, c7_, c8_, c9_, c10_, c11_⟩ := hS.out W hJ.bel
      have hK0 : KK (AA.put (some 32) _) _ := hK _ _ (hJ.pure (Below.refl _ _) r10 (fun x hx => by rw [v10] at hx; exact Option.some.inj hx))
      clear hA hdeps hK v0 v1 v2 v3 v4 v5 v6 v7 v8 v9 v10 v11 v12 v13 r0 r1 r2 r3 r4 r5 r6 r7 r8 r9 r10 r11 r12 r13 u0 u1 u2 u3 u4 u5 u6 u7 u8 u9 u10 u11 u12 u13
      go_simp
      exact hK0
    · injection ho with ho
      subst ho
      have hx10 := hJ.det.get v10 (hdeps ⟨10, .data⟩ (by simp) rfl)
      have e10 : AA.tmps[32]?.getD undef = .slice A1 n c1 := by rw [hA]; exact tmps_own (by kernel_rfl) hx10 (of_decide_eq_true (by kernel_rfl))
      have hKK := Lib.hid hK
      have HV := Lib.hid v11
      have HR := Lib.hid r11
      clear hA hdeps hK v0 v1 v2 v3 v4 v5 v6 v7 v8 v9 v10 v11 v12 v13 r0 r1 r2 r3 r4 r5 r6 r7 r8 r9 r10 r11 r12 r13 u0 u1 u2 u3 u4 u5 u6 u7 u8 u9 u10 u11 u12 u13
      go_simp
      refine (HTX.out W hJ.bel).mono ?_
      rintro e w5 ⟨v, rfl, hown, hbn⟩
      exact hKK.out _ _ (hJ.new hbn HR.out HV.out hown)
    · injection ho with ho
      subst ho
      obtain ⟨xp, hxp⟩ := Option.isSome_iff_exists.1 (hdeps ⟨8, .data⟩ (by simp) rfl)
      have ep : AA.tmps[30]?.getD undef = xp := by rw [hA]; exact tmps_own (by kernel_rfl) hxp (of_decide_eq_true (by kernel_rfl))
      obtain ⟨xq, hxq⟩ := Option.isSome_iff_exists.1 (hdeps ⟨11, .data⟩ (by simp) rfl)
      have eq : AA.tmps[33]?.getD undef = xq := by rw [hA]; exact tmps_own (by kernel_rfl) hxq (of_decide_eq_true (by kernel_rfl))
      have hop := hJ.own 8 xp _ hxp r8 (LiveK.of u8 hmi)
      have hoq := hJ.own 11 xq _ hxq r11 (fun u hu => by rw [u11] at hu; cases hu)
      obtain ⟨Aq, cq, rfl, _, _, hrq⟩ := own_form hoq
      have htk := fun (v : Value) (W' : World) => hJ.take (W' := W') (v := v) u8 r8 r12 hxp hmi v12
      have hKK := Lib.hid hK
      clear hA hdeps hK v0 v1 v2 v3 v4 v5 v6 v7 v8 v9 v10 v11 v12 v13 r0 r1 r2 r3 r4 r5 r6 r7 r8 r9 r10 r11 r12 r13 u0 u1 u2 u3 u4 u5 u6 u7 u8 u9 u10 u11 u12 u13
      refine step_append_any W rfl (.tmp 30) (.tmp 33) _ rfl w1.heap.size 9 i0 (.string ByteArray.empty) 1 16 Try.underlying23 hi0 hz0 hz1 hz2 rfl (by decide) xp (3) _ ?_ hop W.heap.size Aq ((2 * n)) cq _ ?_ hrq (by intro u hu; first | exact scells_one _ u hu | exact bts_one _ u hu) (by unfold maxLen; omega) (by omega) hJ.bel.size ?_
      · simpa [Act.eval] using ep
      · simpa [Act.eval] using eq
      · intro v' w' h1 h2 h3
        exact hKK.out _ _ (htk v' w' h2 h1 h3)
    · injection ho with ho
      subst ho
      obtain ⟨xp, hxp⟩ := Option.isSome_iff_exists.1 (hdeps ⟨12, .data⟩ (by simp) rfl)
      have ep : AA.tmps[34]?.getD undef = xp := by rw [hA]; exact tmps_own (by kernel_rfl) hxp (of_decide_eq_true (by kernel_rfl))
      have hop := hJ.own 12 xp _ hxp r12 (LiveK.of u12 hmi)
      have hK0 : KK (AA.put (some 5) _) _ := hK xp W (hJ.take u12 r12 r13 hxp hmi v13 (World.grownBy.refl _ _) hop (.inl rfl))
      clear hA hdeps hK v0 v1 v2 v3 v4 v5 v6 v7 v8 v9 v10 v11 v12 v13 r0 r1 r2 r3 r4 r5 r6 r7 r8 r9 r10 r11 r12 r13 u0 u1 u2 u3 u4 u5 u6 u7 u8 u9 u10 u11 u12 u13
      go_simp
      exact hK0
    · simp at ho
  · intro m W hJ hall
    have m0 := hJ.det.get v0 (hall 0 (by simp))
    have m1 := hJ.det.get v1 (hall 1 (by simp))
    have m2 := hJ.det.get v2 (hall 2 (by simp))
    have m3 := hJ.det.get v3 (hall 3 (by simp))
    have m4 := hJ.det.get v4 (hall 4 (by simp))
    have m5 := hJ.det.get v5 (hall 5 (by simp))
    have m6 := hJ.det.get v6 (hall 6 (by simp))
    have m7 := hJ.det.get v7 (hall 7 (by simp))
    obtain ⟨x8, m8⟩ := Option.isSome_iff_exists.1 (hall 8 (by simp))
    have m9 := hJ.det.get v9 (hall 9 (by simp))
    have m10 := hJ.det.get v10 (hall 10 (by simp))
    obtain ⟨x11, m11⟩ := Option.isSome_iff_exists.1 (hall 11 (by simp))
    obtain ⟨x12, m12⟩ := Option.isSome_iff_exists.1 (hall 12 (by simp))
    obtain ⟨x13, m13⟩ := Option.isSome_iff_exists.1 (hall 13 (by simp))
    have hown := hJ.own 13 x13 _ m13 r13 (fun u hu => by rw [u13] at hu; cases hu)
    have hbx := hJ.bel
    rw [frameM_all (by kernel_rfl) [.pointer (some ⟨w0.heap.size, 1, none⟩), .string ⟨rn.toArray⟩, .pointer (some ⟨w0.heap.size, 2, none⟩), .int .i64 rf, .string ⟨(n8 rf).toArray⟩, .pointer (some ⟨w0.heap.size, 3, none⟩), .int .i64 rg, .string ⟨(n8 rg).toArray⟩, x8, .pointer (some ⟨w0.heap.size, 4, none⟩), .slice A1 n c1, x11, x12, x13] rfl (fun i hi => by
        rcases i with _ | _ | _ | _ | _ | _ | _ | _ | _ | _ | _ | _ | _ | _ | i
        · exact m0
        · exact m1
        · exact m2
        · exact m3
        · exact m4
        · exact m5
        · exact m6
        · exact m7
        · exact m8
        · exact m9
        · exact m10
        · exact m11
        · exact m12
        · exact m13
        · simp at hi; omega)]
    clear hJ hall m0 m1 m2 m3 m4 m5 m6 m7 m8 m9 m10 m11 m12 m13 v0 v1 v2 v3 v4 v5 v6 v7 v8 v9 v10 v11 v12 v13 r0 r1 r2 r3 r4 r5 r6 r7 r8 r9 r10 r11 r12 r13 u0 u1 u2 u3 u4 u5 u6 u7 u8 u9 u10 u11 u12 u13
    simp only [putAll, Act.put, List.setIfInBounds_toArray, List.set_cons_succ, List.set_cons_zero]
    have hown := own_cast hown HTN.out rfl
    obtain ⟨Al, cl, rfl, _, _, hrl⟩ := own_form hown
    have hbel := hbel.trans (hbx.mono hB0)
    have hkx := hk.below hbx hk.lt
    have HWR := Lib.hid (pwrite_any TX (fun s hs => Nat.le_trans (HSM.out.2 s hs) (by omega)) tl HTL.out Al cl _ _ (by rw [HTXC.out]; exact hrl) (Nat.le_refl _) (by have := HSM.out.1; have := HTL.out; omega))
    clear hown hrl hbx hk hS
    go_wp2_with fail
    refine HWR.out.mono ?_
    clear HWR
    rintro e w3 ⟨v3, rfl, hown3, hb3⟩
    obtain ⟨F, hF⟩ : ∃ F, F = fwrite TX := ⟨_, rfl⟩
    rw [← hF] at hown3
    obtain ⟨q, hq⟩ : ∃ q, q = F.length := ⟨_, rfl⟩
    rw [← hq] at hown3
    obtain ⟨Aw, cw, rfl, hw1', hw2', hr3⟩ := own_form hown3
    have hk := hkx.below hb3 hkx.lt
    have hbel := hbel.trans (hb3.mono hbel.size)
    have hB3 : w0.heap.size ≤ w3.heap.size := hbel.size
    have HPW := Lib.hid (fun (W' : World) (hb : Below w3.heap.size w3 W') => (show Reads W' W'.heap.size 1 Aw q (bts F) from up_reads' hr3 hb (Nat.le_refl _)))
    have HENC : Hid (L = 1 :: (putL (q : Int) 2 ++ F)) := by show _ = _; rw [HLL.out, hF, hq, hF]
    have HEL : Hid (L.length = 3 + q) := by show _ = _; rw [HENC.out, List.length_cons, List.length_append, putL_length, ← hq]; omega
    have hqs : q ≤ 700 := by rw [hq, hF]; exact HFL.out
    have hS := Lib.hid (fun (W' : World) (hB : Below w3.heap.size w3 W') => (blk12 (hk.below hB hk.lt) :
      W'.cell? ⟨w0.heap.size, 0, none⟩ = some (.int .i64 1) ∧ W'.cell? ⟨w0.heap.size, 1, none⟩ = some (.string ⟨rn.toArray⟩) ∧ W'.cell? ⟨w0.heap.size, 2, none⟩ = some (.int .i64 rf) ∧ W'.cell? ⟨w0.heap.size, 3, none⟩ = some (.int .i64 rg) ∧ W'.cell? ⟨w0.heap.size, 4, none⟩ = some (.slice A1 n c1) ∧ W'.cell? ⟨w0.heap.size, 5, none⟩ = some (.int .i64 ri) ∧ W'.cell? ⟨w0.heap.size, 6, none⟩ = some (.int .i64 rc) ∧ W'.cell? ⟨w0.heap.size, 7, none⟩ = some (.string ⟨rd.toArray⟩) ∧ W'.cell? ⟨w0.heap.size, 8, none⟩ = some (.int .u64 ra) ∧ W'.cell? ⟨w0.heap.size, 9, none⟩ = some (.int .u64 rb) ∧ W'.cell? ⟨w0.heap.size, 10, none⟩ = some (.int .u64 rx) ∧ W'.cell? ⟨w0.heap.size, 11, none⟩ = some (.int .u64 ry)))
    clear hk hkx hown3 hb3 hr3 hw1' hw2' hF hq
    go_wp2_with fail
    obtain ⟨val, hval⟩ : ∃ val : Nat → Option Value, val = fun i => [some (.pointer (some ⟨w0.heap.size, 0, none⟩)), some (.int .i64 1), some (.int .u8 1), none, some (.slice Aw q cw), some (.int .i64 (q : Int)), none, none, some (.slice Aw q cw), none, none, some (.int .i64 0)][i]?.join := ⟨_, rfl⟩
    obtain ⟨row, hrow⟩ : ∃ row : Nat → Option (TypeId × Nat × List Value), row = fun i => [none, none, none, some (5, 1, bts [1]), none, none, some (5, 2, bts (putL (q : Int) 2)), some (5, 1 + 2, bts [1] ++ bts (putL (q : Int) 2)), none, some (5, 1 + 2 + q, bts [1] ++ bts (putL (q : Int) 2) ++ bts F), some (5, 1 + 2 + q, bts [1] ++ bts (putL (q : Int) 2) ++ bts F), none][i]?.join := ⟨_, rfl⟩
    obtain ⟨user, husr⟩ : ∃ user : Nat → Option Nat, user = fun i => [none, none, none, some 7, none, none, none, some 9, none, some 10, none, none][i]?.join := ⟨_, rfl⟩
    have v0 : val 0 = some (.pointer (some ⟨w0.heap.size, 0, none⟩)) := by rw [hval]; rfl
    have r0 : row 0 = none := by rw [hrow]; rfl
    have u0 : user 0 = none := by rw [husr]; rfl
    have v1 : val 1 = some (.int .i64 1) := by rw [hval]; rfl
    have r1 : row 1 = none := by rw [hrow]; rfl
    have u1 : user 1 = none := by rw [husr]; rfl
    have v2 : val 2 = some (.int .u8 1) := by rw [hval]; rfl
    have r2 : row 2 = none := by rw [hrow]; rfl
    have u2 : user 2 = none := by rw [husr]; rfl
    have v3 : val 3 = none := by rw [hval]; rfl
    have r3 : row 3 = some (5, 1, bts [1]) := by rw [hrow]; rfl
    have u3 : user 3 = some 7 := by rw [husr]; rfl
    have v4 : val 4 = some (.slice Aw q cw) := by rw [hval]; rfl
    have r4 : row 4 = none := by rw [hrow]; rfl
    have u4 : user 4 = none := by rw [husr]; rfl
    have v5 : val 5 = some (.int .i64 (q : Int)) := by rw [hval]; rfl
    have r5 : row 5 = none := by rw [hrow]; rfl
    have u5 : user 5 = none := by rw [husr]; rfl
    have v6 : val 6 = none := by rw [hval]; rfl
    have r6 : row 6 = some (5, 2, bts (putL (q : Int) 2)) := by rw [hrow]; rfl
    have u6 : user 6 = none := by rw [husr]; rfl
    have v7 : val 7 = none := by rw [hval]; rfl
    have r7 : row 7 = some (5, 1 + 2, bts [1] ++ bts (putL (q : Int) 2)) := by rw [hrow]; rfl
    have u7 : user 7 = some 9 := by rw [husr]; rfl
    have v8 : val 8 = some (.slice Aw q cw) := by rw [hval]; rfl
    have r8 : row 8 = none := by rw [hrow]; rfl
    have u8 : user 8 = none := by rw [husr]; rfl
    have v9 : val 9 = none := by rw [hval]; rfl
    have r9 : row 9 = some (5, 1 + 2 + q, bts [1] ++ bts (putL (q : Int) 2) ++ bts F) := by rw [hrow]; rfl
    have u9 : user 9 = some 10 := by rw [husr]; rfl
    have v10 : val 10 = none := by rw [hval]; rfl
    have r10 : row 10 = some (5, 1 + 2 + q, bts [1] ++ bts (putL (q : Int) 2) ++ bts F) := by rw [hrow]; rfl
    have u10 : user 10 = none := by rw [husr]; rfl
    have v11 : val 11 = some (.int .i64 0) := by rw [hval]; rfl
    have r11 : row 11 = none := by rw [hrow]; rfl
    have u11 : user 11 = none := by rw [husr]; rfl
    clear hval hrow husr
    refine wp_region_inv (by kernel_rfl) (by kernel_rfl) (RowsK w3 val row user) RowsK.start ?_ ?_
    · intro i o ho m W hJ hmi hdeps AA KK hA hK
      rcases i with _ | _ | _ | _ | _ | _ | _ | _ | _ | _ | _ | _ | i
      · injection ho with ho
        subst ho
        have e4 : AA.tmps[1]?.getD undef = .pointer (some ⟨w0.heap.size, 0, none⟩) := by rw [hA]; exact tmps_free (by kernel_rfl)
        have hK0 : KK (AA.put (some 57) _) _ := hK _ _ (hJ.pure (Below.refl _ _) r0 (fun x hx => by rw [v0] at hx; exact Option.some.inj hx))
        clear hA hdeps hK v0 v1 v2 v3 v4 v5 v6 v7 v8 v9 v10 v11 r0 r1 r2 r3 r4 r5 r6 r7 r8 r9 r10 r11 u0 u1 u2 u3 u4 u5 u6 u7 u8 u9 u10 u11
        go_simp
        exact hK0
      · injection ho with ho
        subst ho
        have hx0 := hJ.det.get v0 (hdeps ⟨0, .data⟩ (by simp) rfl)
        have e0 : AA.tmps[57]?.getD undef = .pointer (some ⟨w0.heap.size, 0, none⟩) := by rw [hA]; exact tmps_own (by kernel_rfl) hx0 (of_decide_eq_true (by kernel_rfl))
        obtain ⟨c0_, c1_, c2_, c3_, c4_, c5_, c6_, c7_, c8_, c9_, c10_, c11_⟩ := hS.out W hJ.bel
        have hK0 : KK (AA.put (some 58) _) _ := hK _ _ (hJ.pure (Below.refl _ _) r1 (fun x hx => by rw [v1] at hx; exact Option.some.inj hx))
        clear hA hdeps hK v0 v1 v2 v3 v4 v5 v6 v7 v8 v9 v10 v11 r0 r1 r2 r3 r4 r5 r6 r7 r8 r9 r10 r11 u0 u1 u2 u3 u4 u5 u6 u7 u8 u9 u10 u11
        go_simp
        exact hK0
      · injection ho with ho
        subst ho
        have hx1 := hJ.det.get v1 (hdeps ⟨1, .data⟩ (by simp) rfl)
        have e1 : AA.tmps[58]?.getD undef = .int .i64 1 := by rw [hA]; exact tmps_own (by kernel_rfl) hx1 (of_decide_eq_true (by kernel_rfl))
        have hK0 : KK (AA.put (some 59) _) _ := hK _ _ (hJ.pure (Below.refl _ _) r2 (fun x hx => by rw [v2] at hx; exact Option.some.inj hx))
        clear hA hdeps hK v0 v1 v2 v3 v4 v5 v6 v7 v8 v9 v10 v11 r0 r1 r2 r3 r4 r5 r6 r7 r8 r9 r10 r11 u0 u1 u2 u3 u4 u5 u6 u7 u8 u9 u10 u11
        go_simp
        exact hK0
      · injection ho with ho
        subst ho
        have hx2 := hJ.det.get v2 (hdeps ⟨2, .data⟩ (by simp) rfl)
        have e2 : AA.tmps[59]?.getD undef = .int .u8 1 := by rw [hA]; exact tmps_own (by kernel_rfl) hx2 (of_decide_eq_true (by kernel_rfl))
        have hK0 : KK (AA.put (some 60) _) _ := hK _ _ (hJ.new (W' := W.alloc (.cells #[.int .u8 1] 5)) ((Below.refl _ _).alloc (Nat.le_refl _) _) r3 v3 (own_lit W #[.int .u8 1] 5 1 rfl (by decide)))
        clear hA hdeps hK v0 v1 v2 v3 v4 v5 v6 v7 v8 v9 v10 v11 r0 r1 r2 r3 r4 r5 r6 r7 r8 r9 r10 r11 u0 u1 u2 u3 u4 u5 u6 u7 u8 u9 u10 u11
        go_simp
        exact hK0
      · injection ho with ho
        subst ho
        have e6 : AA.tmps[6]?.getD undef = .slice Aw q cw := by rw [hA]; exact tmps_free (by kernel_rfl)
        have hK0 : KK (AA.put (some 61) _) _ := hK _ _ (hJ.pure (Below.refl _ _) r4 (fun x hx => by rw [v4] at hx; exact Option.some.inj hx))
        clear hA hdeps hK v0 v1 v2 v3 v4 v5 v6 v7 v8 v9 v10 v11 r0 r1 r2 r3 r4 r5 r6 r7 r8 r9 r10 r11 u0 u1 u2 u3 u4 u5 u6 u7 u8 u9 u10 u11
        go_simp
        exact hK0
      · injection ho with ho
        subst ho
        have hx4 := hJ.det.get v4 (hdeps ⟨4, .data⟩ (by simp) rfl)
        have e4 : AA.tmps[61]?.getD undef = .slice Aw q cw := by rw [hA]; exact tmps_own (by kernel_rfl) hx4 (of_decide_eq_true (by kernel_rfl))
        have hK0 : KK (AA.put (some 62) _) _ := hK _ _ (hJ.pure (Below.refl _ _) r5 (fun x hx => by rw [v5] at hx; exact Option.some.inj hx))
        clear hA hdeps hK v0 v1 v2 v3 v4 v5 v6 v7 v8 v9 v10 v11 r0 r1 r2 r3 r4 r5 r6 r7 r8 r9 r10 r11 u0 u1 u2 u3 u4 u5 u6 u7 u8 u9 u10 u11
        go_simp
        exact hK0
      · injection ho with ho
        subst ho
        have hx5 := hJ.det.get v5 (hdeps ⟨5, .data⟩ (by simp) rfl)
        have e5 : AA.tmps[62]?.getD undef = .int .i64 (q : Int) := by rw [hA]; exact tmps_own (by kernel_rfl) hx5 (of_decide_eq_true (by kernel_rfl))
        have hKK := Lib.hid hK
        have HV := Lib.hid v6
        have HR := Lib.hid r6
        clear hA hdeps hK v0 v1 v2 v3 v4 v5 v6 v7 v8 v9 v10 v11 r0 r1 r2 r3 r4 r5 r6 r7 r8 r9 r10 r11 u0 u1 u2 u3 u4 u5 u6 u7 u8 u9 u10 u11
        go_simp
        refine (pput2_any (q : Int) W).mono ?_
        rintro e w5 ⟨v, rfl, hown, hbn⟩
        exact hKK.out _ _ (hJ.new hbn HR.out HV.out hown)
      · injection ho with ho
        subst ho
        obtain ⟨xp, hxp⟩ := Option.isSome_iff_exists.1 (hdeps ⟨3, .data⟩ (by simp) rfl)
        have ep : AA.tmps[60]?.getD undef = xp := by rw [hA]; exact tmps_own (by kernel_rfl) hxp (of_decide_eq_true (by kernel_rfl))
        obtain ⟨xq, hxq⟩ := Option.isSome_iff_exists.1 (hdeps ⟨6, .data⟩ (by simp) rfl)
        have eq : AA.tmps[63]?.getD undef = xq := by rw [hA]; exact tmps_own (by kernel_rfl) hxq (of_decide_eq_true (by kernel_rfl))
        have hop := hJ.own 3 xp _ hxp r3 (LiveK.of u3 hmi)
        have hoq := hJ.own 6 xq _ hxq r6 (fun u hu => by rw [u6] at hu; cases hu)
        obtain ⟨Aq, cq, rfl, _, _, hrq⟩ := own_form hoq
        have htk := fun (v : Value) (W' : World) => hJ.take (W' := W') (v := v) u3 r3 r7 hxp hmi v7
        have hKK := Lib.hid hK
        clear hA hdeps hK v0 v1 v2 v3 v4 v5 v6 v7 v8 v9 v10 v11 r0 r1 r2 r3 r4 r5 r6 r7 r8 r9 r10 r11 u0 u1 u2 u3 u4 u5 u6 u7 u8 u9 u10 u11
        refine step_append_any W rfl (.tmp 60) (.tmp 63) _ rfl w3.heap.size 5 i1 (.int .u8 0) 1 1 Try.underlying27 hj0 hw0 hw1 hw2 rfl (by decide) xp (1) _ ?_ hop W.heap.size Aq (2) cq _ ?_ hrq (by intro u hu; first | exact scells_one _ u hu | exact bts_one _ u hu) (by unfold maxLen; omega) (by omega) hJ.bel.size ?_
        · simpa [Act.eval] using ep
        · simpa [Act.eval] using eq
        · intro v' w' h1 h2 h3
          exact hKK.out _ _ (htk v' w' h2 h1 h3)
      · injection ho with ho
        subst ho
        have e6 : AA.tmps[6]?.getD undef = .slice Aw q cw := by rw [hA]; exact tmps_free (by kernel_rfl)
        have hK0 : KK (AA.put (some 65) _) _ := hK _ _ (hJ.pure (Below.refl _ _) r8 (fun x hx => by rw [v8] at hx; exact Option.some.inj hx))
        clear hA hdeps hK v0 v1 v2 v3 v4 v5 v6 v7 v8 v9 v10 v11 r0 r1 r2 r3 r4 r5 r6 r7 r8 r9 r10 r11 u0 u1 u2 u3 u4 u5 u6 u7 u8 u9 u10 u11
        go_simp
        exact hK0
      · injection ho with ho
        subst ho
        obtain ⟨xp, hxp⟩ := Option.isSome_iff_exists.1 (hdeps ⟨7, .data⟩ (by simp) rfl)
        have ep : AA.tmps[64]?.getD undef = xp := by rw [hA]; exact tmps_own (by kernel_rfl) hxp (of_decide_eq_true (by kernel_rfl))
        have hx8 := hJ.det.get v8 (hdeps ⟨8, .data⟩ (by simp) rfl)
        have e8 : AA.tmps[65]?.getD undef = .slice Aw q cw := by rw [hA]; exact tmps_own (by kernel_rfl) hx8 (of_decide_eq_true (by kernel_rfl))
        have hop := hJ.own 7 xp _ hxp r7 (LiveK.of u7 hmi)
        have hrq := HPW.out W hJ.bel
        have htk := fun (v : Value) (W' : World) => hJ.take (W' := W') (v := v) u7 r7 r9 hxp hmi v9
        have hKK := Lib.hid hK
        clear hA hdeps hK v0 v1 v2 v3 v4 v5 v6 v7 v8 v9 v10 v11 r0 r1 r2 r3 r4 r5 r6 r7 r8 r9 r10 r11 u0 u1 u2 u3 u4 u5 u6 u7 u8 u9 u10 u11
        refine step_append_any W rfl (.tmp 64) (.tmp 65) _ rfl w3.heap.size 5 i1 (.int .u8 0) 1 1 Try.underlying27 hj0 hw0 hw1 hw2 rfl (by decide) xp (1 + 2) _ ?_ hop W.heap.size Aw (q) cw _ ?_ hrq (by intro u hu; first | exact scells_one _ u hu | exact bts_one _ u hu) (by unfold maxLen; omega) (by omega) (Nat.le_trans (Nat.le_refl _) hJ.bel.size) ?_
        · simpa [Act.eval] using ep
        · simpa [Act.eval] using e8
        · intro v' w' h1 h2 h3
          exact hKK.out _ _ (htk v' w' h2 h1 h3)
      · injection ho with ho
        subst ho
        obtain ⟨xp, hxp⟩ := Option.isSome_iff_exists.1 (hdeps ⟨9, .data⟩ (by simp) rfl)
        have ep : AA.tmps[66]?.getD undef = xp := by rw [hA]; exact tmps_own (by kernel_rfl) hxp (of_decide_eq_true (by kernel_rfl))
        have hop := hJ.own 9 xp _ hxp r9 (LiveK.of u9 hmi)
        have hK0 : KK (AA.put (some 2) _) _ := hK xp W (hJ.take u9 r9 r10 hxp hmi v10 (World.grownBy.refl _ _) hop (.inl rfl))
        clear hA hdeps hK v0 v1 v2 v3 v4 v5 v6 v7 v8 v9 v10 v11 r0 r1 r2 r3 r4 r5 r6 r7 r8 r9 r10 r11 u0 u1 u2 u3 u4 u5 u6 u7 u8 u9 u10 u11
        go_simp
        exact hK0
      · injection ho with ho
        subst ho
        have hK0 : KK (AA.put (some 3) _) _ := hK _ _ (hJ.pure (Below.refl _ _) r11 (fun x hx => by rw [v11] at hx; exact Option.some.inj hx))
        clear hA hdeps hK v0 v1 v2 v3 v4 v5 v6 v7 v8 v9 v10 v11 r0 r1 r2 r3 r4 r5 r6 r7 r8 r9 r10 r11 u0 u1 u2 u3 u4 u5 u6 u7 u8 u9 u10 u11
        go_simp
        exact hK0
      · simp at ho
    · intro m W hJ hall
      have m0 := hJ.det.get v0 (hall 0 (by simp))
      have m1 := hJ.det.get v1 (hall 1 (by simp))
      have m2 := hJ.det.get v2 (hall 2 (by simp))
      obtain ⟨x3, m3⟩ := Option.isSome_iff_exists.1 (hall 3 (by simp))
      have m4 := hJ.det.get v4 (hall 4 (by simp))
      have m5 := hJ.det.get v5 (hall 5 (by simp))
      obtain ⟨x6, m6⟩ := Option.isSome_iff_exists.1 (hall 6 (by simp))
      obtain ⟨x7, m7⟩ := Option.isSome_iff_exists.1 (hall 7 (by simp))
      have m8 := hJ.det.get v8 (hall 8 (by simp))
      obtain ⟨x9, m9⟩ := Option.isSome_iff_exists.1 (hall 9 (by simp))
      obtain ⟨x10, m10⟩ := Option.isSome_iff_exists.1 (hall 10 (by simp))
      have m11 := hJ.det.get v11 (hall 11 (by simp))
      have hown := hJ.own 10 x10 _ m10 r10 (fun u hu => by rw [u10] at hu; cases hu)
      have hbx := hJ.bel
      rw [frameM_all (by kernel_rfl) [.pointer (some ⟨w0.heap.size, 0, none⟩), .int .i64 1, .int .u8 1, x3, .slice Aw q cw, .int .i64 (q : Int), x6, x7, .slice Aw q cw, x9, x10, .int .i64 0] rfl (fun i hi => by
          rcases i with _ | _ | _ | _ | _ | _ | _ | _ | _ | _ | _ | _ | i
          · exact m0
          · exact m1
          · exact m2
          · exact m3
          · exact m4
          · exact m5
          · exact m6
          · exact m7
          · exact m8
          · exact m9
          · exact m10
          · exact m11
          · simp at hi; omega)]
      clear hJ hall m0 m1 m2 m3 m4 m5 m6 m7 m8 m9 m10 m11 v0 v1 v2 v3 v4 v5 v6 v7 v8 v9 v10 v11 r0 r1 r2 r3 r4 r5 r6 r7 r8 r9 r10 r11 u0 u1 u2 u3 u4 u5 u6 u7 u8 u9 u10 u11
      simp only [putAll, Act.put, List.setIfInBounds_toArray, List.set_cons_succ, List.set_cons_zero]
      repeat go_step
      go_ret2
      exact ⟨_, rfl, own_cast (own_mono hown hB3) (show 1 + 2 + q = L.length by have := HEL.out; omega) (show bts [1] ++ bts (putL (q : Int) 2) ++ bts F = bts L by rw [HENC.out]; simp [bts]), hbel.trans (hbx.mono hB3)⟩
set_option maxRecDepth 100000 in
set_option maxHeartbeats 4000000 in
theorem penc2_any (rn : BS) (rf rg : Int) (ro : PL) (ri rc : Int) (rd : BS) (ra rb rx ry : Int) (n : Nat) (hn : n = ro.length) (A1 : Option Addr) (c1 : Nat) (w0 : World) (B1 : Nat) (hB1 : B1 ≤ w0.heap.size) (hr1 : Reads w0 B1 2 A1 n (pcells ro)) (hv : strOk ro) (hnl : rn.length ≤ 140737488351232) (hsm : (⟨ra, rb, rx, ry⟩ : Sm).ok) (hE : recE ⟨2, rn, rf, rg, ro, ri, rc, rd, ⟨ra, rb, rx, ry⟩⟩ = 0) :
    Calls Try.prog 13 #[.agg #[.int .i64 2, .string ⟨rn.toArray⟩, .int .i64 rf, .int .i64 rg, .slice A1 n c1, .int .i64 ri, .int .i64 rc, .string ⟨rd.toArray⟩, .int .u64 ra, .int .u64 rb, .int .u64 rx, .int .u64 ry]] w0 fun e w' => ∃ v, e = .returned (.tuple #[v, .int .i64 0]) ∧ w'.ownsRow w0.heap.size 5 1 v (encL ⟨2, rn, rf, rg, ro, ri, rc, rd, ⟨ra, rb, rx, ry⟩⟩).length (bts (encL ⟨2, rn, rf, rg, ro, ri, rc, rd, ⟨ra, rb, rx, ry⟩⟩)) ∧ Below w0.heap.size w0 w' := by
  obtain ⟨i0, hi0, hz0, hz1, hz2⟩ := info_parts Try.infoS
  obtain ⟨i1, hj0, hw0, hw1, hw2⟩ := info_parts Try.infoU8c
  obtain ⟨hkk, hmay⟩ := recE_kind _ hE
  have h8 : ro.length ≤ 8 := own_small _ hkk hmay
  have hn8 : n ≤ 8 := by omega
  have HSM := Lib.hid (rtexts_small _ hE)
  have HFL := Lib.hid (fwrite_len _ hE)
  have hc := fun W (hb : Below w0.heap.size w0 W) => pcheck_any 2 rn rf rg ro ri rc rd ra rb rx ry n hn A1 c1 W B1 (Nat.le_trans hB1 hb.size) (hr1.below (hb.mono hB1)) (by omega) hv hnl
  rw [hE] at hc
  have hTX := fun W (hb : Below w0.heap.size w0 W) => refText_any ro n hn A1 c1 W B1 (hr1.below (hb.mono hB1)) (Nat.le_trans hB1 hb.size) (by omega)
  obtain ⟨L, hL⟩ : ∃ L, L = encL ⟨2, rn, rf, rg, ro, ri, rc, rd, ⟨ra, rb, rx, ry⟩⟩ := ⟨_, rfl⟩
  have HLL : Hid (L = 2 :: (putL ((fwrite (rtexts ⟨2, rn, rf, rg, ro, ri, rc, rd, ⟨ra, rb, rx, ry⟩⟩)).length : Int) 2 ++ fwrite (rtexts ⟨2, rn, rf, rg, ro, ri, rc, rd, ⟨ra, rb, rx, ry⟩⟩))) := hL
  rw [← hL]
  obtain ⟨TX, hTX2⟩ : ∃ TX, TX = rtexts ⟨2, rn, rf, rg, ro, ri, rc, rd, ⟨ra, rb, rx, ry⟩⟩ := ⟨_, rfl⟩
  rw [← hTX2] at HSM HFL HLL
  obtain ⟨tl, htl⟩ : ∃ t, t = TX.length := ⟨_, rfl⟩
  have HTL := Lib.hid htl
  have HTXE := Lib.hid hTX2
  have HN := Lib.hid hn
  have hk := Blk.new w0 47 #[.int .i64 2, .string ⟨rn.toArray⟩, .int .i64 rf, .int .i64 rg, .slice A1 n c1, .int .i64 ri, .int .i64 rc, .string ⟨rd.toArray⟩, .int .u64 ra, .int .u64 rb, .int .u64 rx, .int .u64 ry]
  have hbel := (Below.refl w0.heap.size w0).alloc (Nat.le_refl _) (.cells #[.int .i64 2, .string ⟨rn.toArray⟩, .int .i64 rf, .int .i64 rg, .slice A1 n c1, .int .i64 ri, .int .i64 rc, .string ⟨rd.toArray⟩, .int .u64 ra, .int .u64 rb, .int .u64 rx, .int .u64 ry] 47)
  have HC := Lib.hid (hc _ hbel)
  have HTXT := Lib.hid hTX
  have HSMO := Lib.hid hsm
  clear hc hTX hL hTX2 htl hn hr1 hv hE hkk hmay h8 hsm
  go_enter Try.func13, Try.ntmps13
  go_wp2_with fail
  refine HC.out.mono ?_
  rintro e w1 ⟨rfl, hb1⟩
  have hk := hk.below hb1 hk.lt
  have hbel := hbel.trans (hb1.mono hbel.size)
  have hB0 : w0.heap.size ≤ w1.heap.size := hbel.size
  clear hb1 HC
  obtain ⟨c0_, c1_, c2_, c3_, c4_, c5_, c6_, c7_, c8_, c9_, c10_, c11_⟩ := blk12 hk
  have HTX := Lib.hid (fun W (hb : Below w1.heap.size w1 W) => HTXT.out W (hbel.trans (hb.mono hB0)))
  have hS := Lib.hid (fun (W' : World) (hB : Below w1.heap.size w1 W') => (blk12 (hk.below hB hk.lt) :
    W'.cell? ⟨w0.heap.size, 0, none⟩ = some (.int .i64 2) ∧ W'.cell? ⟨w0.heap.size, 1, none⟩ = some (.string ⟨rn.toArray⟩) ∧ W'.cell? ⟨w0.heap.size, 2, none⟩ = some (.int .i64 rf) ∧ W'.cell? ⟨w0.heap.size, 3, none⟩ = some (.int .i64 rg) ∧ W'.cell? ⟨w0.heap.size, 4, none⟩ = some (.slice A1 n c1) ∧ W'.cell? ⟨w0.heap.size, 5, none⟩ = some (.int .i64 ri) ∧ W'.cell? ⟨w0.heap.size, 6, none⟩ = some (.int .i64 rc) ∧ W'.cell? ⟨w0.heap.size, 7, none⟩ = some (.string ⟨rd.toArray⟩) ∧ W'.cell? ⟨w0.heap.size, 8, none⟩ = some (.int .u64 ra) ∧ W'.cell? ⟨w0.heap.size, 9, none⟩ = some (.int .u64 rb) ∧ W'.cell? ⟨w0.heap.size, 10, none⟩ = some (.int .u64 rx) ∧ W'.cell? ⟨w0.heap.size, 11, none⟩ = some (.int .u64 ry)))
  have HTXC : Hid (scells TX = scells [n8 ri, rd]) := by show _ = _; rw [HTXE.out]; simp [rtexts]
  have HTN : Hid (2 = tl) := by show _ = _; rw [HTL.out, HTXE.out]; simp [rtexts]
  go_wp2_with fail
  obtain ⟨val, hval⟩ : ∃ val : Nat → Option Value, val = fun i => [some (.pointer (some ⟨w0.heap.size, 5, none⟩)), some (.int .i64 ri), some (.string ⟨(n8 ri).toArray⟩), some (.pointer (some ⟨w0.heap.size, 7, none⟩)), some (.string ⟨rd.toArray⟩), none, none][i]?.join := ⟨_, rfl⟩
  obtain ⟨row, hrow⟩ : ∃ row : Nat → Option (TypeId × Nat × List Value), row = fun i => [none, none, none, none, none, some (9, 2, scells [n8 ri, rd]), some (9, 2, scells [n8 ri, rd])][i]?.join := ⟨_, rfl⟩
  obtain ⟨user, husr⟩ : ∃ user : Nat → Option Nat, user = fun i => [none, none, none, none, none, some 6, none][i]?.join := ⟨_, rfl⟩
  have v0 : val 0 = some (.pointer (some ⟨w0.heap.size, 5, none⟩)) := by rw [hval]; rfl
  have r0 : row 0 = none := by rw [hrow]; rfl
  have u0 : user 0 = none := by rw [husr]; rfl
  have v1 : val 1 = some (.int .i64 ri) := by rw [hval]; rfl
  have r1 : row 1 = none := by rw [hrow]; rfl
  have u1 : user 1 = none := by rw [husr]; rfl
  have v2 : val 2 = some (.string ⟨(n8 ri).toArray⟩) := by rw [hval]; rfl
  have r2 : row 2 = none := by rw [hrow]; rfl
  have u2 : user 2 = none := by rw [husr]; rfl
  have v3 : val 3 = some (.pointer (some ⟨w0.heap.size, 7, none⟩)) := by rw [hval]; rfl
  have r3 : row 3 = none := by rw [hrow]; rfl
  have u3 : user 3 = none := by rw [husr]; rfl
  have v4 : val 4 = some (.string ⟨rd.toArray⟩) := by rw [hval]; rfl
  have r4 : row 4 = none := by rw [hrow]; rfl
  have u4 : user 4 = none := by rw [husr]; rfl
  have v5 : val 5 = none := by rw [hval]; rfl
  have r5 : row 5 = some (9, 2, scells [n8 ri, rd]) := by rw [hrow]; rfl
  have u5 : user 5 = some 6 := by rw [husr]; rfl
  have v6 : val 6 = none := by rw [hval]; rfl
  have r6 : row 6 = some (9, 2, scells [n8 ri, rd]) := by rw [hrow]; rfl
  have u6 : user 6 = none := by rw [husr]; rfl
  clear hval hrow husr
  refine wp_region_inv (by kernel_rfl) (by kernel_rfl) (RowsK w1 val row user) RowsK.start ?_ ?_
  · intro i o ho m W hJ hmi hdeps AA KK hA hK
    rcases i with _ | _ | _ | _ | _ | _ | _ | i
    · injection ho with ho
      subst ho
      have e4 : AA.tmps[1]?.getD undef = .pointer (some ⟨w0.heap.size, 0, none⟩) := by rw [hA]; exact tmps_free (by kernel_rfl)
      have hK0 : KK (AA.put (some 37) _) _ := hK _ _ (hJ.pure (Below.refl _ _) r0 (fun x hx => by rw [v0] at hx; exact Option.some.inj hx))
      clear hA hdeps hK v0 v1 v2 v3 v4 v5 v6 r0 r1 r2 r3 r4 r5 r6 u0 u1 u2 u3 u4 u5 u6
      go_simp
      exact hK0
    · injection ho with ho
      subst ho
      have hx0 := hJ.det.get v0 (hdeps ⟨0, .data⟩ (by simp) rfl)
      have e0 : AA.tmps[37]?.getD undef = .pointer (some ⟨w0.heap.size, 5, none⟩) := by rw [hA]; exact tmps_own (by kernel_rfl) hx0 (of_decide_eq_true (by kernel_rfl))
      obtain ⟨c0_, c1_, c2_, c3_, c4_, c5_, c6_, c7_, c8_, c9_, c10_, c11_⟩ := hS.out W hJ.bel
      have hK0 : KK (AA.put (some 38) _) _ := hK _ _ (hJ.pure (Below.refl _ _) r1 (fun x hx => by rw [v1] at hx; exact Option.some.inj hx))
      clear hA hdeps hK v0 v1 v2 v3 v4 v5 v6 r0 r1 r2 r3 r4 r5 r6 u0 u1 u2 u3 u4 u5 u6
      go_simp
      exact hK0
    · injection ho with ho
      subst ho
      have hx1 := hJ.det.get v1 (hdeps ⟨1, .data⟩ (by simp) rfl)
      have e1 : AA.tmps[38]?.getD undef = .int .i64 ri := by rw [hA]; exact tmps_own (by kernel_rfl) hx1 (of_decide_eq_true (by kernel_rfl))
      have hKK := Lib.hid hK
      have HV := Lib.hid v2
      have HR := Lib.hid r2
      clear hA hdeps hK v0 v1 v2 v3 v4 v5 v6 r0 r1 r2 r3 r4 r5 r6 u0 u1 u2 u3 u4 u5 u6
      go_simp
      refine (pnum_any ri W).mono ?_
      rintro e w5 ⟨rfl, hbn⟩
      exact hKK.out _ _ (hJ.pure hbn HR.out (fun x hx => by rw [HV.out] at hx; exact Option.some.inj hx))
    · injection ho with ho
      subst ho
      have e4 : AA.tmps[1]?.getD undef = .pointer (some ⟨w0.heap.size, 0, none⟩) := by rw [hA]; exact tmps_free (by kernel_rfl)
      have hK0 : KK (AA.put (some 40) _) _ := hK _ _ (hJ.pure (Below.refl _ _) r3 (fun x hx => by rw [v3] at hx; exact Option.some.inj hx))
      clear hA hdeps hK v0 v1 v2 v3 v4 v5 v6 r0 r1 r2 r3 r4 r5 r6 u0 u1 u2 u3 u4 u5 u6
      go_simp
      exact hK0
    · injection ho with ho
      subst ho
      have hx3 := hJ.det.get v3 (hdeps ⟨3, .data⟩ (by simp) rfl)
      have e3 : AA.tmps[40]?.getD undef = .pointer (some ⟨w0.heap.size, 7, none⟩) := by rw [hA]; exact tmps_own (by kernel_rfl) hx3 (of_decide_eq_true (by kernel_rfl))
      obtain ⟨c0_, c1_, c2_, c3_, c4_, c5_, c6_, c7_, c8_, c9_, c10_, c11_⟩ := hS.out W hJ.bel
      have hK0 : KK (AA.put (some 41) _) _ := hK _ _ (hJ.pure (Below.refl _ _) r4 (fun x hx => by rw [v4] at hx; exact Option.some.inj hx))
      clear hA hdeps hK v0 v1 v2 v3 v4 v5 v6 r0 r1 r2 r3 r4 r5 r6 u0 u1 u2 u3 u4 u5 u6
      go_simp
      exact hK0
    · injection ho with ho
      subst ho
      have hx2 := hJ.det.get v2 (hdeps ⟨2, .data⟩ (by simp) rfl)
      have e2 : AA.tmps[39]?.getD undef = .string ⟨(n8 ri).toArray⟩ := by rw [hA]; exact tmps_own (by kernel_rfl) hx2 (of_decide_eq_true (by kernel_rfl))
      have hx4 := hJ.det.get v4 (hdeps ⟨4, .data⟩ (by simp) rfl)
      have e4 : AA.tmps[41]?.getD undef = .string ⟨rd.toArray⟩ := by rw [hA]; exact tmps_own (by kernel_rfl) hx4 (of_decide_eq_true (by kernel_rfl))
      have hK0 : KK (AA.put (some 42) _) _ := hK _ _ (hJ.new (W' := W.alloc (.cells #[.string ⟨(n8 ri).toArray⟩, .string ⟨rd.toArray⟩] 9)) ((Below.refl _ _).alloc (Nat.le_refl _) _) r5 v5 (own_lit W #[.string ⟨(n8 ri).toArray⟩, .string ⟨rd.toArray⟩] 9 2 rfl (by decide)))
      clear hA hdeps hK v0 v1 v2 v3 v4 v5 v6 r0 r1 r2 r3 r4 r5 r6 u0 u1 u2 u3 u4 u5 u6
      go_simp
      exact hK0
    · injection ho with ho
      subst ho
      obtain ⟨xp, hxp⟩ := Option.isSome_iff_exists.1 (hdeps ⟨5, .data⟩ (by simp) rfl)
      have ep : AA.tmps[42]?.getD undef = xp := by rw [hA]; exact tmps_own (by kernel_rfl) hxp (of_decide_eq_true (by kernel_rfl))
      have hop := hJ.own 5 xp _ hxp r5 (LiveK.of u5 hmi)
      have hK0 : KK (AA.put (some 5) _) _ := hK xp W (hJ.take u5 r5 r6 hxp hmi v6 (World.grownBy.refl _ _) hop (.inl rfl))
      clear hA hdeps hK v0 v1 v2 v3 v4 v5 v6 r0 r1 r2 r3 r4 r5 r6 u0 u1 u2 u3 u4 u5 u6
      go_simp
      exact hK0
    · simp at ho
  · intro m W hJ hall
    have m0 := hJ.det.get v0 (hall 0 (by simp))
    have m1 := hJ.det.get v1 (hall 1 (by simp))
    have m2 := hJ.det.get v2 (hall 2 (by simp))
    have m3 := hJ.det.get v3 (hall 3 (by simp))
    have m4 := hJ.det.get v4 (hall 4 (by simp))
    obtain ⟨x5, m5⟩ := Option.isSome_iff_exists.1 (hall 5 (by simp))
    obtain ⟨x6, m6⟩ := Option.isSome_iff_exists.1 (hall 6 (by simp))
    have hown := hJ.own 6 x6 _ m6 r6 (fun u hu => by rw [u6] at hu; cases hu)
    have hbx := hJ.bel
    rw [frameM_all (by kernel_rfl) [.pointer (some ⟨w0.heap.size, 5, none⟩), .int .i64 ri, .string ⟨(n8 ri).toArray⟩, .pointer (some ⟨w0.heap.size, 7, none⟩), .string ⟨rd.toArray⟩, x5, x6] rfl (fun i hi => by
        rcases i with _ | _ | _ | _ | _ | _ | _ | i
        · exact m0
        · exact m1
        · exact m2
        · exact m3
        · exact m4
        · exact m5
        · exact m6
        · simp at hi; omega)]
    clear hJ hall m0 m1 m2 m3 m4 m5 m6 v0 v1 v2 v3 v4 v5 v6 r0 r1 r2 r3 r4 r5 r6 u0 u1 u2 u3 u4 u5 u6
    simp only [putAll, Act.put, List.setIfInBounds_toArray, List.set_cons_succ, List.set_cons_zero]
    have hown := own_cast hown HTN.out rfl
    obtain ⟨Al, cl, rfl, _, _, hrl⟩ := own_form hown
    have hbel := hbel.trans (hbx.mono hB0)
    have hkx := hk.below hbx hk.lt
    have HWR := Lib.hid (pwrite_any TX (fun s hs => Nat.le_trans (HSM.out.2 s hs) (by omega)) tl HTL.out Al cl _ _ (by rw [HTXC.out]; exact hrl) (Nat.le_refl _) (by have := HSM.out.1; have := HTL.out; omega))
    clear hown hrl hbx hk hS
    go_wp2_with fail
    refine HWR.out.mono ?_
    clear HWR
    rintro e w3 ⟨v3, rfl, hown3, hb3⟩
    obtain ⟨F, hF⟩ : ∃ F, F = fwrite TX := ⟨_, rfl⟩
    rw [← hF] at hown3
    obtain ⟨q, hq⟩ : ∃ q, q = F.length := ⟨_, rfl⟩
    rw [← hq] at hown3
    obtain ⟨Aw, cw, rfl, hw1', hw2', hr3⟩ := own_form hown3
    have hk := hkx.below hb3 hkx.lt
    have hbel := hbel.trans (hb3.mono hbel.size)
    have hB3 : w0.heap.size ≤ w3.heap.size := hbel.size
    have HPW := Lib.hid (fun (W' : World) (hb : Below w3.heap.size w3 W') => (show Reads W' W'.heap.size 1 Aw q (bts F) from up_reads' hr3 hb (Nat.le_refl _)))
    have HENC : Hid (L = 2 :: (putL (q : Int) 2 ++ F)) := by show _ = _; rw [HLL.out, hF, hq, hF]
    have HEL : Hid (L.length = 3 + q) := by show _ = _; rw [HENC.out, List.length_cons, List.length_append, putL_length, ← hq]; omega
    have hqs : q ≤ 700 := by rw [hq, hF]; exact HFL.out
    have hS := Lib.hid (fun (W' : World) (hB : Below w3.heap.size w3 W') => (blk12 (hk.below hB hk.lt) :
      W'.cell? ⟨w0.heap.size, 0, none⟩ = some (.int .i64 2) ∧ W'.cell? ⟨w0.heap.size, 1, none⟩ = some (.string ⟨rn.toArray⟩) ∧ W'.cell? ⟨w0.heap.size, 2, none⟩ = some (.int .i64 rf) ∧ W'.cell? ⟨w0.heap.size, 3, none⟩ = some (.int .i64 rg) ∧ W'.cell? ⟨w0.heap.size, 4, none⟩ = some (.slice A1 n c1) ∧ W'.cell? ⟨w0.heap.size, 5, none⟩ = some (.int .i64 ri) ∧ W'.cell? ⟨w0.heap.size, 6, none⟩ = some (.int .i64 rc) ∧ W'.cell? ⟨w0.heap.size, 7, none⟩ = some (.string ⟨rd.toArray⟩) ∧ W'.cell? ⟨w0.heap.size, 8, none⟩ = some (.int .u64 ra) ∧ W'.cell? ⟨w0.heap.size, 9, none⟩ = some (.int .u64 rb) ∧ W'.cell? ⟨w0.heap.size, 10, none⟩ = some (.int .u64 rx) ∧ W'.cell? ⟨w0.heap.size, 11, none⟩ = some (.int .u64 ry)))
    clear hk hkx hown3 hb3 hr3 hw1' hw2' hF hq
    go_wp2_with fail
    obtain ⟨val, hval⟩ : ∃ val : Nat → Option Value, val = fun i => [some (.pointer (some ⟨w0.heap.size, 0, none⟩)), some (.int .i64 2), some (.int .u8 2), none, some (.slice Aw q cw), some (.int .i64 (q : Int)), none, none, some (.slice Aw q cw), none, none, some (.int .i64 0)][i]?.join := ⟨_, rfl⟩
    obtain ⟨row, hrow⟩ : ∃ row : Nat → Option (TypeId × Nat × List Value), row = fun i => [none, none, none, some (5, 1, bts [2]), none, none, some (5, 2, bts (putL (q : Int) 2)), some (5, 1 + 2, bts [2] ++ bts (putL (q : Int) 2)), none, some (5, 1 + 2 + q, bts [2] ++ bts (putL (q : Int) 2) ++ bts F), some (5, 1 + 2 + q, bts [2] ++ bts (putL (q : Int) 2) ++ bts F), none][i]?.join := ⟨_, rfl⟩
    obtain ⟨user, husr⟩ : ∃ user : Nat → Option Nat, user = fun i => [none, none, none, some 7, none, none, none, some 9, none, some 10, none, none][i]?.join := ⟨_, rfl⟩
    have v0 : val 0 = some (.pointer (some ⟨w0.heap.size, 0, none⟩)) := by rw [hval]; rfl
    have r0 : row 0 = none := by rw [hrow]; rfl
    have u0 : user 0 = none := by rw [husr]; rfl
    have v1 : val 1 = some (.int .i64 2) := by rw [hval]; rfl
    have r1 : row 1 = none := by rw [hrow]; rfl
    have u1 : user 1 = none := by rw [husr]; rfl
    have v2 : val 2 = some (.int .u8 2) := by rw [hval]; rfl
    have r2 : row 2 = none := by rw [hrow]; rfl
    have u2 : user 2 = none := by rw [husr]; rfl
    have v3 : val 3 = none := by rw [hval]; rfl
    have r3 : row 3 = some (5, 1, bts [2]) := by rw [hrow]; rfl
    have u3 : user 3 = some 7 := by rw [husr]; rfl
    have v4 : val 4 = some (.slice Aw q cw) := by rw [hval]; rfl
    have r4 : row 4 = none := by rw [hrow]; rfl
    have u4 : user 4 = none := by rw [husr]; rfl
    have v5 : val 5 = some (.int .i64 (q : Int)) := by rw [hval]; rfl
    have r5 : row 5 = none := by rw [hrow]; rfl
    have u5 : user 5 = none := by rw [husr]; rfl
    have v6 : val 6 = none := by rw [hval]; rfl
    have r6 : row 6 = some (5, 2, bts (putL (q : Int) 2)) := by rw [hrow]; rfl
    have u6 : user 6 = none := by rw [husr]; rfl
    have v7 : val 7 = none := by rw [hval]; rfl
    have r7 : row 7 = some (5, 1 + 2, bts [2] ++ bts (putL (q : Int) 2)) := by rw [hrow]; rfl
    have u7 : user 7 = some 9 := by rw [husr]; rfl
    have v8 : val 8 = some (.slice Aw q cw) := by rw [hval]; rfl
    have r8 : row 8 = none := by rw [hrow]; rfl
    have u8 : user 8 = none := by rw [husr]; rfl
    have v9 : val 9 = none := by rw [hval]; rfl
    have r9 : row 9 = some (5, 1 + 2 + q, bts [2] ++ bts (putL (q : Int) 2) ++ bts F) := by rw [hrow]; rfl
    have u9 : user 9 = some 10 := by rw [husr]; rfl
    have v10 : val 10 = none := by rw [hval]; rfl
    have r10 : row 10 = some (5, 1 + 2 + q, bts [2] ++ bts (putL (q : Int) 2) ++ bts F) := by rw [hrow]; rfl
    have u10 : user 10 = none := by rw [husr]; rfl
    have v11 : val 11 = some (.int .i64 0) := by rw [hval]; rfl
    have r11 : row 11 = none := by rw [hrow]; rfl
    have u11 : user 11 = none := by rw [husr]; rfl
    clear hval hrow husr
    refine wp_region_inv (by kernel_rfl) (by kernel_rfl) (RowsK w3 val row user) RowsK.start ?_ ?_
    · intro i o ho m W hJ hmi hdeps AA KK hA hK
      rcases i with _ | _ | _ | _ | _ | _ | _ | _ | _ | _ | _ | _ | i
      · injection ho with ho
        subst ho
        have e4 : AA.tmps[1]?.getD undef = .pointer (some ⟨w0.heap.size, 0, none⟩) := by rw [hA]; exact tmps_free (by kernel_rfl)
        have hK0 : KK (AA.put (some 57) _) _ := hK _ _ (hJ.pure (Below.refl _ _) r0 (fun x hx => by rw [v0] at hx; exact Option.some.inj hx))
        clear hA hdeps hK v0 v1 v2 v3 v4 v5 v6 v7 v8 v9 v10 v11 r0 r1 r2 r3 r4 r5 r6 r7 r8 r9 r10 r11 u0 u1 u2 u3 u4 u5 u6 u7 u8 u9 u10 u11
        go_simp
        exact hK0
      · injection ho with ho
        subst ho
        have hx0 := hJ.det.get v0 (hdeps ⟨0, .data⟩ (by simp) rfl)
        have e0 : AA.tmps[57]?.getD undef = .pointer (some ⟨w0.heap.size, 0, none⟩) := by rw [hA]; exact tmps_own (by kernel_rfl) hx0 (of_decide_eq_true (by kernel_rfl))
        obtain ⟨c0_, c1_, c2_, c3_, c4_, c5_, c6_, c7_, c8_, c9_, c10_, c11_⟩ := hS.out W hJ.bel
        have hK0 : KK (AA.put (some 58) _) _ := hK _ _ (hJ.pure (Below.refl _ _) r1 (fun x hx => by rw [v1] at hx; exact Option.some.inj hx))
        clear hA hdeps hK v0 v1 v2 v3 v4 v5 v6 v7 v8 v9 v10 v11 r0 r1 r2 r3 r4 r5 r6 r7 r8 r9 r10 r11 u0 u1 u2 u3 u4 u5 u6 u7 u8 u9 u10 u11
        go_simp
        exact hK0
      · injection ho with ho
        subst ho
        have hx1 := hJ.det.get v1 (hdeps ⟨1, .data⟩ (by simp) rfl)
        have e1 : AA.tmps[58]?.getD undef = .int .i64 2 := by rw [hA]; exact tmps_own (by kernel_rfl) hx1 (of_decide_eq_true (by kernel_rfl))
        have hK0 : KK (AA.put (some 59) _) _ := hK _ _ (hJ.pure (Below.refl _ _) r2 (fun x hx => by rw [v2] at hx; exact Option.some.inj hx))
        clear hA hdeps hK v0 v1 v2 v3 v4 v5 v6 v7 v8 v9 v10 v11 r0 r1 r2 r3 r4 r5 r6 r7 r8 r9 r10 r11 u0 u1 u2 u3 u4 u5 u6 u7 u8 u9 u10 u11
        go_simp
        exact hK0
      · injection ho with ho
        subst ho
        have hx2 := hJ.det.get v2 (hdeps ⟨2, .data⟩ (by simp) rfl)
        have e2 : AA.tmps[59]?.getD undef = .int .u8 2 := by rw [hA]; exact tmps_own (by kernel_rfl) hx2 (of_decide_eq_true (by kernel_rfl))
        have hK0 : KK (AA.put (some 60) _) _ := hK _ _ (hJ.new (W' := W.alloc (.cells #[.int .u8 2] 5)) ((Below.refl _ _).alloc (Nat.le_refl _) _) r3 v3 (own_lit W #[.int .u8 2] 5 1 rfl (by decide)))
        clear hA hdeps hK v0 v1 v2 v3 v4 v5 v6 v7 v8 v9 v10 v11 r0 r1 r2 r3 r4 r5 r6 r7 r8 r9 r10 r11 u0 u1 u2 u3 u4 u5 u6 u7 u8 u9 u10 u11
        go_simp
        exact hK0
      · injection ho with ho
        subst ho
        have e6 : AA.tmps[6]?.getD undef = .slice Aw q cw := by rw [hA]; exact tmps_free (by kernel_rfl)
        have hK0 : KK (AA.put (some 61) _) _ := hK _ _ (hJ.pure (Below.refl _ _) r4 (fun x hx => by rw [v4] at hx; exact Option.some.inj hx))
        clear hA hdeps hK v0 v1 v2 v3 v4 v5 v6 v7 v8 v9 v10 v11 r0 r1 r2 r3 r4 r5 r6 r7 r8 r9 r10 r11 u0 u1 u2 u3 u4 u5 u6 u7 u8 u9 u10 u11
        go_simp
        exact hK0
      · injection ho with ho
        subst ho
        have hx4 := hJ.det.get v4 (hdeps ⟨4, .data⟩ (by simp) rfl)
        have e4 : AA.tmps[61]?.getD undef = .slice Aw q cw := by rw [hA]; exact tmps_own (by kernel_rfl) hx4 (of_decide_eq_true (by kernel_rfl))
        have hK0 : KK (AA.put (some 62) _) _ := hK _ _ (hJ.pure (Below.refl _ _) r5 (fun x hx => by rw [v5] at hx; exact Option.some.inj hx))
        clear hA hdeps hK v0 v1 v2 v3 v4 v5 v6 v7 v8 v9 v10 v11 r0 r1 r2 r3 r4 r5 r6 r7 r8 r9 r10 r11 u0 u1 u2 u3 u4 u5 u6 u7 u8 u9 u10 u11
        go_simp
        exact hK0
      · injection ho with ho
        subst ho
        have hx5 := hJ.det.get v5 (hdeps ⟨5, .data⟩ (by simp) rfl)
        have e5 : AA.tmps[62]?.getD undef = .int .i64 (q : Int) := by rw [hA]; exact tmps_own (by kernel_rfl) hx5 (of_decide_eq_true (by kernel_rfl))
        have hKK := Lib.hid hK
        have HV := Lib.hid v6
        have HR := Lib.hid r6
        clear hA hdeps hK v0 v1 v2 v3 v4 v5 v6 v7 v8 v9 v10 v11 r0 r1 r2 r3 r4 r5 r6 r7 r8 r9 r10 r11 u0 u1 u2 u3 u4 u5 u6 u7 u8 u9 u10 u11
        go_simp
        refine (pput2_any (q : Int) W).mono ?_
        rintro e w5 ⟨v, rfl, hown, hbn⟩
        exact hKK.out _ _ (hJ.new hbn HR.out HV.out hown)
      · injection ho with ho
        subst ho
        obtain ⟨xp, hxp⟩ := Option.isSome_iff_exists.1 (hdeps ⟨3, .data⟩ (by simp) rfl)
        have ep : AA.tmps[60]?.getD undef = xp := by rw [hA]; exact tmps_own (by kernel_rfl) hxp (of_decide_eq_true (by kernel_rfl))
        obtain ⟨xq, hxq⟩ := Option.isSome_iff_exists.1 (hdeps ⟨6, .data⟩ (by simp) rfl)
        have eq : AA.tmps[63]?.getD undef = xq := by rw [hA]; exact tmps_own (by kernel_rfl) hxq (of_decide_eq_true (by kernel_rfl))
        have hop := hJ.own 3 xp _ hxp r3 (LiveK.of u3 hmi)
        have hoq := hJ.own 6 xq _ hxq r6 (fun u hu => by rw [u6] at hu; cases hu)
        obtain ⟨Aq, cq, rfl, _, _, hrq⟩ := own_form hoq
        have htk := fun (v : Value) (W' : World) => hJ.take (W' := W') (v := v) u3 r3 r7 hxp hmi v7
        have hKK := Lib.hid hK
        clear hA hdeps hK v0 v1 v2 v3 v4 v5 v6 v7 v8 v9 v10 v11 r0 r1 r2 r3 r4 r5 r6 r7 r8 r9 r10 r11 u0 u1 u2 u3 u4 u5 u6 u7 u8 u9 u10 u11
        refine step_append_any W rfl (.tmp 60) (.tmp 63) _ rfl w3.heap.size 5 i1 (.int .u8 0) 1 1 Try.underlying27 hj0 hw0 hw1 hw2 rfl (by decide) xp (1) _ ?_ hop W.heap.size Aq (2) cq _ ?_ hrq (by intro u hu; first | exact scells_one _ u hu | exact bts_one _ u hu) (by unfold maxLen; omega) (by omega) hJ.bel.size ?_
        · simpa [Act.eval] using ep
        · simpa [Act.eval] using eq
        · intro v' w' h1 h2 h3
          exact hKK.out _ _ (htk v' w' h2 h1 h3)
      · injection ho with ho
        subst ho
        have e6 : AA.tmps[6]?.getD undef = .slice Aw q cw := by rw [hA]; exact tmps_free (by kernel_rfl)
        have hK0 : KK (AA.put (some 65) _) _ := hK _ _ (hJ.pure (Below.refl _ _) r8 (fun x hx => by rw [v8] at hx; exact Option.some.inj hx))
        clear hA hdeps hK v0 v1 v2 v3 v4 v5 v6 v7 v8 v9 v10 v11 r0 r1 r2 r3 r4 r5 r6 r7 r8 r9 r10 r11 u0 u1 u2 u3 u4 u5 u6 u7 u8 u9 u10 u11
        go_simp
        exact hK0
      · injection ho with ho
        subst ho
        obtain ⟨xp, hxp⟩ := Option.isSome_iff_exists.1 (hdeps ⟨7, .data⟩ (by simp) rfl)
        have ep : AA.tmps[64]?.getD undef = xp := by rw [hA]; exact tmps_own (by kernel_rfl) hxp (of_decide_eq_true (by kernel_rfl))
        have hx8 := hJ.det.get v8 (hdeps ⟨8, .data⟩ (by simp) rfl)
        have e8 : AA.tmps[65]?.getD undef = .slice Aw q cw := by rw [hA]; exact tmps_own (by kernel_rfl) hx8 (of_decide_eq_true (by kernel_rfl))
        have hop := hJ.own 7 xp _ hxp r7 (LiveK.of u7 hmi)
        have hrq := HPW.out W hJ.bel
        have htk := fun (v : Value) (W' : World) => hJ.take (W' := W') (v := v) u7 r7 r9 hxp hmi v9
        have hKK := Lib.hid hK
        clear hA hdeps hK v0 v1 v2 v3 v4 v5 v6 v7 v8 v9 v10 v11 r0 r1 r2 r3 r4 r5 r6 r7 r8 r9 r10 r11 u0 u1 u2 u3 u4 u5 u6 u7 u8 u9 u10 u11
        refine step_append_any W rfl (.tmp 64) (.tmp 65) _ rfl w3.heap.size 5 i1 (.int .u8 0) 1 1 Try.underlying27 hj0 hw0 hw1 hw2 rfl (by decide) xp (1 + 2) _ ?_ hop W.heap.size Aw (q) cw _ ?_ hrq (by intro u hu; first | exact scells_one _ u hu | exact bts_one _ u hu) (by unfold maxLen; omega) (by omega) (Nat.le_trans (Nat.le_refl _) hJ.bel.size) ?_
        · simpa [Act.eval] using ep
        · simpa [Act.eval] using e8
        · intro v' w' h1 h2 h3
          exact hKK.out _ _ (htk v' w' h2 h1 h3)
      · injection ho with ho
        subst ho
        obtain ⟨xp, hxp⟩ := Option.isSome_iff_exists.1 (hdeps ⟨9, .data⟩ (by simp) rfl)
        have ep : AA.tmps[66]?.getD undef = xp := by rw [hA]; exact tmps_own (by kernel_rfl) hxp (of_decide_eq_true (by kernel_rfl))
        have hop := hJ.own 9 xp _ hxp r9 (LiveK.of u9 hmi)
        have hK0 : KK (AA.put (some 2) _) _ := hK xp W (hJ.take u9 r9 r10 hxp hmi v10 (World.grownBy.refl _ _) hop (.inl rfl))
        clear hA hdeps hK v0 v1 v2 v3 v4 v5 v6 v7 v8 v9 v10 v11 r0 r1 r2 r3 r4 r5 r6 r7 r8 r9 r10 r11 u0 u1 u2 u3 u4 u5 u6 u7 u8 u9 u10 u11
        go_simp
        exact hK0
      · injection ho with ho
        subst ho
        have hK0 : KK (AA.put (some 3) _) _ := hK _ _ (hJ.pure (Below.refl _ _) r11 (fun x hx => by rw [v11] at hx; exact Option.some.inj hx))
        clear hA hdeps hK v0 v1 v2 v3 v4 v5 v6 v7 v8 v9 v10 v11 r0 r1 r2 r3 r4 r5 r6 r7 r8 r9 r10 r11 u0 u1 u2 u3 u4 u5 u6 u7 u8 u9 u10 u11
        go_simp
        exact hK0
      · simp at ho
    · intro m W hJ hall
      have m0 := hJ.det.get v0 (hall 0 (by simp))
      have m1 := hJ.det.get v1 (hall 1 (by simp))
      have m2 := hJ.det.get v2 (hall 2 (by simp))
      obtain ⟨x3, m3⟩ := Option.isSome_iff_exists.1 (hall 3 (by simp))
      have m4 := hJ.det.get v4 (hall 4 (by simp))
      have m5 := hJ.det.get v5 (hall 5 (by simp))
      obtain ⟨x6, m6⟩ := Option.isSome_iff_exists.1 (hall 6 (by simp))
      obtain ⟨x7, m7⟩ := Option.isSome_iff_exists.1 (hall 7 (by simp))
      have m8 := hJ.det.get v8 (hall 8 (by simp))
      obtain ⟨x9, m9⟩ := Option.isSome_iff_exists.1 (hall 9 (by simp))
      obtain ⟨x10, m10⟩ := Option.isSome_iff_exists.1 (hall 10 (by simp))
      have m11 := hJ.det.get v11 (hall 11 (by simp))
      have hown := hJ.own 10 x10 _ m10 r10 (fun u hu => by rw [u10] at hu; cases hu)
      have hbx := hJ.bel
      rw [frameM_all (by kernel_rfl) [.pointer (some ⟨w0.heap.size, 0, none⟩), .int .i64 2, .int .u8 2, x3, .slice Aw q cw, .int .i64 (q : Int), x6, x7, .slice Aw q cw, x9, x10, .int .i64 0] rfl (fun i hi => by
          rcases i with _ | _ | _ | _ | _ | _ | _ | _ | _ | _ | _ | _ | i
          · exact m0
          · exact m1
          · exact m2
          · exact m3
          · exact m4
          · exact m5
          · exact m6
          · exact m7
          · exact m8
          · exact m9
          · exact m10
          · exact m11
          · simp at hi; omega)]
      clear hJ hall m0 m1 m2 m3 m4 m5 m6 m7 m8 m9 m10 m11 v0 v1 v2 v3 v4 v5 v6 v7 v8 v9 v10 v11 r0 r1 r2 r3 r4 r5 r6 r7 r8 r9 r10 r11 u0 u1 u2 u3 u4 u5 u6 u7 u8 u9 u10 u11
      simp only [putAll, Act.put, List.setIfInBounds_toArray, List.set_cons_succ, List.set_cons_zero]
      repeat go_step
      go_ret2
      exact ⟨_, rfl, own_cast (own_mono hown hB3) (show 1 + 2 + q = L.length by have := HEL.out; omega) (show bts [2] ++ bts (putL (q : Int) 2) ++ bts F = bts L by rw [HENC.out]; simp [bts]), hbel.trans (hbx.mono hB3)⟩
set_option maxRecDepth 100000 in
set_option maxHeartbeats 4000000 in
theorem penc3_any (rn : BS) (rf rg : Int) (ro : PL) (ri rc : Int) (rd : BS) (ra rb rx ry : Int) (n : Nat) (hn : n = ro.length) (A1 : Option Addr) (c1 : Nat) (w0 : World) (B1 : Nat) (hB1 : B1 ≤ w0.heap.size) (hr1 : Reads w0 B1 2 A1 n (pcells ro)) (hv : strOk ro) (hnl : rn.length ≤ 140737488351232) (hsm : (⟨ra, rb, rx, ry⟩ : Sm).ok) (hE : recE ⟨3, rn, rf, rg, ro, ri, rc, rd, ⟨ra, rb, rx, ry⟩⟩ = 0) :
    Calls Try.prog 13 #[.agg #[.int .i64 3, .string ⟨rn.toArray⟩, .int .i64 rf, .int .i64 rg, .slice A1 n c1, .int .i64 ri, .int .i64 rc, .string ⟨rd.toArray⟩, .int .u64 ra, .int .u64 rb, .int .u64 rx, .int .u64 ry]] w0 fun e w' => ∃ v, e = .returned (.tuple #[v, .int .i64 0]) ∧ w'.ownsRow w0.heap.size 5 1 v (encL ⟨3, rn, rf, rg, ro, ri, rc, rd, ⟨ra, rb, rx, ry⟩⟩).length (bts (encL ⟨3, rn, rf, rg, ro, ri, rc, rd, ⟨ra, rb, rx, ry⟩⟩)) ∧ Below w0.heap.size w0 w' := by
  obtain ⟨i0, hi0, hz0, hz1, hz2⟩ := info_parts Try.infoS
  obtain ⟨i1, hj0, hw0, hw1, hw2⟩ := info_parts Try.infoU8c
  obtain ⟨hkk, hmay⟩ := recE_kind _ hE
  have h8 : ro.length ≤ 8 := own_small _ hkk hmay
  have hn8 : n ≤ 8 := by omega
  have HSM := Lib.hid (rtexts_small _ hE)
  have HFL := Lib.hid (fwrite_len _ hE)
  have hc := fun W (hb : Below w0.heap.size w0 W) => pcheck_any 3 rn rf rg ro ri rc rd ra rb rx ry n hn A1 c1 W B1 (Nat.le_trans hB1 hb.size) (hr1.below (hb.mono hB1)) (by omega) hv hnl
  rw [hE] at hc
  have hTX := fun W (hb : Below w0.heap.size w0 W) => refText_any ro n hn A1 c1 W B1 (hr1.below (hb.mono hB1)) (Nat.le_trans hB1 hb.size) (by omega)
  obtain ⟨L, hL⟩ : ∃ L, L = encL ⟨3, rn, rf, rg, ro, ri, rc, rd, ⟨ra, rb, rx, ry⟩⟩ := ⟨_, rfl⟩
  have HLL : Hid (L = 3 :: (putL ((fwrite (rtexts ⟨3, rn, rf, rg, ro, ri, rc, rd, ⟨ra, rb, rx, ry⟩⟩)).length : Int) 2 ++ fwrite (rtexts ⟨3, rn, rf, rg, ro, ri, rc, rd, ⟨ra, rb, rx, ry⟩⟩))) := hL
  rw [← hL]
  obtain ⟨TX, hTX2⟩ : ∃ TX, TX = rtexts ⟨3, rn, rf, rg, ro, ri, rc, rd, ⟨ra, rb, rx, ry⟩⟩ := ⟨_, rfl⟩
  rw [← hTX2] at HSM HFL HLL
  obtain ⟨tl, htl⟩ : ∃ t, t = TX.length := ⟨_, rfl⟩
  have HTL := Lib.hid htl
  have HTXE := Lib.hid hTX2
  have HN := Lib.hid hn
  have hk := Blk.new w0 47 #[.int .i64 3, .string ⟨rn.toArray⟩, .int .i64 rf, .int .i64 rg, .slice A1 n c1, .int .i64 ri, .int .i64 rc, .string ⟨rd.toArray⟩, .int .u64 ra, .int .u64 rb, .int .u64 rx, .int .u64 ry]
  have hbel := (Below.refl w0.heap.size w0).alloc (Nat.le_refl _) (.cells #[.int .i64 3, .string ⟨rn.toArray⟩, .int .i64 rf, .int .i64 rg, .slice A1 n c1, .int .i64 ri, .int .i64 rc, .string ⟨rd.toArray⟩, .int .u64 ra, .int .u64 rb, .int .u64 rx, .int .u64 ry] 47)
  have HC := Lib.hid (hc _ hbel)
  have HTXT := Lib.hid hTX
  have HSMO := Lib.hid hsm
  clear hc hTX hL hTX2 htl hn hr1 hv hE hkk hmay h8 hsm
  go_enter Try.func13, Try.ntmps13
  go_wp2_with fail
  refine HC.out.mono ?_
  rintro e w1 ⟨rfl, hb1⟩
  have hk := hk.below hb1 hk.lt
  have hbel := hbel.trans (hb1.mono hbel.size)
  have hB0 : w0.heap.size ≤ w1.heap.size := hbel.size
  clear hb1 HC
  obtain ⟨c0_, c1_, c2_, c3_, c4_, c5_, c6_, c7_, c8_, c9_, c10_, c11_⟩ := blk12 hk
  have HTX := Lib.hid (fun W (hb : Below w1.heap.size w1 W) => HTXT.out W (hbel.trans (hb.mono hB0)))
  have hS := Lib.hid (fun (W' : World) (hB : Below w1.heap.size w1 W') => (blk12 (hk.below hB hk.lt) :
    W'.cell? ⟨w0.heap.size, 0, none⟩ = some (.int .i64 3) ∧ W'.cell? ⟨w0.heap.size, 1, none⟩ = some (.string ⟨rn.toArray⟩) ∧ W'.cell? ⟨w0.heap.size, 2, none⟩ = some (.int .i64 rf) ∧ W'.cell? ⟨w0.heap.size, 3, none⟩ = some (.int .i64 rg) ∧ W'.cell? ⟨w0.heap.size, 4, none⟩ = some (.slice A1 n c1) ∧ W'.cell? ⟨w0.heap.size, 5, none⟩ = some (.int .i64 ri) ∧ W'.cell? ⟨w0.heap.size, 6, none⟩ = some (.int .i64 rc) ∧ W'.cell? ⟨w0.heap.size, 7, none⟩ = some (.string ⟨rd.toArray⟩) ∧ W'.cell? ⟨w0.heap.size, 8, none⟩ = some (.int .u64 ra) ∧ W'.cell? ⟨w0.heap.size, 9, none⟩ = some (.int .u64 rb) ∧ W'.cell? ⟨w0.heap.size, 10, none⟩ = some (.int .u64 rx) ∧ W'.cell? ⟨w0.heap.size, 11, none⟩ = some (.int .u64 ry)))
  have HTXC : Hid (scells TX = scells [n8 ri, n8 rc]) := by show _ = _; rw [HTXE.out]; simp [rtexts]
  have HTN : Hid (2 = tl) := by show _ = _; rw [HTL.out, HTXE.out]; simp [rtexts]
  go_wp2_with fail
  obtain ⟨val, hval⟩ : ∃ val : Nat → Option Value, val = fun i => [some (.pointer (some ⟨w0.heap.size, 5, none⟩)), some (.int .i64 ri), some (.string ⟨(n8 ri).toArray⟩), some (.pointer (some ⟨w0.heap.size, 6, none⟩)), some (.int .i64 rc), some (.string ⟨(n8 rc).toArray⟩), none, none][i]?.join := ⟨_, rfl⟩
  obtain ⟨row, hrow⟩ : ∃ row : Nat → Option (TypeId × Nat × List Value), row = fun i => [none, none, none, none, none, none, some (9, 2, scells [n8 ri, n8 rc]), some (9, 2, scells [n8 ri, n8 rc])][i]?.join := ⟨_, rfl⟩
  obtain ⟨user, husr⟩ : ∃ user : Nat → Option Nat, user = fun i => [none, none, none, none, none, none, some 7, none][i]?.join := ⟨_, rfl⟩
  have v0 : val 0 = some (.pointer (some ⟨w0.heap.size, 5, none⟩)) := by rw [hval]; rfl
  have r0 : row 0 = none := by rw [hrow]; rfl
  have u0 : user 0 = none := by rw [husr]; rfl
  have v1 : val 1 = some (.int .i64 ri) := by rw [hval]; rfl
  have r1 : row 1 = none := by rw [hrow]; rfl
  have u1 : user 1 = none := by rw [husr]; rfl
  have v2 : val 2 = some (.string ⟨(n8 ri).toArray⟩) := by rw [hval]; rfl
  have r2 : row 2 = none := by rw [hrow]; rfl
  have u2 : user 2 = none := by rw [husr]; rfl
  have v3 : val 3 = some (.pointer (some ⟨w0.heap.size, 6, none⟩)) := by rw [hval]; rfl
  have r3 : row 3 = none := by rw [hrow]; rfl
  have u3 : user 3 = none := by rw [husr]; rfl
  have v4 : val 4 = some (.int .i64 rc) := by rw [hval]; rfl
  have r4 : row 4 = none := by rw [hrow]; rfl
  have u4 : user 4 = none := by rw [husr]; rfl
  have v5 : val 5 = some (.string ⟨(n8 rc).toArray⟩) := by rw [hval]; rfl
  have r5 : row 5 = none := by rw [hrow]; rfl
  have u5 : user 5 = none := by rw [husr]; rfl
  have v6 : val 6 = none := by rw [hval]; rfl
  have r6 : row 6 = some (9, 2, scells [n8 ri, n8 rc]) := by rw [hrow]; rfl
  have u6 : user 6 = some 7 := by rw [husr]; rfl
  have v7 : val 7 = none := by rw [hval]; rfl
  have r7 : row 7 = some (9, 2, scells [n8 ri, n8 rc]) := by rw [hrow]; rfl
  have u7 : user 7 = none := by rw [husr]; rfl
  clear hval hrow husr
  refine wp_region_inv (by kernel_rfl) (by kernel_rfl) (RowsK w1 val row user) RowsK.start ?_ ?_
  · intro i o ho m W hJ hmi hdeps AA KK hA hK
    rcases i with _ | _ | _ | _ | _ | _ | _ | _ | i
    · injection ho with ho
      subst ho
      have e4 : AA.tmps[1]?.getD undef = .pointer (some ⟨w0.heap.size, 0, none⟩) := by rw [hA]; exact tmps_free (by kernel_rfl)
      have hK0 : KK (AA.put (some 45) _) _ := hK _ _ (hJ.pure (Below.refl _ _) r0 (fun x hx => by rw [v0] at hx; exact Option.some.inj hx))
      clear hA hdeps hK v0 v1 v2 v3 v4 v5 v6 v7 r0 r1 r2 r3 r4 r5 r6 r7 u0 u1 u2 u3 u4 u5 u6 u7
      go_simp
      exact hK0
    · injection ho with ho
      subst ho
      have hx0 := hJ.det.get v0 (hdeps ⟨0, .data⟩ (by simp) rfl)
      have e0 : AA.tmps[45]?.getD undef = .pointer (some ⟨w0.heap.size, 5, none⟩) := by rw [hA]; exact tmps_own (by kernel_rfl) hx0 (of_decide_eq_true (by kernel_rfl))
      obtain ⟨c0_, c1_, c2_, c3_, c4_, c5_, c6_, c7_, c8_, c9_, c10_, c11_⟩ := hS.out W hJ.bel
      have hK0 : KK (AA.put (some 46) _) _ := hK _ _ (hJ.pure (Below.refl _ _) r1 (fun x hx => by rw [v1] at hx; exact Option.some.inj hx))
      clear hA hdeps hK v0 v1 v2 v3 v4 v5 v6 v7 r0 r1 r2 r3 r4 r5 r6 r7 u0 u1 u2 u3 u4 u5 u6 u7
      go_simp
      exact hK0
    · injection ho with ho
      subst ho
      have hx1 := hJ.det.get v1 (hdeps ⟨1, .data⟩ (by simp) rfl)
      have e1 : AA.tmps[46]?.getD undef = .int .i64 ri := by rw [hA]; exact tmps_own (by kernel_rfl) hx1 (of_decide_eq_true (by kernel_rfl))
      have hKK := Lib.hid hK
      have HV := Lib.hid v2
      have HR := Lib.hid r2
      clear hA hdeps hK v0 v1 v2 v3 v4 v5 v6 v7 r0 r1 r2 r3 r4 r5 r6 r7 u0 u1 u2 u3 u4 u5 u6 u7
      go_simp
      refine (pnum_any ri W).mono ?_
      rintro e w5 ⟨rfl, hbn⟩
      exact hKK.out _ _ (hJ.pure hbn HR.out (fun x hx => by rw [HV.out] at hx; exact Option.some.inj hx))
    · injection ho with ho
      subst ho
      have e4 : AA.tmps[1]?.getD undef = .pointer (some ⟨w0.heap.size, 0, none⟩) := by rw [hA]; exact tmps_free (by kernel_rfl)
      have hK0 : KK (AA.put (some 48) _) _ := hK _ _ (hJ.pure (Below.refl _ _) r3 (fun x hx => by rw [v3] at hx; exact Option.some.inj hx))
      clear hA hdeps hK v0 v1 v2 v3 v4 v5 v6 v7 r0 r1 r2 r3 r4 r5 r6 r7 u0 u1 u2 u3 u4 u5 u6 u7
      go_simp
      exact hK0
    · injection ho with ho
      subst ho
      have hx3 := hJ.det.get v3 (hdeps ⟨3, .data⟩ (by simp) rfl)
      have e3 : AA.tmps[48]?.getD undef = .pointer (some ⟨w0.heap.size, 6, none⟩) := by rw [hA]; exact tmps_own (by kernel_rfl) hx3 (of_decide_eq_true (by kernel_rfl))
      obtain ⟨c0_, c1_, c2_, c3_, c4_, c5_, c6_, c7_, c8_, c9_, c10_, c11_⟩ := hS.out W hJ.bel
      have hK0 : KK (AA.put (some 49) _) _ := hK _ _ (hJ.pure (Below.refl _ _) r4 (fun x hx => by rw [v4] at hx; exact Option.some.inj hx))
      clear hA hdeps hK v0 v1 v2 v3 v4 v5 v6 v7 r0 r1 r2 r3 r4 r5 r6 r7 u0 u1 u2 u3 u4 u5 u6 u7
      go_simp
      exact hK0
    · injection ho with ho
      subst ho
      have hx4 := hJ.det.get v4 (hdeps ⟨4, .data⟩ (by simp) rfl)
      have e4 : AA.tmps[49]?.getD undef = .int .i64 rc := by rw [hA]; exact tmps_own (by kernel_rfl) hx4 (of_decide_eq_true (by kernel_rfl))
      have hKK := Lib.hid hK
      have HV := Lib.hid v5
      have HR := Lib.hid r5
      clear hA hdeps hK v0 v1 v2 v3 v4 v5 v6 v7 r0 r1 r2 r3 r4 r5 r6 r7 u0 u1 u2 u3 u4 u5 u6 u7
      go_simp
      refine (pnum_any rc W).mono ?_
      rintro e w5 ⟨rfl, hbn⟩
      exact hKK.out _ _ (hJ.pure hbn HR.out (fun x hx => by rw [HV.out] at hx; exact Option.some.inj hx))
    · injection ho with ho
      subst ho
      have hx2 := hJ.det.get v2 (hdeps ⟨2, .data⟩ (by simp) rfl)
      have e2 : AA.tmps[47]?.getD undef = .string ⟨(n8 ri).toArray⟩ := by rw [hA]; exact tmps_own (by kernel_rfl) hx2 (of_decide_eq_true (by kernel_rfl))
      have hx5 := hJ.det.get v5 (hdeps ⟨5, .data⟩ (by simp) rfl)
      have e5 : AA.tmps[50]?.getD undef = .string ⟨(n8 rc).toArray⟩ := by rw [hA]; exact tmps_own (by kernel_rfl) hx5 (of_decide_eq_true (by kernel_rfl))
      have hK0 : KK (AA.put (some 51) _) _ := hK _ _ (hJ.new (W' := W.alloc (.cells #[.string ⟨(n8 ri).toArray⟩, .string ⟨(n8 rc).toArray⟩] 9)) ((Below.refl _ _).alloc (Nat.le_refl _) _) r6 v6 (own_lit W #[.string ⟨(n8 ri).toArray⟩, .string ⟨(n8 rc).toArray⟩] 9 2 rfl (by decide)))
      clear hA hdeps hK v0 v1 v2 v3 v4 v5 v6 v7 r0 r1 r2 r3 r4 r5 r6 r7 u0 u1 u2 u3 u4 u5 u6 u7
      go_simp
      exact hK0
    · injection ho with ho
      subst ho
      obtain ⟨xp, hxp⟩ := Option.isSome_iff_exists.1 (hdeps ⟨6, .data⟩ (by simp) rfl)
      have ep : AA.tmps[51]?.getD undef = xp := by rw [hA]; exact tmps_own (by kernel_rfl) hxp (of_decide_eq_true (by kernel_rfl))
      have hop := hJ.own 6 xp _ hxp r6 (LiveK.of u6 hmi)
      have hK0 : KK (AA.put (some 5) _) _ := hK xp W (hJ.take u6 r6 r7 hxp hmi v7 (World.grownBy.refl _ _) hop (.inl rfl))
      clear hA hdeps hK v0 v1 v2 v3 v4 v5 v6 v7 r0 r1 r2 r3 r4 r5 r6 r7 u0 u1 u2 u3 u4 u5 u6 u7
      go_simp
      exact hK0
    · simp at ho
  · intro m W hJ hall
    have m0 := hJ.det.get v0 (hall 0 (by simp))
    have m1 := hJ.det.get v1 (hall 1 (by simp))
    have m2 := hJ.det.get v2 (hall 2 (by simp))
    have m3 := hJ.det.get v3 (hall 3 (by simp))
    have m4 := hJ.det.get v4 (hall 4 (by simp))
    have m5 := hJ.det.get v5 (hall 5 (by simp))
    obtain ⟨x6, m6⟩ := Option.isSome_iff_exists.1 (hall 6 (by simp))
    obtain ⟨x7, m7⟩ := Option.isSome_iff_exists.1 (hall 7 (by simp))
    have hown := hJ.own 7 x7 _ m7 r7 (fun u hu => by rw [u7] at hu; cases hu)
    have hbx := hJ.bel
    rw [frameM_all (by kernel_rfl) [.pointer (some ⟨w0.heap.size, 5, none⟩), .int .i64 ri, .string ⟨(n8 ri).toArray⟩, .pointer (some ⟨w0.heap.size, 6, none⟩), .int .i64 rc, .string ⟨(n8 rc).toArray⟩, x6, x7] rfl (fun i hi => by
        rcases i with _ | _ | _ | _ | _ | _ | _ | _ | i
        · exact m0
        · exact m1
        · exact m2
        · exact m3
        · exact m4
        · exact m5
        · exact m6
        · exact m7
        · simp at hi; omega)]
    clear hJ hall m0 m1 m2 m3 m4 m5 m6 m7 v0 v1 v2 v3 v4 v5 v6 v7 r0 r1 r2 r3 r4 r5 r6 r7 u0 u1 u2 u3 u4 u5 u6 u7
    simp only [putAll, Act.put, List.setIfInBounds_toArray, List.set_cons_succ, List.set_cons_zero]
    have hown := own_cast hown HTN.out rfl
    obtain ⟨Al, cl, rfl, _, _, hrl⟩ := own_form hown
    have hbel := hbel.trans (hbx.mono hB0)
    have hkx := hk.below hbx hk.lt
    have HWR := Lib.hid (pwrite_any TX (fun s hs => Nat.le_trans (HSM.out.2 s hs) (by omega)) tl HTL.out Al cl _ _ (by rw [HTXC.out]; exact hrl) (Nat.le_refl _) (by have := HSM.out.1; have := HTL.out; omega))
    clear hown hrl hbx hk hS
    go_wp2_with fail
    refine HWR.out.mono ?_
    clear HWR
    rintro e w3 ⟨v3, rfl, hown3, hb3⟩
    obtain ⟨F, hF⟩ : ∃ F, F = fwrite TX := ⟨_, rfl⟩
    rw [← hF] at hown3
    obtain ⟨q, hq⟩ : ∃ q, q = F.length := ⟨_, rfl⟩
    rw [← hq] at hown3
    obtain ⟨Aw, cw, rfl, hw1', hw2', hr3⟩ := own_form hown3
    have hk := hkx.below hb3 hkx.lt
    have hbel := hbel.trans (hb3.mono hbel.size)
    have hB3 : w0.heap.size ≤ w3.heap.size := hbel.size
    have HPW := Lib.hid (fun (W' : World) (hb : Below w3.heap.size w3 W') => (show Reads W' W'.heap.size 1 Aw q (bts F) from up_reads' hr3 hb (Nat.le_refl _)))
    have HENC : Hid (L = 3 :: (putL (q : Int) 2 ++ F)) := by show _ = _; rw [HLL.out, hF, hq, hF]
    have HEL : Hid (L.length = 3 + q) := by show _ = _; rw [HENC.out, List.length_cons, List.length_append, putL_length, ← hq]; omega
    have hqs : q ≤ 700 := by rw [hq, hF]; exact HFL.out
    have hS := Lib.hid (fun (W' : World) (hB : Below w3.heap.size w3 W') => (blk12 (hk.below hB hk.lt) :
      W'.cell? ⟨w0.heap.size, 0, none⟩ = some (.int .i64 3) ∧ W'.cell? ⟨w0.heap.size, 1, none⟩ = some (.string ⟨rn.toArray⟩) ∧ W'.cell? ⟨w0.heap.size, 2, none⟩ = some (.int .i64 rf) ∧ W'.cell? ⟨w0.heap.size, 3, none⟩ = some (.int .i64 rg) ∧ W'.cell? ⟨w0.heap.size, 4, none⟩ = some (.slice A1 n c1) ∧ W'.cell? ⟨w0.heap.size, 5, none⟩ = some (.int .i64 ri) ∧ W'.cell? ⟨w0.heap.size, 6, none⟩ = some (.int .i64 rc) ∧ W'.cell? ⟨w0.heap.size, 7, none⟩ = some (.string ⟨rd.toArray⟩) ∧ W'.cell? ⟨w0.heap.size, 8, none⟩ = some (.int .u64 ra) ∧ W'.cell? ⟨w0.heap.size, 9, none⟩ = some (.int .u64 rb) ∧ W'.cell? ⟨w0.heap.size, 10, none⟩ = some (.int .u64 rx) ∧ W'.cell? ⟨w0.heap.size, 11, none⟩ = some (.int .u64 ry)))
    clear hk hkx hown3 hb3 hr3 hw1' hw2' hF hq
    go_wp2_with fail
    obtain ⟨val, hval⟩ : ∃ val : Nat → Option Value, val = fun i => [some (.pointer (some ⟨w0.heap.size, 0, none⟩)), some (.int .i64 3), some (.int .u8 3), none, some (.slice Aw q cw), some (.int .i64 (q : Int)), none, none, some (.slice Aw q cw), none, none, some (.int .i64 0)][i]?.join := ⟨_, rfl⟩
    obtain ⟨row, hrow⟩ : ∃ row : Nat → Option (TypeId × Nat × List Value), row = fun i => [none, none, none, some (5, 1, bts [3]), none, none, some (5, 2, bts (putL (q : Int) 2)), some (5, 1 + 2, bts [3] ++ bts (putL (q : Int) 2)), none, some (5, 1 + 2 + q, bts [3] ++ bts (putL (q : Int) 2) ++ bts F), some (5, 1 + 2 + q, bts [3] ++ bts (putL (q : Int) 2) ++ bts F), none][i]?.join := ⟨_, rfl⟩
    obtain ⟨user, husr⟩ : ∃ user : Nat → Option Nat, user = fun i => [none, none, none, some 7, none, none, none, some 9, none, some 10, none, none][i]?.join := ⟨_, rfl⟩
    have v0 : val 0 = some (.pointer (some ⟨w0.heap.size, 0, none⟩)) := by rw [hval]; rfl
    have r0 : row 0 = none := by rw [hrow]; rfl
    have u0 : user 0 = none := by rw [husr]; rfl
    have v1 : val 1 = some (.int .i64 3) := by rw [hval]; rfl
    have r1 : row 1 = none := by rw [hrow]; rfl
    have u1 : user 1 = none := by rw [husr]; rfl
    have v2 : val 2 = some (.int .u8 3) := by rw [hval]; rfl
    have r2 : row 2 = none := by rw [hrow]; rfl
    have u2 : user 2 = none := by rw [husr]; rfl
    have v3 : val 3 = none := by rw [hval]; rfl
    have r3 : row 3 = some (5, 1, bts [3]) := by rw [hrow]; rfl
    have u3 : user 3 = some 7 := by rw [husr]; rfl
    have v4 : val 4 = some (.slice Aw q cw) := by rw [hval]; rfl
    have r4 : row 4 = none := by rw [hrow]; rfl
    have u4 : user 4 = none := by rw [husr]; rfl
    have v5 : val 5 = some (.int .i64 (q : Int)) := by rw [hval]; rfl
    have r5 : row 5 = none := by rw [hrow]; rfl
    have u5 : user 5 = none := by rw [husr]; rfl
    have v6 : val 6 = none := by rw [hval]; rfl
    have r6 : row 6 = some (5, 2, bts (putL (q : Int) 2)) := by rw [hrow]; rfl
    have u6 : user 6 = none := by rw [husr]; rfl
    have v7 : val 7 = none := by rw [hval]; rfl
    have r7 : row 7 = some (5, 1 + 2, bts [3] ++ bts (putL (q : Int) 2)) := by rw [hrow]; rfl
    have u7 : user 7 = some 9 := by rw [husr]; rfl
    have v8 : val 8 = some (.slice Aw q cw) := by rw [hval]; rfl
    have r8 : row 8 = none := by rw [hrow]; rfl
    have u8 : user 8 = none := by rw [husr]; rfl
    have v9 : val 9 = none := by rw [hval]; rfl
    have r9 : row 9 = some (5, 1 + 2 + q, bts [3] ++ bts (putL (q : Int) 2) ++ bts F) := by rw [hrow]; rfl
    have u9 : user 9 = some 10 := by rw [husr]; rfl
    have v10 : val 10 = none := by rw [hval]; rfl
    have r10 : row 10 = some (5, 1 + 2 + q, bts [3] ++ bts (putL (q : Int) 2) ++ bts F) := by rw [hrow]; rfl
    have u10 : user 10 = none := by rw [husr]; rfl
    have v11 : val 11 = some (.int .i64 0) := by rw [hval]; rfl
    have r11 : row 11 = none := by rw [hrow]; rfl
    have u11 : user 11 = none := by rw [husr]; rfl
    clear hval hrow husr
    refine wp_region_inv (by kernel_rfl) (by kernel_rfl) (RowsK w3 val row user) RowsK.start ?_ ?_
    · intro i o ho m W hJ hmi hdeps AA KK hA hK
      rcases i with _ | _ | _ | _ | _ | _ | _ | _ | _ | _ | _ | _ | i
      · injection ho with ho
        subst ho
        have e4 : AA.tmps[1]?.getD undef = .pointer (some ⟨w0.heap.size, 0, none⟩) := by rw [hA]; exact tmps_free (by kernel_rfl)
        have hK0 : KK (AA.put (some 57) _) _ := hK _ _ (hJ.pure (Below.refl _ _) r0 (fun x hx => by rw [v0] at hx; exact Option.some.inj hx))
        clear hA hdeps hK v0 v1 v2 v3 v4 v5 v6 v7 v8 v9 v10 v11 r0 r1 r2 r3 r4 r5 r6 r7 r8 r9 r10 r11 u0 u1 u2 u3 u4 u5 u6 u7 u8 u9 u10 u11
        go_simp
        exact hK0
      · injection ho with ho
        subst ho
        have hx0 := hJ.det.get v0 (hdeps ⟨0, .data⟩ (by simp) rfl)
        have e0 : AA.tmps[57]?.getD undef = .pointer (some ⟨w0.heap.size, 0, none⟩) := by rw [hA]; exact tmps_own (by kernel_rfl) hx0 (of_decide_eq_true (by kernel_rfl))
        obtain ⟨c0_, c1_, c2_, c3_, c4_, c5_, c6_, c7_, c8_, c9_, c10_, c11_⟩ := hS.out W hJ.bel
        have hK0 : KK (AA.put (some 58) _) _ := hK _ _ (hJ.pure (Below.refl _ _) r1 (fun x hx => by rw [v1] at hx; exact Option.some.inj hx))
        clear hA hdeps hK v0 v1 v2 v3 v4 v5 v6 v7 v8 v9 v10 v11 r0 r1 r2 r3 r4 r5 r6 r7 r8 r9 r10 r11 u0 u1 u2 u3 u4 u5 u6 u7 u8 u9 u10 u11
        go_simp
        exact hK0
      · injection ho with ho
        subst ho
        have hx1 := hJ.det.get v1 (hdeps ⟨1, .data⟩ (by simp) rfl)
        have e1 : AA.tmps[58]?.getD undef = .int .i64 3 := by rw [hA]; exact tmps_own (by kernel_rfl) hx1 (of_decide_eq_true (by kernel_rfl))
        have hK0 : KK (AA.put (some 59) _) _ := hK _ _ (hJ.pure (Below.refl _ _) r2 (fun x hx => by rw [v2] at hx; exact Option.some.inj hx))
        clear hA hdeps hK v0 v1 v2 v3 v4 v5 v6 v7 v8 v9 v10 v11 r0 r1 r2 r3 r4 r5 r6 r7 r8 r9 r10 r11 u0 u1 u2 u3 u4 u5 u6 u7 u8 u9 u10 u11
        go_simp
        exact hK0
      · injection ho with ho
        subst ho
        have hx2 := hJ.det.get v2 (hdeps ⟨2, .data⟩ (by simp) rfl)
        have e2 : AA.tmps[59]?.getD undef = .int .u8 3 := by rw [hA]; exact tmps_own (by kernel_rfl) hx2 (of_decide_eq_true (by kernel_rfl))
        have hK0 : KK (AA.put (some 60) _) _ := hK _ _ (hJ.new (W' := W.alloc (.cells #[.int .u8 3] 5)) ((Below.refl _ _).alloc (Nat.le_refl _) _) r3 v3 (own_lit W #[.int .u8 3] 5 1 rfl (by decide)))
        clear hA hdeps hK v0 v1 v2 v3 v4 v5 v6 v7 v8 v9 v10 v11 r0 r1 r2 r3 r4 r5 r6 r7 r8 r9 r10 r11 u0 u1 u2 u3 u4 u5 u6 u7 u8 u9 u10 u11
        go_simp
        exact hK0
      · injection ho with ho
        subst ho
        have e6 : AA.tmps[6]?.getD undef = .slice Aw q cw := by rw [hA]; exact tmps_free (by kernel_rfl)
        have hK0 : KK (AA.put (some 61) _) _ := hK _ _ (hJ.pure (Below.refl _ _) r4 (fun x hx => by rw [v4] at hx; exact Option.some.inj hx))
        clear hA hdeps hK v0 v1 v2 v3 v4 v5 v6 v7 v8 v9 v10 v11 r0 r1 r2 r3 r4 r5 r6 r7 r8 r9 r10 r11 u0 u1 u2 u3 u4 u5 u6 u7 u8 u9 u10 u11
        go_simp
        exact hK0
      · injection ho with ho
        subst ho
        have hx4 := hJ.det.get v4 (hdeps ⟨4, .data⟩ (by simp) rfl)
        have e4 : AA.tmps[61]?.getD undef = .slice Aw q cw := by rw [hA]; exact tmps_own (by kernel_rfl) hx4 (of_decide_eq_true (by kernel_rfl))
        have hK0 : KK (AA.put (some 62) _) _ := hK _ _ (hJ.pure (Below.refl _ _) r5 (fun x hx => by rw [v5] at hx; exact Option.some.inj hx))
        clear hA hdeps hK v0 v1 v2 v3 v4 v5 v6 v7 v8 v9 v10 v11 r0 r1 r2 r3 r4 r5 r6 r7 r8 r9 r10 r11 u0 u1 u2 u3 u4 u5 u6 u7 u8 u9 u10 u11
        go_simp
        exact hK0
      · injection ho with ho
        subst ho
        have hx5 := hJ.det.get v5 (hdeps ⟨5, .data⟩ (by simp) rfl)
        have e5 : AA.tmps[62]?.getD undef = .int .i64 (q : Int) := by rw [hA]; exact tmps_own (by kernel_rfl) hx5 (of_decide_eq_true (by kernel_rfl))
        have hKK := Lib.hid hK
        have HV := Lib.hid v6
        have HR := Lib.hid r6
        clear hA hdeps hK v0 v1 v2 v3 v4 v5 v6 v7 v8 v9 v10 v11 r0 r1 r2 r3 r4 r5 r6 r7 r8 r9 r10 r11 u0 u1 u2 u3 u4 u5 u6 u7 u8 u9 u10 u11
        go_simp
        refine (pput2_any (q : Int) W).mono ?_
        rintro e w5 ⟨v, rfl, hown, hbn⟩
        exact hKK.out _ _ (hJ.new hbn HR.out HV.out hown)
      · injection ho with ho
        subst ho
        obtain ⟨xp, hxp⟩ := Option.isSome_iff_exists.1 (hdeps ⟨3, .data⟩ (by simp) rfl)
        have ep : AA.tmps[60]?.getD undef = xp := by rw [hA]; exact tmps_own (by kernel_rfl) hxp (of_decide_eq_true (by kernel_rfl))
        obtain ⟨xq, hxq⟩ := Option.isSome_iff_exists.1 (hdeps ⟨6, .data⟩ (by simp) rfl)
        have eq : AA.tmps[63]?.getD undef = xq := by rw [hA]; exact tmps_own (by kernel_rfl) hxq (of_decide_eq_true (by kernel_rfl))
        have hop := hJ.own 3 xp _ hxp r3 (LiveK.of u3 hmi)
        have hoq := hJ.own 6 xq _ hxq r6 (fun u hu => by rw [u6] at hu; cases hu)
        obtain ⟨Aq, cq, rfl, _, _, hrq⟩ := own_form hoq
        have htk := fun (v : Value) (W' : World) => hJ.take (W' := W') (v := v) u3 r3 r7 hxp hmi v7
        have hKK := Lib.hid hK
        clear hA hdeps hK v0 v1 v2 v3 v4 v5 v6 v7 v8 v9 v10 v11 r0 r1 r2 r3 r4 r5 r6 r7 r8 r9 r10 r11 u0 u1 u2 u3 u4 u5 u6 u7 u8 u9 u10 u11
        refine step_append_any W rfl (.tmp 60) (.tmp 63) _ rfl w3.heap.size 5 i1 (.int .u8 0) 1 1 Try.underlying27 hj0 hw0 hw1 hw2 rfl (by decide) xp (1) _ ?_ hop W.heap.size Aq (2) cq _ ?_ hrq (by intro u hu; first | exact scells_one _ u hu | exact bts_one _ u hu) (by unfold maxLen; omega) (by omega) hJ.bel.size ?_
        · simpa [Act.eval] using ep
        · simpa [Act.eval] using eq
        · intro v' w' h1 h2 h3
          exact hKK.out _ _ (htk v' w' h2 h1 h3)
      · injection ho with ho
        subst ho
        have e6 : AA.tmps[6]?.getD undef = .slice Aw q cw := by rw [hA]; exact tmps_free (by kernel_rfl)
        have hK0 : KK (AA.put (some 65) _) _ := hK _ _ (hJ.pure (Below.refl _ _) r8 (fun x hx => by rw [v8] at hx; exact Option.some.inj hx))
        clear hA hdeps hK v0 v1 v2 v3 v4 v5 v6 v7 v8 v9 v10 v11 r0 r1 r2 r3 r4 r5 r6 r7 r8 r9 r10 r11 u0 u1 u2 u3 u4 u5 u6 u7 u8 u9 u10 u11
        go_simp
        exact hK0
      · injection ho with ho
        subst ho
        obtain ⟨xp, hxp⟩ := Option.isSome_iff_exists.1 (hdeps ⟨7, .data⟩ (by simp) rfl)
        have ep : AA.tmps[64]?.getD undef = xp := by rw [hA]; exact tmps_own (by kernel_rfl) hxp (of_decide_eq_true (by kernel_rfl))
        have hx8 := hJ.det.get v8 (hdeps ⟨8, .data⟩ (by simp) rfl)
        have e8 : AA.tmps[65]?.getD undef = .slice Aw q cw := by rw [hA]; exact tmps_own (by kernel_rfl) hx8 (of_decide_eq_true (by kernel_rfl))
        have hop := hJ.own 7 xp _ hxp r7 (LiveK.of u7 hmi)
        have hrq := HPW.out W hJ.bel
        have htk := fun (v : Value) (W' : World) => hJ.take (W' := W') (v := v) u7 r7 r9 hxp hmi v9
        have hKK := Lib.hid hK
        clear hA hdeps hK v0 v1 v2 v3 v4 v5 v6 v7 v8 v9 v10 v11 r0 r1 r2 r3 r4 r5 r6 r7 r8 r9 r10 r11 u0 u1 u2 u3 u4 u5 u6 u7 u8 u9 u10 u11
        refine step_append_any W rfl (.tmp 64) (.tmp 65) _ rfl w3.heap.size 5 i1 (.int .u8 0) 1 1 Try.underlying27 hj0 hw0 hw1 hw2 rfl (by decide) xp (1 + 2) _ ?_ hop W.heap.size Aw (q) cw _ ?_ hrq (by intro u hu; first | exact scells_one _ u hu | exact bts_one _ u hu) (by unfold maxLen; omega) (by omega) (Nat.le_trans (Nat.le_refl _) hJ.bel.size) ?_
        · simpa [Act.eval] using ep
        · simpa [Act.eval] using e8
        · intro v' w' h1 h2 h3
          exact hKK.out _ _ (htk v' w' h2 h1 h3)
      · injection ho with ho
        subst ho
        obtain ⟨xp, hxp⟩ := Option.isSome_iff_exists.1 (hdeps ⟨9, .data⟩ (by simp) rfl)
        have ep : AA.tmps[66]?.getD undef = xp := by rw [hA]; exact tmps_own (by kernel_rfl) hxp (of_decide_eq_true (by kernel_rfl))
        have hop := hJ.own 9 xp _ hxp r9 (LiveK.of u9 hmi)
        have hK0 : KK (AA.put (some 2) _) _ := hK xp W (hJ.take u9 r9 r10 hxp hmi v10 (World.grownBy.refl _ _) hop (.inl rfl))
        clear hA hdeps hK v0 v1 v2 v3 v4 v5 v6 v7 v8 v9 v10 v11 r0 r1 r2 r3 r4 r5 r6 r7 r8 r9 r10 r11 u0 u1 u2 u3 u4 u5 u6 u7 u8 u9 u10 u11
        go_simp
        exact hK0
      · injection ho with ho
        subst ho
        have hK0 : KK (AA.put (some 3) _) _ := hK _ _ (hJ.pure (Below.refl _ _) r11 (fun x hx => by rw [v11] at hx; exact Option.some.inj hx))
        clear hA hdeps hK v0 v1 v2 v3 v4 v5 v6 v7 v8 v9 v10 v11 r0 r1 r2 r3 r4 r5 r6 r7 r8 r9 r10 r11 u0 u1 u2 u3 u4 u5 u6 u7 u8 u9 u10 u11
        go_simp
        exact hK0
      · simp at ho
    · intro m W hJ hall
      have m0 := hJ.det.get v0 (hall 0 (by simp))
      have m1 := hJ.det.get v1 (hall 1 (by simp))
      have m2 := hJ.det.get v2 (hall 2 (by simp))
      obtain ⟨x3, m3⟩ := Option.isSome_iff_exists.1 (hall 3 (by simp))
      have m4 := hJ.det.get v4 (hall 4 (by simp))
      have m5 := hJ.det.get v5 (hall 5 (by simp))
      obtain ⟨x6, m6⟩ := Option.isSome_iff_exists.1 (hall 6 (by simp))
      obtain ⟨x7, m7⟩ := Option.isSome_iff_exists.1 (hall 7 (by simp))
      have m8 := hJ.det.get v8 (hall 8 (by simp))
      obtain ⟨x9, m9⟩ := Option.isSome_iff_exists.1 (hall 9 (by simp))
      obtain ⟨x10, m10⟩ := Option.isSome_iff_exists.1 (hall 10 (by simp))
      have m11 := hJ.det.get v11 (hall 11 (by simp))
      have hown := hJ.own 10 x10 _ m10 r10 (fun u hu => by rw [u10] at hu; cases hu)
      have hbx := hJ.bel
      rw [frameM_all (by kernel_rfl) [.pointer (some ⟨w0.heap.size, 0, none⟩), .int .i64 3, .int .u8 3, x3, .slice Aw q cw, .int .i64 (q : Int), x6, x7, .slice Aw q cw, x9, x10, .int .i64 0] rfl (fun i hi => by
          rcases i with _ | _ | _ | _ | _ | _ | _ | _ | _ | _ | _ | _ | i
          · exact m0
          · exact m1
          · exact m2
          · exact m3
          · exact m4
          · exact m5
          · exact m6
          · exact m7
          · exact m8
          · exact m9
          · exact m10
          · exact m11
          · simp at hi; omega)]
      clear hJ hall m0 m1 m2 m3 m4 m5 m6 m7 m8 m9 m10 m11 v0 v1 v2 v3 v4 v5 v6 v7 v8 v9 v10 v11 r0 r1 r2 r3 r4 r5 r6 r7 r8 r9 r10 r11 u0 u1 u2 u3 u4 u5 u6 u7 u8 u9 u10 u11
      simp only [putAll, Act.put, List.setIfInBounds_toArray, List.set_cons_succ, List.set_cons_zero]
      repeat go_step
      go_ret2
      exact ⟨_, rfl, own_cast (own_mono hown hB3) (show 1 + 2 + q = L.length by have := HEL.out; omega) (show bts [3] ++ bts (putL (q : Int) 2) ++ bts F = bts L by rw [HENC.out]; simp [bts]), hbel.trans (hbx.mono hB3)⟩
set_option maxRecDepth 100000 in
set_option maxHeartbeats 4000000 in
theorem penc4_any (rn : BS) (rf rg : Int) (ro : PL) (ri rc : Int) (rd : BS) (ra rb rx ry : Int) (n : Nat) (hn : n = ro.length) (A1 : Option Addr) (c1 : Nat) (w0 : World) (B1 : Nat) (hB1 : B1 ≤ w0.heap.size) (hr1 : Reads w0 B1 2 A1 n (pcells ro)) (hv : strOk ro) (hnl : rn.length ≤ 140737488351232) (hsm : (⟨ra, rb, rx, ry⟩ : Sm).ok) (hE : recE ⟨4, rn, rf, rg, ro, ri, rc, rd, ⟨ra, rb, rx, ry⟩⟩ = 0) :
    Calls Try.prog 13 #[.agg #[.int .i64 4, .string ⟨rn.toArray⟩, .int .i64 rf, .int .i64 rg, .slice A1 n c1, .int .i64 ri, .int .i64 rc, .string ⟨rd.toArray⟩, .int .u64 ra, .int .u64 rb, .int .u64 rx, .int .u64 ry]] w0 fun e w' => ∃ v, e = .returned (.tuple #[v, .int .i64 0]) ∧ w'.ownsRow w0.heap.size 5 1 v (encL ⟨4, rn, rf, rg, ro, ri, rc, rd, ⟨ra, rb, rx, ry⟩⟩).length (bts (encL ⟨4, rn, rf, rg, ro, ri, rc, rd, ⟨ra, rb, rx, ry⟩⟩)) ∧ Below w0.heap.size w0 w' := by
  obtain ⟨i0, hi0, hz0, hz1, hz2⟩ := info_parts Try.infoS
  obtain ⟨i1, hj0, hw0, hw1, hw2⟩ := info_parts Try.infoU8c
  obtain ⟨hkk, hmay⟩ := recE_kind _ hE
  have h8 : ro.length ≤ 8 := own_small _ hkk hmay
  have hn8 : n ≤ 8 := by omega
  have HSM := Lib.hid (rtexts_small _ hE)
  have HFL := Lib.hid (fwrite_len _ hE)
  have hc := fun W (hb : Below w0.heap.size w0 W) => pcheck_any 4 rn rf rg ro ri rc rd ra rb rx ry n hn A1 c1 W B1 (Nat.le_trans hB1 hb.size) (hr1.below (hb.mono hB1)) (by omega) hv hnl
  rw [hE] at hc
  have hTX := fun W (hb : Below w0.heap.size w0 W) => refText_any ro n hn A1 c1 W B1 (hr1.below (hb.mono hB1)) (Nat.le_trans hB1 hb.size) (by omega)
  obtain ⟨L, hL⟩ : ∃ L, L = encL ⟨4, rn, rf, rg, ro, ri, rc, rd, ⟨ra, rb, rx, ry⟩⟩ := ⟨_, rfl⟩
  have HLL : Hid (L = 4 :: (putL ((fwrite (rtexts ⟨4, rn, rf, rg, ro, ri, rc, rd, ⟨ra, rb, rx, ry⟩⟩)).length : Int) 2 ++ fwrite (rtexts ⟨4, rn, rf, rg, ro, ri, rc, rd, ⟨ra, rb, rx, ry⟩⟩))) := hL
  rw [← hL]
  obtain ⟨TX, hTX2⟩ : ∃ TX, TX = rtexts ⟨4, rn, rf, rg, ro, ri, rc, rd, ⟨ra, rb, rx, ry⟩⟩ := ⟨_, rfl⟩
  rw [← hTX2] at HSM HFL HLL
  obtain ⟨tl, htl⟩ : ∃ t, t = TX.length := ⟨_, rfl⟩
  have HTL := Lib.hid htl
  have HTXE := Lib.hid hTX2
  have HN := Lib.hid hn
  have hk := Blk.new w0 47 #[.int .i64 4, .string ⟨rn.toArray⟩, .int .i64 rf, .int .i64 rg, .slice A1 n c1, .int .i64 ri, .int .i64 rc, .string ⟨rd.toArray⟩, .int .u64 ra, .int .u64 rb, .int .u64 rx, .int .u64 ry]
  have hbel := (Below.refl w0.heap.size w0).alloc (Nat.le_refl _) (.cells #[.int .i64 4, .string ⟨rn.toArray⟩, .int .i64 rf, .int .i64 rg, .slice A1 n c1, .int .i64 ri, .int .i64 rc, .string ⟨rd.toArray⟩, .int .u64 ra, .int .u64 rb, .int .u64 rx, .int .u64 ry] 47)
  have HC := Lib.hid (hc _ hbel)
  have HTXT := Lib.hid hTX
  have HSMO := Lib.hid hsm
  clear hc hTX hL hTX2 htl hn hr1 hv hE hkk hmay h8 hsm
  go_enter Try.func13, Try.ntmps13
  go_wp2_with fail
  refine HC.out.mono ?_
  rintro e w1 ⟨rfl, hb1⟩
  have hk := hk.below hb1 hk.lt
  have hbel := hbel.trans (hb1.mono hbel.size)
  have hB0 : w0.heap.size ≤ w1.heap.size := hbel.size
  clear hb1 HC
  obtain ⟨c0_, c1_, c2_, c3_, c4_, c5_, c6_, c7_, c8_, c9_, c10_, c11_⟩ := blk12 hk
  have HTX := Lib.hid (fun W (hb : Below w1.heap.size w1 W) => HTXT.out W (hbel.trans (hb.mono hB0)))
  have hS := Lib.hid (fun (W' : World) (hB : Below w1.heap.size w1 W') => (blk12 (hk.below hB hk.lt) :
    W'.cell? ⟨w0.heap.size, 0, none⟩ = some (.int .i64 4) ∧ W'.cell? ⟨w0.heap.size, 1, none⟩ = some (.string ⟨rn.toArray⟩) ∧ W'.cell? ⟨w0.heap.size, 2, none⟩ = some (.int .i64 rf) ∧ W'.cell? ⟨w0.heap.size, 3, none⟩ = some (.int .i64 rg) ∧ W'.cell? ⟨w0.heap.size, 4, none⟩ = some (.slice A1 n c1) ∧ W'.cell? ⟨w0.heap.size, 5, none⟩ = some (.int .i64 ri) ∧ W'.cell? ⟨w0.heap.size, 6, none⟩ = some (.int .i64 rc) ∧ W'.cell? ⟨w0.heap.size, 7, none⟩ = some (.string ⟨rd.toArray⟩) ∧ W'.cell? ⟨w0.heap.size, 8, none⟩ = some (.int .u64 ra) ∧ W'.cell? ⟨w0.heap.size, 9, none⟩ = some (.int .u64 rb) ∧ W'.cell? ⟨w0.heap.size, 10, none⟩ = some (.int .u64 rx) ∧ W'.cell? ⟨w0.heap.size, 11, none⟩ = some (.int .u64 ry)))
  have HTXC : Hid (scells TX = scells [octL ra rb rx ry]) := by show _ = _; rw [HTXE.out]; simp [rtexts]
  have HTN : Hid (1 = tl) := by show _ = _; rw [HTL.out, HTXE.out]; simp [rtexts]
  have hoc := sumOctets_any ⟨ra, rb, rx, ry⟩ HSMO.out w1
  have HOC : Hid (Calls Try.prog 32 #[.agg #[.int .u64 ra, .int .u64 rb, .int .u64 rx, .int .u64 ry]] w1 _) := hoc
  clear hoc
  go_wp2_with fail
  refine HOC.out.mono ?_
  clear HOC
  rintro e w2 ⟨v2, rfl, hown2, hb2⟩
  obtain ⟨A2, cc2, rfl, _, _, hr2⟩ := own_form hown2
  have hst := str_of (P := Try.prog) (c := cc2) hr2 (octL_length _ _ _ _).symm Try.underlying27 Try.underlying5 Try.underlying9
  clear hown2 hr2
  go_upto_region 13 with (fail)
  have hbx : Below w1.heap.size w1 (w2.alloc (.cells #[.string ⟨(octL ra rb rx ry).toArray⟩] 9)) := hb2.alloc hb2.size _
  have hown : (w2.alloc (.cells #[.string ⟨(octL ra rb rx ry).toArray⟩] 9)).ownsRow w1.heap.size 9 1 (.slice (some ⟨w2.heap.size, 0, none⟩) 1 1) 1 (scells [octL ra rb rx ry]) := own_mono (own_lit w2 #[.string ⟨(octL ra rb rx ry).toArray⟩] 9 1 rfl (by decide)) hb2.size
  obtain ⟨W4, hW4⟩ : ∃ W4, W4 = w2.alloc (.cells #[.string ⟨(octL ra rb rx ry).toArray⟩] 9) := ⟨_, rfl⟩
  rw [← hW4] at hbx hown ⊢
  obtain ⟨V4, hV4⟩ : ∃ V4, V4 = Value.slice (some ⟨w2.heap.size, 0, none⟩) 1 1 := ⟨_, rfl⟩
  rw [← hV4] at hown ⊢
  clear hW4 hV4 hb2 hst
  have hown := own_cast hown HTN.out rfl
  obtain ⟨Al, cl, rfl, _, _, hrl⟩ := own_form hown
  have hbel := hbel.trans (hbx.mono hB0)
  have hkx := hk.below hbx hk.lt
  have HWR := Lib.hid (pwrite_any TX (fun s hs => Nat.le_trans (HSM.out.2 s hs) (by omega)) tl HTL.out Al cl _ _ (by rw [HTXC.out]; exact hrl) (Nat.le_refl _) (by have := HSM.out.1; have := HTL.out; omega))
  clear hown hrl hbx hk hS
  go_wp2_with fail
  refine HWR.out.mono ?_
  clear HWR
  rintro e w3 ⟨v3, rfl, hown3, hb3⟩
  obtain ⟨F, hF⟩ : ∃ F, F = fwrite TX := ⟨_, rfl⟩
  rw [← hF] at hown3
  obtain ⟨q, hq⟩ : ∃ q, q = F.length := ⟨_, rfl⟩
  rw [← hq] at hown3
  obtain ⟨Aw, cw, rfl, hw1', hw2', hr3⟩ := own_form hown3
  have hk := hkx.below hb3 hkx.lt
  have hbel := hbel.trans (hb3.mono hbel.size)
  have hB3 : w0.heap.size ≤ w3.heap.size := hbel.size
  have HPW := Lib.hid (fun (W' : World) (hb : Below w3.heap.size w3 W') => (show Reads W' W'.heap.size 1 Aw q (bts F) from up_reads' hr3 hb (Nat.le_refl _)))
  have HENC : Hid (L = 4 :: (putL (q : Int) 2 ++ F)) := by show _ = _; rw [HLL.out, hF, hq, hF]
  have HEL : Hid (L.length = 3 + q) := by show _ = _; rw [HENC.out, List.length_cons, List.length_append, putL_length, ← hq]; omega
  have hqs : q ≤ 700 := by rw [hq, hF]; exact HFL.out
  have hS := Lib.hid (fun (W' : World) (hB : Below w3.heap.size w3 W') => (blk12 (hk.below hB hk.lt) :
    W'.cell? ⟨w0.heap.size, 0, none⟩ = some (.int .i64 4) ∧ W'.cell? ⟨w0.heap.size, 1, none⟩ = some (.string ⟨rn.toArray⟩) ∧ W'.cell? ⟨w0.heap.size, 2, none⟩ = some (.int .i64 rf) ∧ W'.cell? ⟨w0.heap.size, 3, none⟩ = some (.int .i64 rg) ∧ W'.cell? ⟨w0.heap.size, 4, none⟩ = some (.slice A1 n c1) ∧ W'.cell? ⟨w0.heap.size, 5, none⟩ = some (.int .i64 ri) ∧ W'.cell? ⟨w0.heap.size, 6, none⟩ = some (.int .i64 rc) ∧ W'.cell? ⟨w0.heap.size, 7, none⟩ = some (.string ⟨rd.toArray⟩) ∧ W'.cell? ⟨w0.heap.size, 8, none⟩ = some (.int .u64 ra) ∧ W'.cell? ⟨w0.heap.size, 9, none⟩ = some (.int .u64 rb) ∧ W'.cell? ⟨w0.heap.size, 10, none⟩ = some (.int .u64 rx) ∧ W'.cell? ⟨w0.heap.size, 11, none⟩ = some (.int .u64 ry)))
  clear hk hkx hown3 hb3 hr3 hw1' hw2' hF hq
  go_wp2_with fail
  obtain ⟨val, hval⟩ : ∃ val : Nat → Option Value, val = fun i => [some (.pointer (some ⟨w0.heap.size, 0, none⟩)), some (.int .i64 4), some (.int .u8 4), none, some (.slice Aw q cw), some (.int .i64 (q : Int)), none, none, some (.slice Aw q cw), none, none, some (.int .i64 0)][i]?.join := ⟨_, rfl⟩
  obtain ⟨row, hrow⟩ : ∃ row : Nat → Option (TypeId × Nat × List Value), row = fun i => [none, none, none, some (5, 1, bts [4]), none, none, some (5, 2, bts (putL (q : Int) 2)), some (5, 1 + 2, bts [4] ++ bts (putL (q : Int) 2)), none, some (5, 1 + 2 + q, bts [4] ++ bts (putL (q : Int) 2) ++ bts F), some (5, 1 + 2 + q, bts [4] ++ bts (putL (q : Int) 2) ++ bts F), none][i]?.join := ⟨_, rfl⟩
  obtain ⟨user, husr⟩ : ∃ user : Nat → Option Nat, user = fun i => [none, none, none, some 7, none, none, none, some 9, none, some 10, none, none][i]?.join := ⟨_, rfl⟩
  have v0 : val 0 = some (.pointer (some ⟨w0.heap.size, 0, none⟩)) := by rw [hval]; rfl
  have r0 : row 0 = none := by rw [hrow]; rfl
  have u0 : user 0 = none := by rw [husr]; rfl
  have v1 : val 1 = some (.int .i64 4) := by rw [hval]; rfl
  have r1 : row 1 = none := by rw [hrow]; rfl
  have u1 : user 1 = none := by rw [husr]; rfl
  have v2 : val 2 = some (.int .u8 4) := by rw [hval]; rfl
  have r2 : row 2 = none := by rw [hrow]; rfl
  have u2 : user 2 = none := by rw [husr]; rfl
  have v3 : val 3 = none := by rw [hval]; rfl
  have r3 : row 3 = some (5, 1, bts [4]) := by rw [hrow]; rfl
  have u3 : user 3 = some 7 := by rw [husr]; rfl
  have v4 : val 4 = some (.slice Aw q cw) := by rw [hval]; rfl
  have r4 : row 4 = none := by rw [hrow]; rfl
  have u4 : user 4 = none := by rw [husr]; rfl
  have v5 : val 5 = some (.int .i64 (q : Int)) := by rw [hval]; rfl
  have r5 : row 5 = none := by rw [hrow]; rfl
  have u5 : user 5 = none := by rw [husr]; rfl
  have v6 : val 6 = none := by rw [hval]; rfl
  have r6 : row 6 = some (5, 2, bts (putL (q : Int) 2)) := by rw [hrow]; rfl
  have u6 : user 6 = none := by rw [husr]; rfl
  have v7 : val 7 = none := by rw [hval]; rfl
  have r7 : row 7 = some (5, 1 + 2, bts [4] ++ bts (putL (q : Int) 2)) := by rw [hrow]; rfl
  have u7 : user 7 = some 9 := by rw [husr]; rfl
  have v8 : val 8 = some (.slice Aw q cw) := by rw [hval]; rfl
  have r8 : row 8 = none := by rw [hrow]; rfl
  have u8 : user 8 = none := by rw [husr]; rfl
  have v9 : val 9 = none := by rw [hval]; rfl
  have r9 : row 9 = some (5, 1 + 2 + q, bts [4] ++ bts (putL (q : Int) 2) ++ bts F) := by rw [hrow]; rfl
  have u9 : user 9 = some 10 := by rw [husr]; rfl
  have v10 : val 10 = none := by rw [hval]; rfl
  have r10 : row 10 = some (5, 1 + 2 + q, bts [4] ++ bts (putL (q : Int) 2) ++ bts F) := by rw [hrow]; rfl
  have u10 : user 10 = none := by rw [husr]; rfl
  have v11 : val 11 = some (.int .i64 0) := by rw [hval]; rfl
  have r11 : row 11 = none := by rw [hrow]; rfl
  have u11 : user 11 = none := by rw [husr]; rfl
  clear hval hrow husr
  refine wp_region_inv (by kernel_rfl) (by kernel_rfl) (RowsK w3 val row user) RowsK.start ?_ ?_
  · intro i o ho m W hJ hmi hdeps AA KK hA hK
    rcases i with _ | _ | _ | _ | _ | _ | _ | _ | _ | _ | _ | _ | i
    · injection ho with ho
      subst ho
      have e4 : AA.tmps[1]?.getD undef = .pointer (some ⟨w0.heap.size, 0, none⟩) := by rw [hA]; exact tmps_free (by kernel_rfl)
      have hK0 : KK (AA.put (some 57) _) _ := hK _ _ (hJ.pure (Below.refl _ _) r0 (fun x hx => by rw [v0] at hx; exact Option.some.inj hx))
      clear hA hdeps hK v0 v1 v2 v3 v4 v5 v6 v7 v8 v9 v10 v11 r0 r1 r2 r3 r4 r5 r6 r7 r8 r9 r10 r11 u0 u1 u2 u3 u4 u5 u6 u7 u8 u9 u10 u11
      go_simp
      exact hK0
    · injection ho with ho
      subst ho
      have hx0 := hJ.det.get v0 (hdeps ⟨0, .data⟩ (by simp) rfl)
      have e0 : AA.tmps[57]?.getD undef = .pointer (some ⟨w0.heap.size, 0, none⟩) := by rw [hA]; exact tmps_own (by kernel_rfl) hx0 (of_decide_eq_true (by kernel_rfl))
      obtain ⟨c0_, c1_, c2_, c3_, c4_, c5_, c6_, c7_, c8_, c9_, c10_, c11_⟩ := hS.out W hJ.bel
      have hK0 : KK (AA.put (some 58) _) _ := hK _ _ (hJ.pure (Below.refl _ _) r1 (fun x hx => by rw [v1] at hx; exact Option.some.inj hx))
      clear hA hdeps hK v0 v1 v2 v3 v4 v5 v6 v7 v8 v9 v10 v11 r0 r1 r2 r3 r4 r5 r6 r7 r8 r9 r10 r11 u0 u1 u2 u3 u4 u5 u6 u7 u8 u9 u10 u11
      go_simp
      exact hK0
    · injection ho with ho
      subst ho
      have hx1 := hJ.det.get v1 (hdeps ⟨1, .data⟩ (by simp) rfl)
      have e1 : AA.tmps[58]?.getD undef = .int .i64 4 := by rw [hA]; exact tmps_own (by kernel_rfl) hx1 (of_decide_eq_true (by kernel_rfl))
      have hK0 : KK (AA.put (some 59) _) _ := hK _ _ (hJ.pure (Below.refl _ _) r2 (fun x hx => by rw [v2] at hx; exact Option.some.inj hx))
      clear hA hdeps hK v0 v1 v2 v3 v4 v5 v6 v7 v8 v9 v10 v11 r0 r1 r2 r3 r4 r5 r6 r7 r8 r9 r10 r11 u0 u1 u2 u3 u4 u5 u6 u7 u8 u9 u10 u11
      go_simp
      exact hK0
    · injection ho with ho
      subst ho
      have hx2 := hJ.det.get v2 (hdeps ⟨2, .data⟩ (by simp) rfl)
      have e2 : AA.tmps[59]?.getD undef = .int .u8 4 := by rw [hA]; exact tmps_own (by kernel_rfl) hx2 (of_decide_eq_true (by kernel_rfl))
      have hK0 : KK (AA.put (some 60) _) _ := hK _ _ (hJ.new (W' := W.alloc (.cells #[.int .u8 4] 5)) ((Below.refl _ _).alloc (Nat.le_refl _) _) r3 v3 (own_lit W #[.int .u8 4] 5 1 rfl (by decide)))
      clear hA hdeps hK v0 v1 v2 v3 v4 v5 v6 v7 v8 v9 v10 v11 r0 r1 r2 r3 r4 r5 r6 r7 r8 r9 r10 r11 u0 u1 u2 u3 u4 u5 u6 u7 u8 u9 u10 u11
      go_simp
      exact hK0
    · injection ho with ho
      subst ho
      have e6 : AA.tmps[6]?.getD undef = .slice Aw q cw := by rw [hA]; exact tmps_free (by kernel_rfl)
      have hK0 : KK (AA.put (some 61) _) _ := hK _ _ (hJ.pure (Below.refl _ _) r4 (fun x hx => by rw [v4] at hx; exact Option.some.inj hx))
      clear hA hdeps hK v0 v1 v2 v3 v4 v5 v6 v7 v8 v9 v10 v11 r0 r1 r2 r3 r4 r5 r6 r7 r8 r9 r10 r11 u0 u1 u2 u3 u4 u5 u6 u7 u8 u9 u10 u11
      go_simp
      exact hK0
    · injection ho with ho
      subst ho
      have hx4 := hJ.det.get v4 (hdeps ⟨4, .data⟩ (by simp) rfl)
      have e4 : AA.tmps[61]?.getD undef = .slice Aw q cw := by rw [hA]; exact tmps_own (by kernel_rfl) hx4 (of_decide_eq_true (by kernel_rfl))
      have hK0 : KK (AA.put (some 62) _) _ := hK _ _ (hJ.pure (Below.refl _ _) r5 (fun x hx => by rw [v5] at hx; exact Option.some.inj hx))
      clear hA hdeps hK v0 v1 v2 v3 v4 v5 v6 v7 v8 v9 v10 v11 r0 r1 r2 r3 r4 r5 r6 r7 r8 r9 r10 r11 u0 u1 u2 u3 u4 u5 u6 u7 u8 u9 u10 u11
      go_simp
      exact hK0
    · injection ho with ho
      subst ho
      have hx5 := hJ.det.get v5 (hdeps ⟨5, .data⟩ (by simp) rfl)
      have e5 : AA.tmps[62]?.getD undef = .int .i64 (q : Int) := by rw [hA]; exact tmps_own (by kernel_rfl) hx5 (of_decide_eq_true (by kernel_rfl))
      have hKK := Lib.hid hK
      have HV := Lib.hid v6
      have HR := Lib.hid r6
      clear hA hdeps hK v0 v1 v2 v3 v4 v5 v6 v7 v8 v9 v10 v11 r0 r1 r2 r3 r4 r5 r6 r7 r8 r9 r10 r11 u0 u1 u2 u3 u4 u5 u6 u7 u8 u9 u10 u11
      go_simp
      refine (pput2_any (q : Int) W).mono ?_
      rintro e w5 ⟨v, rfl, hown, hbn⟩
      exact hKK.out _ _ (hJ.new hbn HR.out HV.out hown)
    · injection ho with ho
      subst ho
      obtain ⟨xp, hxp⟩ := Option.isSome_iff_exists.1 (hdeps ⟨3, .data⟩ (by simp) rfl)
      have ep : AA.tmps[60]?.getD undef = xp := by rw [hA]; exact tmps_own (by kernel_rfl) hxp (of_decide_eq_true (by kernel_rfl))
      obtain ⟨xq, hxq⟩ := Option.isSome_iff_exists.1 (hdeps ⟨6, .data⟩ (by simp) rfl)
      have eq : AA.tmps[63]?.getD undef = xq := by rw [hA]; exact tmps_own (by kernel_rfl) hxq (of_decide_eq_true (by kernel_rfl))
      have hop := hJ.own 3 xp _ hxp r3 (LiveK.of u3 hmi)
      have hoq := hJ.own 6 xq _ hxq r6 (fun u hu => by rw [u6] at hu; cases hu)
      obtain ⟨Aq, cq, rfl, _, _, hrq⟩ := own_form hoq
      have htk := fun (v : Value) (W' : World) => hJ.take (W' := W') (v := v) u3 r3 r7 hxp hmi v7
      have hKK := Lib.hid hK
      clear hA hdeps hK v0 v1 v2 v3 v4 v5 v6 v7 v8 v9 v10 v11 r0 r1 r2 r3 r4 r5 r6 r7 r8 r9 r10 r11 u0 u1 u2 u3 u4 u5 u6 u7 u8 u9 u10 u11
      refine step_append_any W rfl (.tmp 60) (.tmp 63) _ rfl w3.heap.size 5 i1 (.int .u8 0) 1 1 Try.underlying27 hj0 hw0 hw1 hw2 rfl (by decide) xp (1) _ ?_ hop W.heap.size Aq (2) cq _ ?_ hrq (by intro u hu; first | exact scells_one _ u hu | exact bts_one _ u hu) (by unfold maxLen; omega) (by omega) hJ.bel.size ?_
      · simpa [Act.eval] using ep
      · simpa [Act.eval] using eq
      · intro v' w' h1 h2 h3
        exact hKK.out _ _ (htk v' w' h2 h1 h3)
    · injection ho with ho
      subst ho
      have e6 : AA.tmps[6]?.getD undef = .slice Aw q cw := by rw [hA]; exact tmps_free (by kernel_rfl)
      have hK0 : KK (AA.put (some 65) _) _ := hK _ _ (hJ.pure (Below.refl _ _) r8 (fun x hx => by rw [v8] at hx; exact Option.some.inj hx))
      clear hA hdeps hK v0 v1 v2 v3 v4 v5 v6 v7 v8 v9 v10 v11 r0 r1 r2 r3 r4 r5 r6 r7 r8 r9 r10 r11 u0 u1 u2 u3 u4 u5 u6 u7 u8 u9 u10 u11
      go_simp
      exact hK0
    · injection ho with ho
      subst ho
      obtain ⟨xp, hxp⟩ := Option.isSome_iff_exists.1 (hdeps ⟨7, .data⟩ (by simp) rfl)
      have ep : AA.tmps[64]?.getD undef = xp := by rw [hA]; exact tmps_own (by kernel_rfl) hxp (of_decide_eq_true (by kernel_rfl))
      have hx8 := hJ.det.get v8 (hdeps ⟨8, .data⟩ (by simp) rfl)
      have e8 : AA.tmps[65]?.getD undef = .slice Aw q cw := by rw [hA]; exact tmps_own (by kernel_rfl) hx8 (of_decide_eq_true (by kernel_rfl))
      have hop := hJ.own 7 xp _ hxp r7 (LiveK.of u7 hmi)
      have hrq := HPW.out W hJ.bel
      have htk := fun (v : Value) (W' : World) => hJ.take (W' := W') (v := v) u7 r7 r9 hxp hmi v9
      have hKK := Lib.hid hK
      clear hA hdeps hK v0 v1 v2 v3 v4 v5 v6 v7 v8 v9 v10 v11 r0 r1 r2 r3 r4 r5 r6 r7 r8 r9 r10 r11 u0 u1 u2 u3 u4 u5 u6 u7 u8 u9 u10 u11
      refine step_append_any W rfl (.tmp 64) (.tmp 65) _ rfl w3.heap.size 5 i1 (.int .u8 0) 1 1 Try.underlying27 hj0 hw0 hw1 hw2 rfl (by decide) xp (1 + 2) _ ?_ hop W.heap.size Aw (q) cw _ ?_ hrq (by intro u hu; first | exact scells_one _ u hu | exact bts_one _ u hu) (by unfold maxLen; omega) (by omega) (Nat.le_trans (Nat.le_refl _) hJ.bel.size) ?_
      · simpa [Act.eval] using ep
      · simpa [Act.eval] using e8
      · intro v' w' h1 h2 h3
        exact hKK.out _ _ (htk v' w' h2 h1 h3)
    · injection ho with ho
      subst ho
      obtain ⟨xp, hxp⟩ := Option.isSome_iff_exists.1 (hdeps ⟨9, .data⟩ (by simp) rfl)
      have ep : AA.tmps[66]?.getD undef = xp := by rw [hA]; exact tmps_own (by kernel_rfl) hxp (of_decide_eq_true (by kernel_rfl))
      have hop := hJ.own 9 xp _ hxp r9 (LiveK.of u9 hmi)
      have hK0 : KK (AA.put (some 2) _) _ := hK xp W (hJ.take u9 r9 r10 hxp hmi v10 (World.grownBy.refl _ _) hop (.inl rfl))
      clear hA hdeps hK v0 v1 v2 v3 v4 v5 v6 v7 v8 v9 v10 v11 r0 r1 r2 r3 r4 r5 r6 r7 r8 r9 r10 r11 u0 u1 u2 u3 u4 u5 u6 u7 u8 u9 u10 u11
      go_simp
      exact hK0
    · injection ho with ho
      subst ho
      have hK0 : KK (AA.put (some 3) _) _ := hK _ _ (hJ.pure (Below.refl _ _) r11 (fun x hx => by rw [v11] at hx; exact Option.some.inj hx))
      clear hA hdeps hK v0 v1 v2 v3 v4 v5 v6 v7 v8 v9 v10 v11 r0 r1 r2 r3 r4 r5 r6 r7 r8 r9 r10 r11 u0 u1 u2 u3 u4 u5 u6 u7 u8 u9 u10 u11
      go_simp
      exact hK0
    · simp at ho
  · intro m W hJ hall
    have m0 := hJ.det.get v0 (hall 0 (by simp))
    have m1 := hJ.det.get v1 (hall 1 (by simp))
    have m2 := hJ.det.get v2 (hall 2 (by simp))
    obtain ⟨x3, m3⟩ := Option.isSome_iff_exists.1 (hall 3 (by simp))
    have m4 := hJ.det.get v4 (hall 4 (by simp))
    have m5 := hJ.det.get v5 (hall 5 (by simp))
    obtain ⟨x6, m6⟩ := Option.isSome_iff_exists.1 (hall 6 (by simp))
    obtain ⟨x7, m7⟩ := Option.isSome_iff_exists.1 (hall 7 (by simp))
    have m8 := hJ.det.get v8 (hall 8 (by simp))
    obtain ⟨x9, m9⟩ := Option.isSome_iff_exists.1 (hall 9 (by simp))
    obtain ⟨x10, m10⟩ := Option.isSome_iff_exists.1 (hall 10 (by simp))
    have m11 := hJ.det.get v11 (hall 11 (by simp))
    have hown := hJ.own 10 x10 _ m10 r10 (fun u hu => by rw [u10] at hu; cases hu)
    have hbx := hJ.bel
    rw [frameM_all (by kernel_rfl) [.pointer (some ⟨w0.heap.size, 0, none⟩), .int .i64 4, .int .u8 4, x3, .slice Aw q cw, .int .i64 (q : Int), x6, x7, .slice Aw q cw, x9, x10, .int .i64 0] rfl (fun i hi => by
        rcases i with _ | _ | _ | _ | _ | _ | _ | _ | _ | _ | _ | _ | i
        · exact m0
        · exact m1
        · exact m2
        · exact m3
        · exact m4
        · exact m5
        · exact m6
        · exact m7
        · exact m8
        · exact m9
        · exact m10
        · exact m11
        · simp at hi; omega)]
    clear hJ hall m0 m1 m2 m3 m4 m5 m6 m7 m8 m9 m10 m11 v0 v1 v2 v3 v4 v5 v6 v7 v8 v9 v10 v11 r0 r1 r2 r3 r4 r5 r6 r7 r8 r9 r10 r11 u0 u1 u2 u3 u4 u5 u6 u7 u8 u9 u10 u11
    simp only [putAll, Act.put, List.setIfInBounds_toArray, List.set_cons_succ, List.set_cons_zero]
    repeat go_step
    go_ret2
    exact ⟨_, rfl, own_cast (own_mono hown hB3) (show 1 + 2 + q = L.length by have := HEL.out; omega) (show bts [4] ++ bts (putL (q : Int) 2) ++ bts F = bts L by rw [HENC.out]; simp [bts]), hbel.trans (hbx.mono hB3)⟩

theorem penc_any (r : Rc) (n : Nat) (hn : n = r.own.length) (A1 : Option Addr) (c1 : Nat) (w0 : World) (B1 : Nat) (hB1 : B1 ≤ w0.heap.size) (hr1 : Reads w0 B1 2 A1 n (pcells r.own)) (hn5 : n ≤ 5000000000000) (hv : strOk r.own) (hnl : r.nm.length ≤ 140737488351232) (hsm : r.sm.ok) :
    Calls Try.prog 13 #[rcV r (.slice A1 n c1)] w0 (EncPost w0 r) := by
  by_cases hE : recE r = 0
  · obtain ⟨hkk, _⟩ := recE_kind _ hE
    suffices hsu : Calls Try.prog 13 #[rcV r (.slice A1 n c1)] w0 (fun e w' => ∃ v, e = .returned (.tuple #[v, .int .i64 0]) ∧ w'.ownsRow w0.heap.size 5 1 v (encL r).length (bts (encL r)) ∧ Below w0.heap.size w0 w') from
      hsu.mono (fun e w' ⟨v, h1, h2, h3⟩ => ⟨v, by rw [hE]; exact h1, by rw [if_pos hE]; exact h2, h3⟩)
    obtain ⟨rk, rn, rf, rg, ro, ri, rc, rd, ⟨ra, rb, rx, ry⟩⟩ := r
    simp only at hkk hn hr1 hv hnl
    rcases hkk with rfl | rfl | rfl | rfl
    · exact penc1_any rn rf rg ro ri rc rd ra rb rx ry n hn A1 c1 w0 B1 hB1 hr1 hv hnl hsm hE
    · exact penc2_any rn rf rg ro ri rc rd ra rb rx ry n hn A1 c1 w0 B1 hB1 hr1 hv hnl hsm hE
    · exact penc3_any rn rf rg ro ri rc rd ra rb rx ry n hn A1 c1 w0 B1 hB1 hr1 hv hnl hsm hE
    · exact penc4_any rn rf rg ro ri rc rd ra rb rx ry n hn A1 c1 w0 B1 hB1 hr1 hv hnl hsm hE
  · obtain ⟨rk, rn, rf, rg, ro, ri, rc, rd, ⟨ra, rb, rx, ry⟩⟩ := r
    simp only at hn hr1 hv hnl
    have hc := fun W (hb : Below w0.heap.size w0 W) => pcheck_any rk rn rf rg ro ri rc rd ra rb rx ry n hn A1 c1 W B1 (Nat.le_trans hB1 hb.size) (hr1.below (hb.mono hB1)) hn5 hv hnl
    obtain ⟨E, hEE⟩ : ∃ E, E = recE ⟨rk, rn, rf, rg, ro, ri, rc, rd, ⟨ra, rb, rx, ry⟩⟩ := ⟨_, rfl⟩
    unfold EncPost
    rw [← hEE] at hE hc ⊢
    have hb0 : Below w0.heap.size w0 (w0.alloc (.cells #[.int .i64 rk, .string ⟨rn.toArray⟩, .int .i64 rf, .int .i64 rg, .slice A1 n c1, .int .i64 ri, .int .i64 rc, .string ⟨rd.toArray⟩, .int .u64 ra, .int .u64 rb, .int .u64 rx, .int .u64 ry] 47)) := (Below.refl _ _).alloc (Nat.le_refl _) _
    have HC := Lib.hid (hc _ hb0)
    have HB := Lib.hid hb0
    have hd : (E != 0) = true := by simp [hE]
    have HE := Lib.hid hE
    clear hc hb0 hE hEE hn hr1 hv
    show Calls _ _ #[.agg #[.int .i64 rk, .string ⟨rn.toArray⟩, .int .i64 rf, .int .i64 rg, .slice A1 n c1, .int .i64 ri, .int .i64 rc, .string ⟨rd.toArray⟩, .int .u64 ra, .int .u64 rb, .int .u64 rx, .int .u64 ry]] _ _
    go_enter Try.func13, Try.ntmps13
    go_wp2_with fail
    refine HC.out.mono ?_
    rintro e w1 ⟨rfl, hb1⟩
    have hb := HB.out.trans (hb1.mono HB.out.size)
    clear hb1
    go_wp2_with fail
    go_ret2
    exact ⟨_, rfl, by first | rfl | (rw [if_neg HE.out]; rfl), hb⟩
end Go.Proofs.Ytcbeadldieeceaa
