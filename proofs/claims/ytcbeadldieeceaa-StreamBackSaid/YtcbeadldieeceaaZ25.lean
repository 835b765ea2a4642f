/-
  The page's octets of a sum, by their contract.
-/
import Derived.Test.YtcbeadldieeceaaZ24
namespace Go.Proofs.Ytcbeadldieeceaa
open Go.RowKit

theorem putL8_wrap (n : Int) : putL (IntKind.i64.wrap n) 8 = putL n 8 := by
  have hc : ∀ a b : Int, a % 256 = b % 256 → toByte a = toByte b := fun a b h => by unfold toByte; rw [h]
  rw [putL8r, putL8r, IntKind.wrap_i64]
  congr 1
  · exact hc _ _ (by omega)
  congr 1
  · exact hc _ _ (by omega)
  congr 1
  · exact hc _ _ (by omega)
  congr 1
  · exact hc _ _ (by omega)
  congr 1
  · exact hc _ _ (by omega)
  congr 1
  · exact hc _ _ (by omega)
  congr 1
  · exact hc _ _ (by omega)
  congr 1
  · exact hc _ _ (by omega)

set_option maxRecDepth 100000 in
set_option maxHeartbeats 1000000 in
theorem sumOctets_any (s : Sm) (hs : s.ok) (w0 : World) :
    Calls Try.prog 32 #[s.val] w0 fun e w' => ∃ v, e = .returned v ∧ w'.ownsRow w0.heap.size 5 1 v 32 (bts (octL s.a s.b s.c s.d)) ∧ Below w0.heap.size w0 w' := by
  obtain ⟨i0, hi0, hz0, hz1, hz2⟩ := info_parts Try.infoU8c
  obtain ⟨hs0, hs1, hs2, hs3⟩ := hs
  obtain ⟨sa, sb, sc, sd⟩ := s
  simp only at hs0 hs1 hs2 hs3 ⊢
  have hfin := Lib.hid (show octL sa sb sc sd = putL sa 8 ++ putL sb 8 ++ putL sc 8 ++ putL sd 8 by simp [octL, putL8_wrap])
  show Calls _ _ #[.agg #[.int .u64 sa, .int .u64 sb, .int .u64 sc, .int .u64 sd]] _ _
  go_enter Try.func32, Try.ntmps32
  go_wp2_with fail
  have hk := Blk.new w0 42 #[.int .u64 sa, .int .u64 sb, .int .u64 sc, .int .u64 sd]
  have hbel := (Below.refl w0.heap.size w0).alloc (Nat.le_refl _) (.cells #[.int .u64 sa, .int .u64 sb, .int .u64 sc, .int .u64 sd] 42)
  generalize w0.alloc (.cells #[.int .u64 sa, .int .u64 sb, .int .u64 sc, .int .u64 sd] 42) = w1 at hk hbel ⊢
  have hB0 : w0.heap.size ≤ w1.heap.size := hbel.size
  have hS := Lib.hid (fun (W' : World) (hB : Below w1.heap.size w1 W') => (by obtain ⟨d0, d1, d2, d3, _⟩ := blk4 (hk.below hB hk.lt); exact ⟨d0, d1, d2, d3⟩ :
    W'.cell? ⟨w0.heap.size, 0, none⟩ = some (.int .u64 sa) ∧ W'.cell? ⟨w0.heap.size, 1, none⟩ = some (.int .u64 sb) ∧ W'.cell? ⟨w0.heap.size, 2, none⟩ = some (.int .u64 sc) ∧ W'.cell? ⟨w0.heap.size, 3, none⟩ = some (.int .u64 sd)))
  clear hk
  obtain ⟨val, hval⟩ : ∃ val : Nat → Option Value, val = fun i => [some (.pointer (some ⟨w0.heap.size, 0, none⟩)), some (.int .u64 sa), none, some (.pointer (some ⟨w0.heap.size, 1, none⟩)), some (.int .u64 sb), none, none, some (.pointer (some ⟨w0.heap.size, 2, none⟩)), some (.int .u64 sc), none, none, some (.pointer (some ⟨w0.heap.size, 3, none⟩)), some (.int .u64 sd), none, none, none][i]?.join := ⟨_, rfl⟩
  obtain ⟨row, hrow⟩ : ∃ row : Nat → Option (Nat × List UInt8), row = fun i => [none, none, some (8, putL sa 8), none, none, some (8, putL sb 8), some (16, putL sa 8 ++ putL sb 8), none, none, some (8, putL sc 8), some (24, putL sa 8 ++ putL sb 8 ++ putL sc 8), none, none, some (8, putL sd 8), some (32, putL sa 8 ++ putL sb 8 ++ putL sc 8 ++ putL sd 8), some (32, putL sa 8 ++ putL sb 8 ++ putL sc 8 ++ putL sd 8)][i]?.join := ⟨_, rfl⟩
  obtain ⟨user, husr⟩ : ∃ user : Nat → Option Nat, user = fun i => [none, none, some 6, none, none, none, some 10, none, none, none, some 14, none, none, none, some 15, none][i]?.join := ⟨_, rfl⟩
  have v0 : val 0 = some (.pointer (some ⟨w0.heap.size, 0, none⟩)) := by rw [hval]; rfl
  have v1 : val 1 = some (.int .u64 sa) := by rw [hval]; rfl
  have v2 : val 2 = none := by rw [hval]; rfl
  have v3 : val 3 = some (.pointer (some ⟨w0.heap.size, 1, none⟩)) := by rw [hval]; rfl
  have v4 : val 4 = some (.int .u64 sb) := by rw [hval]; rfl
  have v5 : val 5 = none := by rw [hval]; rfl
  have v6 : val 6 = none := by rw [hval]; rfl
  have v7 : val 7 = some (.pointer (some ⟨w0.heap.size, 2, none⟩)) := by rw [hval]; rfl
  have v8 : val 8 = some (.int .u64 sc) := by rw [hval]; rfl
  have v9 : val 9 = none := by rw [hval]; rfl
  have v10 : val 10 = none := by rw [hval]; rfl
  have v11 : val 11 = some (.pointer (some ⟨w0.heap.size, 3, none⟩)) := by rw [hval]; rfl
  have v12 : val 12 = some (.int .u64 sd) := by rw [hval]; rfl
  have v13 : val 13 = none := by rw [hval]; rfl
  have v14 : val 14 = none := by rw [hval]; rfl
  have v15 : val 15 = none := by rw [hval]; rfl
  have r0 : row 0 = none := by rw [hrow]; rfl
  have r1 : row 1 = none := by rw [hrow]; rfl
  have r2 : row 2 = some (8, putL sa 8) := by rw [hrow]; rfl
  have r3 : row 3 = none := by rw [hrow]; rfl
  have r4 : row 4 = none := by rw [hrow]; rfl
  have r5 : row 5 = some (8, putL sb 8) := by rw [hrow]; rfl
  have r6 : row 6 = some (16, putL sa 8 ++ putL sb 8) := by rw [hrow]; rfl
  have r7 : row 7 = none := by rw [hrow]; rfl
  have r8 : row 8 = none := by rw [hrow]; rfl
  have r9 : row 9 = some (8, putL sc 8) := by rw [hrow]; rfl
  have r10 : row 10 = some (24, putL sa 8 ++ putL sb 8 ++ putL sc 8) := by rw [hrow]; rfl
  have r11 : row 11 = none := by rw [hrow]; rfl
  have r12 : row 12 = none := by rw [hrow]; rfl
  have r13 : row 13 = some (8, putL sd 8) := by rw [hrow]; rfl
  have r14 : row 14 = some (32, putL sa 8 ++ putL sb 8 ++ putL sc 8 ++ putL sd 8) := by rw [hrow]; rfl
  have r15 : row 15 = some (32, putL sa 8 ++ putL sb 8 ++ putL sc 8 ++ putL sd 8) := by rw [hrow]; rfl
  have u2 : user 2 = some 6 := by rw [husr]; rfl
  have u6 : user 6 = some 10 := by rw [husr]; rfl
  have u10 : user 10 = some 14 := by rw [husr]; rfl
  have u14 : user 14 = some 15 := by rw [husr]; rfl
  have un5 : user 5 = none := by rw [husr]; rfl
  have un9 : user 9 = none := by rw [husr]; rfl
  have un13 : user 13 = none := by rw [husr]; rfl
  have un15 : user 15 = none := by rw [husr]; rfl
  clear hval hrow husr
  refine wp_region_inv (by kernel_rfl) (by kernel_rfl) (RowsJ w1 val row user) RowsJ.start ?_ ?_
  · intro i o ho m W hJ hmi hdeps AA KK hA hK
    rcases i with _ | _ | _ | _ | _ | _ | _ | _ | _ | _ | _ | _ | _ | _ | _ | _ | i
    · injection ho with ho
      subst ho
      have e4 : AA.tmps[1]?.getD undef = .pointer (some ⟨w0.heap.size, 0, none⟩) := by rw [hA]; exact tmps_free (by kernel_rfl)
      have hK0 : KK (AA.put (some 3) _) _ := hK _ _ (hJ.pure (Below.refl _ _) r0 (fun x hx => by rw [v0] at hx; exact Option.some.inj hx))
      clear hA hdeps hK v0 v1 v2 v3 v4 v5 v6 v7 v8 v9 v10 v11 v12 v13 v14 v15 r0 r1 r2 r3 r4 r5 r6 r7 r8 r9 r10 r11 r12 r13 r14 r15 u2 u6 u10 u14
      go_simp
      exact hK0
    · injection ho with ho
      subst ho
      have hx0 := hJ.det.get v0 (hdeps ⟨0, .data⟩ (by simp) rfl)
      have e0 : AA.tmps[3]?.getD undef = .pointer (some ⟨w0.heap.size, 0, none⟩) := by rw [hA]; exact tmps_own (by kernel_rfl) hx0 (of_decide_eq_true (by kernel_rfl))
      obtain ⟨c0, c1, c2, c3⟩ := hS.out W hJ.bel
      have hK0 : KK (AA.put (some 4) _) _ := hK _ _ (hJ.pure (Below.refl _ _) r1 (fun x hx => by rw [v1] at hx; exact Option.some.inj hx))
      clear hA hdeps hK v0 v1 v2 v3 v4 v5 v6 v7 v8 v9 v10 v11 v12 v13 v14 v15 r0 r1 r2 r3 r4 r5 r6 r7 r8 r9 r10 r11 r12 r13 r14 r15 u2 u6 u10 u14
      go_simp
      exact hK0
    · injection ho with ho
      subst ho
      have hx1 := hJ.det.get v1 (hdeps ⟨1, .data⟩ (by simp) rfl)
      have e1 : AA.tmps[4]?.getD undef = .int .u64 sa := by rw [hA]; exact tmps_own (by kernel_rfl) hx1 (of_decide_eq_true (by kernel_rfl))
      have hKK := Lib.hid hK
      have HV := Lib.hid v2
      have HR := Lib.hid r2
      clear hA hdeps hK v0 v1 v2 v3 v4 v5 v6 v7 v8 v9 v10 v11 v12 v13 v14 v15 r0 r1 r2 r3 r4 r5 r6 r7 r8 r9 r10 r11 r12 r13 r14 r15 u2 u6 u10 u14
      go_simp
      refine (eight_any sa hs0 _).mono ?_
      rintro e w5 ⟨v, rfl, hown, hbn⟩
      exact hKK.out _ _ (hJ.new hbn HR.out HV.out hown)
    · injection ho with ho
      subst ho
      have e4 : AA.tmps[1]?.getD undef = .pointer (some ⟨w0.heap.size, 0, none⟩) := by rw [hA]; exact tmps_free (by kernel_rfl)
      have hK0 : KK (AA.put (some 6) _) _ := hK _ _ (hJ.pure (Below.refl _ _) r3 (fun x hx => by rw [v3] at hx; exact Option.some.inj hx))
      clear hA hdeps hK v0 v1 v2 v3 v4 v5 v6 v7 v8 v9 v10 v11 v12 v13 v14 v15 r0 r1 r2 r3 r4 r5 r6 r7 r8 r9 r10 r11 r12 r13 r14 r15 u2 u6 u10 u14
      go_simp
      exact hK0
    · injection ho with ho
      subst ho
      have hx3 := hJ.det.get v3 (hdeps ⟨3, .data⟩ (by simp) rfl)
      have e3 : AA.tmps[6]?.getD undef = .pointer (some ⟨w0.heap.size, 1, none⟩) := by rw [hA]; exact tmps_own (by kernel_rfl) hx3 (of_decide_eq_true (by kernel_rfl))
      obtain ⟨c0, c1, c2, c3⟩ := hS.out W hJ.bel
      have hK0 : KK (AA.put (some 7) _) _ := hK _ _ (hJ.pure (Below.refl _ _) r4 (fun x hx => by rw [v4] at hx; exact Option.some.inj hx))
      clear hA hdeps hK v0 v1 v2 v3 v4 v5 v6 v7 v8 v9 v10 v11 v12 v13 v14 v15 r0 r1 r2 r3 r4 r5 r6 r7 r8 r9 r10 r11 r12 r13 r14 r15 u2 u6 u10 u14
      go_simp
      exact hK0
    · injection ho with ho
      subst ho
      have hx4 := hJ.det.get v4 (hdeps ⟨4, .data⟩ (by simp) rfl)
      have e4 : AA.tmps[7]?.getD undef = .int .u64 sb := by rw [hA]; exact tmps_own (by kernel_rfl) hx4 (of_decide_eq_true (by kernel_rfl))
      have hKK := Lib.hid hK
      have HV := Lib.hid v5
      have HR := Lib.hid r5
      clear hA hdeps hK v0 v1 v2 v3 v4 v5 v6 v7 v8 v9 v10 v11 v12 v13 v14 v15 r0 r1 r2 r3 r4 r5 r6 r7 r8 r9 r10 r11 r12 r13 r14 r15 u2 u6 u10 u14
      go_simp
      refine (eight_any sb hs1 _).mono ?_
      rintro e w5 ⟨v, rfl, hown, hbn⟩
      exact hKK.out _ _ (hJ.new hbn HR.out HV.out hown)
    · injection ho with ho
      subst ho
      obtain ⟨xp, hxp⟩ := Option.isSome_iff_exists.1 (hdeps ⟨2, .data⟩ (by simp) rfl)
      obtain ⟨xq, hxq⟩ := Option.isSome_iff_exists.1 (hdeps ⟨5, .data⟩ (by simp) rfl)
      have ep : AA.tmps[5]?.getD undef = xp := by rw [hA]; exact tmps_own (by kernel_rfl) hxp (of_decide_eq_true (by kernel_rfl))
      have eq : AA.tmps[8]?.getD undef = xq := by rw [hA]; exact tmps_own (by kernel_rfl) hxq (of_decide_eq_true (by kernel_rfl))
      have hop := hJ.own 2 xp _ hxp r2 (Live.of u2 hmi)
      have hoq := hJ.own 5 xq _ hxq r5 (fun u hu => by rw [un5] at hu; cases hu)
      obtain ⟨Aq, cq, rfl, _, _, hrq⟩ := own_form hoq
      have htk := fun (v : Value) (W' : World) => hJ.take (W' := W') (v := v) u2 r2 r6 hxp hmi v6
      have hKK := Lib.hid hK
      clear hA hdeps hK v0 v1 v2 v3 v4 v5 v6 v7 v8 v9 v10 v11 v12 v13 v14 v15 r0 r1 r2 r3 r4 r5 r6 r7 r8 r9 r10 r11 r12 r13 r14 r15 u2 u6 u10 u14
      refine step_append_any W rfl (.tmp 5) (.tmp 8) _ rfl w1.heap.size 5 i0 _ 1 1 Try.underlying27 hi0 hz0 hz1 hz2 rfl (by omega) xp 8 _ ?_ hop W.heap.size Aq 8 cq _ ?_ hrq (bts_one _) (by unfold maxLen; omega) (by omega) hJ.bel.size ?_
      · simpa [Act.eval] using ep
      · simpa [Act.eval] using eq
      · intro v' w' h1 h2 h3
        exact hKK.out _ _ (htk v' w' h2 (by simpa [bts_append] using h1) h3)
    · injection ho with ho
      subst ho
      have e4 : AA.tmps[1]?.getD undef = .pointer (some ⟨w0.heap.size, 0, none⟩) := by rw [hA]; exact tmps_free (by kernel_rfl)
      have hK0 : KK (AA.put (some 10) _) _ := hK _ _ (hJ.pure (Below.refl _ _) r7 (fun x hx => by rw [v7] at hx; exact Option.some.inj hx))
      clear hA hdeps hK v0 v1 v2 v3 v4 v5 v6 v7 v8 v9 v10 v11 v12 v13 v14 v15 r0 r1 r2 r3 r4 r5 r6 r7 r8 r9 r10 r11 r12 r13 r14 r15 u2 u6 u10 u14
      go_simp
      exact hK0
    · injection ho with ho
      subst ho
      have hx7 := hJ.det.get v7 (hdeps ⟨7, .data⟩ (by simp) rfl)
      have e7 : AA.tmps[10]?.getD undef = .pointer (some ⟨w0.heap.size, 2, none⟩) := by rw [hA]; exact tmps_own (by kernel_rfl) hx7 (of_decide_eq_true (by kernel_rfl))
      obtain ⟨c0, c1, c2, c3⟩ := hS.out W hJ.bel
      have hK0 : KK (AA.put (some 11) _) _ := hK _ _ (hJ.pure (Below.refl _ _) r8 (fun x hx => by rw [v8] at hx; exact Option.some.inj hx))
      clear hA hdeps hK v0 v1 v2 v3 v4 v5 v6 v7 v8 v9 v10 v11 v12 v13 v14 v15 r0 r1 r2 r3 r4 r5 r6 r7 r8 r9 r10 r11 r12 r13 r14 r15 u2 u6 u10 u14
      go_simp
      exact hK0
    · injection ho with ho
      subst ho
      have hx8 := hJ.det.get v8 (hdeps ⟨8, .data⟩ (by simp) rfl)
      have e8 : AA.tmps[11]?.getD undef = .int .u64 sc := by rw [hA]; exact tmps_own (by kernel_rfl) hx8 (of_decide_eq_true (by kernel_rfl))
      have hKK := Lib.hid hK
      have HV := Lib.hid v9
      have HR := Lib.hid r9
      clear hA hdeps hK v0 v1 v2 v3 v4 v5 v6 v7 v8 v9 v10 v11 v12 v13 v14 v15 r0 r1 r2 r3 r4 r5 r6 r7 r8 r9 r10 r11 r12 r13 r14 r15 u2 u6 u10 u14
      go_simp
      refine (eight_any sc hs2 _).mono ?_
      rintro e w5 ⟨v, rfl, hown, hbn⟩
      exact hKK.out _ _ (hJ.new hbn HR.out HV.out hown)
    · injection ho with ho
      subst ho
      obtain ⟨xp, hxp⟩ := Option.isSome_iff_exists.1 (hdeps ⟨6, .data⟩ (by simp) rfl)
      obtain ⟨xq, hxq⟩ := Option.isSome_iff_exists.1 (hdeps ⟨9, .data⟩ (by simp) rfl)
      have ep : AA.tmps[9]?.getD undef = xp := by rw [hA]; exact tmps_own (by kernel_rfl) hxp (of_decide_eq_true (by kernel_rfl))
      have eq : AA.tmps[12]?.getD undef = xq := by rw [hA]; exact tmps_own (by kernel_rfl) hxq (of_decide_eq_true (by kernel_rfl))
      have hop := hJ.own 6 xp _ hxp r6 (Live.of u6 hmi)
      have hoq := hJ.own 9 xq _ hxq r9 (fun u hu => by rw [un9] at hu; cases hu)
      obtain ⟨Aq, cq, rfl, _, _, hrq⟩ := own_form hoq
      have htk := fun (v : Value) (W' : World) => hJ.take (W' := W') (v := v) u6 r6 r10 hxp hmi v10
      have hKK := Lib.hid hK
      clear hA hdeps hK v0 v1 v2 v3 v4 v5 v6 v7 v8 v9 v10 v11 v12 v13 v14 v15 r0 r1 r2 r3 r4 r5 r6 r7 r8 r9 r10 r11 r12 r13 r14 r15 u2 u6 u10 u14
      refine step_append_any W rfl (.tmp 9) (.tmp 12) _ rfl w1.heap.size 5 i0 _ 1 1 Try.underlying27 hi0 hz0 hz1 hz2 rfl (by omega) xp 16 _ ?_ hop W.heap.size Aq 8 cq _ ?_ hrq (bts_one _) (by unfold maxLen; omega) (by omega) hJ.bel.size ?_
      · simpa [Act.eval] using ep
      · simpa [Act.eval] using eq
      · intro v' w' h1 h2 h3
        exact hKK.out _ _ (htk v' w' h2 (by simpa [bts_append] using h1) h3)
    · injection ho with ho
      subst ho
      have e4 : AA.tmps[1]?.getD undef = .pointer (some ⟨w0.heap.size, 0, none⟩) := by rw [hA]; exact tmps_free (by kernel_rfl)
      have hK0 : KK (AA.put (some 14) _) _ := hK _ _ (hJ.pure (Below.refl _ _) r11 (fun x hx => by rw [v11] at hx; exact Option.some.inj hx))
      clear hA hdeps hK v0 v1 v2 v3 v4 v5 v6 v7 v8 v9 v10 v11 v12 v13 v14 v15 r0 r1 r2 r3 r4 r5 r6 r7 r8 r9 r10 r11 r12 r13 r14 r15 u2 u6 u10 u14
      go_simp
      exact hK0
    · injection ho with ho
      subst ho
      have hx11 := hJ.det.get v11 (hdeps ⟨11, .data⟩ (by simp) rfl)
      have e11 : AA.tmps[14]?.getD undef = .pointer (some ⟨w0.heap.size, 3, none⟩) := by rw [hA]; exact tmps_own (by kernel_rfl) hx11 (of_decide_eq_true (by kernel_rfl))
      obtain ⟨c0, c1, c2, c3⟩ := hS.out W hJ.bel
      have hK0 : KK (AA.put (some 15) _) _ := hK _ _ (hJ.pure (Below.refl _ _) r12 (fun x hx => by rw [v12] at hx; exact Option.some.inj hx))
      clear hA hdeps hK v0 v1 v2 v3 v4 v5 v6 v7 v8 v9 v10 v11 v12 v13 v14 v15 r0 r1 r2 r3 r4 r5 r6 r7 r8 r9 r10 r11 r12 r13 r14 r15 u2 u6 u10 u14
      go_simp
      exact hK0
    · injection ho with ho
      subst ho
      have hx12 := hJ.det.get v12 (hdeps ⟨12, .data⟩ (by simp) rfl)
      have e12 : AA.tmps[15]?.getD undef = .int .u64 sd := by rw [hA]; exact tmps_own (by kernel_rfl) hx12 (of_decide_eq_true (by kernel_rfl))
      have hKK := Lib.hid hK
      have HV := Lib.hid v13
      have HR := Lib.hid r13
      clear hA hdeps hK v0 v1 v2 v3 v4 v5 v6 v7 v8 v9 v10 v11 v12 v13 v14 v15 r0 r1 r2 r3 r4 r5 r6 r7 r8 r9 r10 r11 r12 r13 r14 r15 u2 u6 u10 u14
      go_simp
      refine (eight_any sd hs3 _).mono ?_
      rintro e w5 ⟨v, rfl, hown, hbn⟩
      exact hKK.out _ _ (hJ.new hbn HR.out HV.out hown)
    · injection ho with ho
      subst ho
      obtain ⟨xp, hxp⟩ := Option.isSome_iff_exists.1 (hdeps ⟨10, .data⟩ (by simp) rfl)
      obtain ⟨xq, hxq⟩ := Option.isSome_iff_exists.1 (hdeps ⟨13, .data⟩ (by simp) rfl)
      have ep : AA.tmps[13]?.getD undef = xp := by rw [hA]; exact tmps_own (by kernel_rfl) hxp (of_decide_eq_true (by kernel_rfl))
      have eq : AA.tmps[16]?.getD undef = xq := by rw [hA]; exact tmps_own (by kernel_rfl) hxq (of_decide_eq_true (by kernel_rfl))
      have hop := hJ.own 10 xp _ hxp r10 (Live.of u10 hmi)
      have hoq := hJ.own 13 xq _ hxq r13 (fun u hu => by rw [un13] at hu; cases hu)
      obtain ⟨Aq, cq, rfl, _, _, hrq⟩ := own_form hoq
      have htk := fun (v : Value) (W' : World) => hJ.take (W' := W') (v := v) u10 r10 r14 hxp hmi v14
      have hKK := Lib.hid hK
      clear hA hdeps hK v0 v1 v2 v3 v4 v5 v6 v7 v8 v9 v10 v11 v12 v13 v14 v15 r0 r1 r2 r3 r4 r5 r6 r7 r8 r9 r10 r11 r12 r13 r14 r15 u2 u6 u10 u14
      refine step_append_any W rfl (.tmp 13) (.tmp 16) _ rfl w1.heap.size 5 i0 _ 1 1 Try.underlying27 hi0 hz0 hz1 hz2 rfl (by omega) xp 24 _ ?_ hop W.heap.size Aq 8 cq _ ?_ hrq (bts_one _) (by unfold maxLen; omega) (by omega) hJ.bel.size ?_
      · simpa [Act.eval] using ep
      · simpa [Act.eval] using eq
      · intro v' w' h1 h2 h3
        exact hKK.out _ _ (htk v' w' h2 (by simpa [bts_append] using h1) h3)
    · injection ho with ho
      subst ho
      obtain ⟨xp, hxp⟩ := Option.isSome_iff_exists.1 (hdeps ⟨14, .data⟩ (by simp) rfl)
      have ep : AA.tmps[17]?.getD undef = xp := by rw [hA]; exact tmps_own (by kernel_rfl) hxp (of_decide_eq_true (by kernel_rfl))
      have hop := hJ.own 14 xp _ hxp r14 (Live.of u14 hmi)
      have hK0 : KK (AA.put (some 2) _) _ := hK xp W (hJ.take u14 r14 r15 hxp hmi v15 (World.grownBy.refl _ _) hop (.inl rfl))
      clear hA hdeps hK v0 v1 v2 v3 v4 v5 v6 v7 v8 v9 v10 v11 v12 v13 v14 v15 r0 r1 r2 r3 r4 r5 r6 r7 r8 r9 r10 r11 r12 r13 r14 r15 u2 u6 u10 u14
      go_simp
      exact hK0
    · simp at ho
  · intro m W hJ hall
    have m0 := hJ.det.get v0 (hall 0 (by simp))
    have m1 := hJ.det.get v1 (hall 1 (by simp))
    obtain ⟨x2, m2⟩ := Option.isSome_iff_exists.1 (hall 2 (by simp))
    have m3 := hJ.det.get v3 (hall 3 (by simp))
    have m4 := hJ.det.get v4 (hall 4 (by simp))
    obtain ⟨x5, m5⟩ := Option.isSome_iff_exists.1 (hall 5 (by simp))
    obtain ⟨x6, m6⟩ := Option.isSome_iff_exists.1 (hall 6 (by simp))
    have m7 := hJ.det.get v7 (hall 7 (by simp))
    have m8 := hJ.det.get v8 (hall 8 (by simp))
    obtain ⟨x9, m9⟩ := Option.isSome_iff_exists.1 (hall 9 (by simp))
    obtain ⟨x10, m10⟩ := Option.isSome_iff_exists.1 (hall 10 (by simp))
    have m11 := hJ.det.get v11 (hall 11 (by simp))
    have m12 := hJ.det.get v12 (hall 12 (by simp))
    obtain ⟨x13, m13⟩ := Option.isSome_iff_exists.1 (hall 13 (by simp))
    obtain ⟨x14, m14⟩ := Option.isSome_iff_exists.1 (hall 14 (by simp))
    obtain ⟨x15, m15⟩ := Option.isSome_iff_exists.1 (hall 15 (by simp))
    have hown := hJ.own 15 x15 _ m15 r15 (fun u hu => by rw [un15] at hu; cases hu)
    have hbx := hJ.bel
    rw [frameM_all (by kernel_rfl) [.pointer (some ⟨w0.heap.size, 0, none⟩), .int .u64 sa, x2, .pointer (some ⟨w0.heap.size, 1, none⟩), .int .u64 sb, x5, x6, .pointer (some ⟨w0.heap.size, 2, none⟩), .int .u64 sc, x9, x10, .pointer (some ⟨w0.heap.size, 3, none⟩), .int .u64 sd, x13, x14, x15] rfl (fun i hi => by
        rcases i with _ | _ | _ | _ | _ | _ | _ | _ | _ | _ | _ | _ | _ | _ | _ | _ | i
        · exact m0
        · exact m1
        · exact m2
        · exact m3
        · exact m4
        · exact m5
        · exact m6
        · exact m7
        · exact m8
        · exact m9
        · exact m10
        · exact m11
        · exact m12
        · exact m13
        · exact m14
        · exact m15
        · simp at hi; omega)]
    clear hJ hall m0 m1 m2 m3 m4 m5 m6 m7 m8 m9 m10 m11 m12 m13 m14 m15 v0 v1 v2 v3 v4 v5 v6 v7 v8 v9 v10 v11 v12 v13 v14 v15 r0 r1 r2 r3 r4 r5 r6 r7 r8 r9 r10 r11 r12 r13 r14 r15 u2 u6 u10 u14 un5 un9 un13 un15
    simp only [putAll, Act.put, List.setIfInBounds_toArray, List.set_cons_succ, List.set_cons_zero]
    repeat go_step
    go_ret
    exact ⟨_, rfl, by rw [hfin.out]; exact own_mono hown hB0, hbel.trans (hbx.mono hB0)⟩
end Go.Proofs.Ytcbeadldieeceaa
