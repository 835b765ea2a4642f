/-
  cmp.Or at a row of two numbers; cmp.Compare at numbers; the order of sessions: by their contracts.
-/
import Derived.Test.YtjdebhemoeojiaaDoorSeLaw
import Derived.Test.YtjdebhemoeojiaaDoorGood
namespace Go.Proofs.YtjdebhemoeojiaaDoor
open Go.RowKit

def orI2 (x y : Int) : Int := if x = 0 then y else x
set_option maxRecDepth 100000 in
theorem orI2_any (x y : Int) (A : Option Addr) (c : Nat) (w : World) (B : Nat) (hr : Reads w B 1 A 2 [.int .i64 x, .int .i64 y]) :
    Calls Tryd.prog 69 #[.slice A 2 c] w fun e w' => e = .returned (.int .i64 (orI2 x y)) ∧ ∃ q, w' = w.drewN q := by
  obtain ⟨ad, rfl, _, hc⟩ := hr.2 (by omega)
  have h0 : w.cell? ad = some (.int .i64 x) := by have := hc 0 _ rfl; rwa [add_zero] at this
  have h1 : w.cell? ⟨ad.block, ad.off + 1, none⟩ = some (.int .i64 y) := by have := hc 1 _ rfl; rwa [addr_add_succ] at this
  clear hc hr
  by_cases hx : x = 0
  · subst hx
    by_cases hy : y = 0
    · subst hy
      go_enter Tryd.func69, Tryd.ntmps69
      go_wp2_with fail
      refine wp_loop_rounds 3 ?_
      rw [rounds_succ]
      go_wp2_with fail
      rw [rounds_succ]
      go_wp2_with fail
      rw [rounds_succ]
      go_wp2_with fail
      go_ret
      exact ⟨rfl, 0, rfl⟩
    · have hyb : (y == 0) = false := by simp [hy]
      go_enter Tryd.func69, Tryd.ntmps69
      go_wp2_with fail
      refine wp_loop_rounds 3 ?_
      rw [rounds_succ]
      go_wp2_with fail
      rw [rounds_succ]
      go_wp2_with fail
      go_ret
      exact ⟨by unfold orI2; rw [if_pos rfl]; rfl, 0, rfl⟩
  · have hxb : (x == 0) = false := by simp [hx]
    go_enter Tryd.func69, Tryd.ntmps69
    go_wp2_with fail
    refine wp_loop_rounds 3 ?_
    rw [rounds_succ]
    go_wp2_with fail
    go_ret
    exact ⟨by unfold orI2; rw [if_neg hx]; rfl, 0, rfl⟩
set_option maxRecDepth 100000 in
theorem isNaNI_any (x : Int) (w : World) : Calls Tryd.prog 92 #[.int .i64 x] w fun e w' => e = .returned (.bool false) ∧ ∃ q, w' = w.drewN q := by
  go_enter Tryd.func92, Tryd.ntmps92
  go_wp2_with fail
  go_ret
  exact ⟨rfl, 0, rfl⟩
set_option maxRecDepth 100000 in
theorem compareI_any (x y : Int) (w : World) : Calls Tryd.prog 70 #[.int .i64 x, .int .i64 y] w fun e w' => e = .returned (.int .i64 (cmpI x y)) ∧ ∃ q, w' = w.drewN q := by
  go_enter Tryd.func70, Tryd.ntmps70
  go_wp2_with fail
  refine (isNaNI_any x _).mono ?_
  rintro e w1 ⟨rfl, q1, rfl⟩
  go_wp2_with fail
  refine (isNaNI_any y _).mono ?_
  rintro e w1 ⟨rfl, q2, rfl⟩
  by_cases h1 : x < y
  · have HV : Hid (cmpI x y = -1) := by show _ = _; unfold cmpI; rw [if_pos h1]
    go_wp2_with fail
    go_ret
    exact ⟨by rw [HV.out]; rfl, q1 + q2, rfl⟩
  · by_cases h2 : x = y
    · have HV : Hid (cmpI x y = 0) := (cmpI_zero x y).2 h2
      have h3 : ¬ y < x := by omega
      clear h2
      go_wp2_with fail
      go_ret
      exact ⟨by rw [HV.out]; rfl, q1 + q2, rfl⟩
    · have HV : Hid (cmpI x y = 1) := by show _ = _; unfold cmpI; rw [if_neg h1, if_neg h2]
      have h3 : y < x := by omega
      clear h1 h2
      go_wp2_with fail
      go_ret
      exact ⟨by rw [HV.out]; rfl, q1 + q2, rfl⟩
theorem cmpT_or (a b : BS) (nn mm : Int) : orI2 (cmpS a b) (cmpI nn mm) = cmpT a nn b mm := rfl
set_option maxRecDepth 100000 in
set_option maxHeartbeats 1000000 in
theorem orderT_any (a b ai bi : BS) (nn mm : Int) (aA bA : Option Addr) (an ac bn bc : Nat) (ab bb : Bool) (w : World) :
    Calls Tryd.prog 36 #[.agg #[.string ⟨a.toArray⟩, .int .i64 nn, .string ⟨ai.toArray⟩, .slice aA an ac, .bool ab], .agg #[.string ⟨b.toArray⟩, .int .i64 mm, .string ⟨bi.toArray⟩, .slice bA bn bc, .bool bb]] w fun e w' => e = .returned (.int .i64 (cmpT a nn b mm)) ∧ Below w.heap.size w w' := by
  obtain ⟨W0, hW0⟩ : ∃ W0, W0 = (w.alloc (.cells #[.string ⟨a.toArray⟩, .int .i64 nn, .string ⟨ai.toArray⟩, .slice aA an ac, .bool ab] 33)).alloc (.cells #[.string ⟨b.toArray⟩, .int .i64 mm, .string ⟨bi.toArray⟩, .slice bA bn bc, .bool bb] 33) := ⟨_, rfl⟩
  have hb1 := (Below.refl w.heap.size w).alloc (Nat.le_refl _) (.cells #[.string ⟨a.toArray⟩, .int .i64 nn, .string ⟨ai.toArray⟩, .slice aA an ac, .bool ab] 33)
  have hb2 := hb1.alloc hb1.size (.cells #[.string ⟨b.toArray⟩, .int .i64 mm, .string ⟨bi.toArray⟩, .slice bA bn bc, .bool bb] 33)
  have k0 := (Blk.new w 33 #[.string ⟨a.toArray⟩, .int .i64 nn, .string ⟨ai.toArray⟩, .slice aA an ac, .bool ab]).alloc (.cells #[.string ⟨b.toArray⟩, .int .i64 mm, .string ⟨bi.toArray⟩, .slice bA bn bc, .bool bb] 33)
  have k1 := Blk.new (w.alloc (.cells #[.string ⟨a.toArray⟩, .int .i64 nn, .string ⟨ai.toArray⟩, .slice aA an ac, .bool ab] 33)) 33 #[.string ⟨b.toArray⟩, .int .i64 mm, .string ⟨bi.toArray⟩, .slice bA bn bc, .bool bb]
  have e1 : (w.alloc (.cells #[.string ⟨a.toArray⟩, .int .i64 nn, .string ⟨ai.toArray⟩, .slice aA an ac, .bool ab] 33)).heap.size = w.heap.size + 1 := by simp
  rw [e1] at k1
  rw [← hW0] at hb2 k0 k1
  have hsz : W0.heap.size = w.heap.size + 2 := by rw [hW0]; simp
  have hS := Lib.hid (fun (W' : World) (hB : Below W0.heap.size W0 W') =>
    (⟨(k0.below hB (by omega)).cell 0, (k0.below hB (by omega)).cell 1, (k1.below hB (by omega)).cell 0, (k1.below hB (by omega)).cell 1⟩ :
      W'.cell? ⟨w.heap.size, 0, none⟩ = some (.string ⟨a.toArray⟩) ∧ W'.cell? ⟨w.heap.size, 1, none⟩ = some (.int .i64 nn) ∧ W'.cell? ⟨w.heap.size + 1, 0, none⟩ = some (.string ⟨b.toArray⟩) ∧ W'.cell? ⟨w.heap.size + 1, 1, none⟩ = some (.int .i64 mm)))
  have HSZ := Lib.hid hsz
  have HG := Lib.hid (cmpT_or a b nn mm)
  have HB := Lib.hid hb2
  clear k0 k1 e1 hsz hb1 hb2
  go_enter Tryd.func36, Tryd.ntmps36
  go_wp2_with fail
  rw [← hW0]
  clear hW0
  refine wp_region_good2 (by kernel_rfl) (by kernel_rfl) [(fun v _ => v = .pointer (some ⟨w.heap.size, 0, none⟩)),
    (fun v _ => v = .string ⟨a.toArray⟩),
    (fun v _ => v = .pointer (some ⟨(w.heap.size + 1), 0, none⟩)),
    (fun v _ => v = .string ⟨b.toArray⟩),
    (fun v _ => v = .int .i64 (cmpS a b)),
    (fun v _ => v = .pointer (some ⟨w.heap.size, 1, none⟩)),
    (fun v _ => v = .int .i64 nn),
    (fun v _ => v = .pointer (some ⟨(w.heap.size + 1), 1, none⟩)),
    (fun v _ => v = .int .i64 mm),
    (fun v _ => v = .int .i64 (cmpI nn mm)),
    (fun v W => W.ownsRow w.heap.size 3 1 v 2 [.int .i64 (cmpS a b), .int .i64 (cmpI nn mm)]),
    (fun v _ => v = .int .i64 (cmpT a nn b mm)),
    (fun v _ => v = .int .i64 (cmpT a nn b mm))] ?_ ?_ ?_
  · repeat' (first | exact stays_nil | refine stays_cons ?_ ?_ | exact Stays.pure | exact Stays.own _ _ _ _ _)
  · intro i oo ho m2 W hb0 hmi hcl hdeps AA KK hA hK
    rcases i with _ | _ | _ | _ | _ | _ | _ | _ | _ | _ | _ | _ | _ | i
    · injection ho with ho
      subst ho
      have ef2 : AA.tmps[2]?.getD undef = .pointer (some ⟨w.heap.size, 0, none⟩) := by rw [hA]; exact tmps_free (by kernel_rfl)
      clear hA hdeps hcl hmi
      have hK0 : KK (AA.put (some 5) _) _ := hK (.pointer (some ⟨w.heap.size, 0, none⟩)) _ (Below.refl _ _) (Eq.refl _)
      clear hK
      go_simp
      exact hK0
    · injection ho with ho
      subst ho
      obtain ⟨x0, hx0, hg0⟩ := hdeps ⟨0, .data⟩ (by simp) rfl
      have hg0 : x0 = .pointer (some ⟨w.heap.size, 0, none⟩) := hg0
      subst hg0
      have e0 : AA.tmps[5]?.getD undef = .pointer (some ⟨w.heap.size, 0, none⟩) := by rw [hA]; exact tmps_own (by kernel_rfl) hx0 (of_decide_eq_true (by kernel_rfl))
      clear hA hdeps hcl hmi hx0
      obtain ⟨c0, c1, c2, c3⟩ := hS.out W hb0
      have hK0 : KK (AA.put (some 6) _) _ := hK (.string ⟨a.toArray⟩) _ (Below.refl _ _) (Eq.refl _)
      clear hK
      go_simp
      exact hK0
    · injection ho with ho
      subst ho
      have ef3 : AA.tmps[3]?.getD undef = .pointer (some ⟨(w.heap.size + 1), 0, none⟩) := by rw [hA]; exact tmps_free (by kernel_rfl)
      clear hA hdeps hcl hmi
      have hK0 : KK (AA.put (some 7) _) _ := hK (.pointer (some ⟨(w.heap.size + 1), 0, none⟩)) _ (Below.refl _ _) (Eq.refl _)
      clear hK
      go_simp
      exact hK0
    · injection ho with ho
      subst ho
      obtain ⟨x2, hx2, hg2⟩ := hdeps ⟨2, .data⟩ (by simp) rfl
      have hg2 : x2 = .pointer (some ⟨(w.heap.size + 1), 0, none⟩) := hg2
      subst hg2
      have e2 : AA.tmps[7]?.getD undef = .pointer (some ⟨(w.heap.size + 1), 0, none⟩) := by rw [hA]; exact tmps_own (by kernel_rfl) hx2 (of_decide_eq_true (by kernel_rfl))
      clear hA hdeps hcl hmi hx2
      obtain ⟨c0, c1, c2, c3⟩ := hS.out W hb0
      have hK0 : KK (AA.put (some 8) _) _ := hK (.string ⟨b.toArray⟩) _ (Below.refl _ _) (Eq.refl _)
      clear hK
      go_simp
      exact hK0
    · injection ho with ho
      subst ho
      obtain ⟨x1, hx1, hg1⟩ := hdeps ⟨1, .data⟩ (by simp) rfl
      have hg1 : x1 = .string ⟨a.toArray⟩ := hg1
      subst hg1
      have e1 : AA.tmps[6]?.getD undef = .string ⟨a.toArray⟩ := by rw [hA]; exact tmps_own (by kernel_rfl) hx1 (of_decide_eq_true (by kernel_rfl))
      obtain ⟨x3, hx3, hg3⟩ := hdeps ⟨3, .data⟩ (by simp) rfl
      have hg3 : x3 = .string ⟨b.toArray⟩ := hg3
      subst hg3
      have e3 : AA.tmps[8]?.getD undef = .string ⟨b.toArray⟩ := by rw [hA]; exact tmps_own (by kernel_rfl) hx3 (of_decide_eq_true (by kernel_rfl))
      clear hA hdeps hcl hmi hx1 hx3
      have hKK := Lib.hid hK
      clear hK
      go_simp
      refine (compareS_any a b _).mono ?_
      rintro e w5 ⟨rfl, q, rfl⟩
      exact hKK.out _ _ (below_drewN (Below.refl _ _) q) rfl
    · injection ho with ho
      subst ho
      have ef2 : AA.tmps[2]?.getD undef = .pointer (some ⟨w.heap.size, 0, none⟩) := by rw [hA]; exact tmps_free (by kernel_rfl)
      clear hA hdeps hcl hmi
      have hK0 : KK (AA.put (some 10) _) _ := hK (.pointer (some ⟨w.heap.size, 1, none⟩)) _ (Below.refl _ _) (Eq.refl _)
      clear hK
      go_simp
      exact hK0
    · injection ho with ho
      subst ho
      obtain ⟨x5, hx5, hg5⟩ := hdeps ⟨5, .data⟩ (by simp) rfl
      have hg5 : x5 = .pointer (some ⟨w.heap.size, 1, none⟩) := hg5
      subst hg5
      have e5 : AA.tmps[10]?.getD undef = .pointer (some ⟨w.heap.size, 1, none⟩) := by rw [hA]; exact tmps_own (by kernel_rfl) hx5 (of_decide_eq_true (by kernel_rfl))
      clear hA hdeps hcl hmi hx5
      obtain ⟨c0, c1, c2, c3⟩ := hS.out W hb0
      have hK0 : KK (AA.put (some 11) _) _ := hK (.int .i64 nn) _ (Below.refl _ _) (Eq.refl _)
      clear hK
      go_simp
      exact hK0
    · injection ho with ho
      subst ho
      have ef3 : AA.tmps[3]?.getD undef = .pointer (some ⟨(w.heap.size + 1), 0, none⟩) := by rw [hA]; exact tmps_free (by kernel_rfl)
      clear hA hdeps hcl hmi
      have hK0 : KK (AA.put (some 12) _) _ := hK (.pointer (some ⟨(w.heap.size + 1), 1, none⟩)) _ (Below.refl _ _) (Eq.refl _)
      clear hK
      go_simp
      exact hK0
    · injection ho with ho
      subst ho
      obtain ⟨x7, hx7, hg7⟩ := hdeps ⟨7, .data⟩ (by simp) rfl
      have hg7 : x7 = .pointer (some ⟨(w.heap.size + 1), 1, none⟩) := hg7
      subst hg7
      have e7 : AA.tmps[12]?.getD undef = .pointer (some ⟨(w.heap.size + 1), 1, none⟩) := by rw [hA]; exact tmps_own (by kernel_rfl) hx7 (of_decide_eq_true (by kernel_rfl))
      clear hA hdeps hcl hmi hx7
      obtain ⟨c0, c1, c2, c3⟩ := hS.out W hb0
      have hK0 : KK (AA.put (some 13) _) _ := hK (.int .i64 mm) _ (Below.refl _ _) (Eq.refl _)
      clear hK
      go_simp
      exact hK0
    · injection ho with ho
      subst ho
      obtain ⟨x6, hx6, hg6⟩ := hdeps ⟨6, .data⟩ (by simp) rfl
      have hg6 : x6 = .int .i64 nn := hg6
      subst hg6
      have e6 : AA.tmps[11]?.getD undef = .int .i64 nn := by rw [hA]; exact tmps_own (by kernel_rfl) hx6 (of_decide_eq_true (by kernel_rfl))
      obtain ⟨x8, hx8, hg8⟩ := hdeps ⟨8, .data⟩ (by simp) rfl
      have hg8 : x8 = .int .i64 mm := hg8
      subst hg8
      have e8 : AA.tmps[13]?.getD undef = .int .i64 mm := by rw [hA]; exact tmps_own (by kernel_rfl) hx8 (of_decide_eq_true (by kernel_rfl))
      clear hA hdeps hcl hmi hx6 hx8
      have hKK := Lib.hid hK
      clear hK
      go_simp
      refine (compareI_any nn mm _).mono ?_
      rintro e w5 ⟨rfl, q, rfl⟩
      exact hKK.out _ _ (below_drewN (Below.refl _ _) q) rfl
    · injection ho with ho
      subst ho
      obtain ⟨x4, hx4, hg4⟩ := hdeps ⟨4, .data⟩ (by simp) rfl
      have hg4 : x4 = .int .i64 (cmpS a b) := hg4
      subst hg4
      have e4 : AA.tmps[9]?.getD undef = .int .i64 (cmpS a b) := by rw [hA]; exact tmps_own (by kernel_rfl) hx4 (of_decide_eq_true (by kernel_rfl))
      obtain ⟨x9, hx9, hg9⟩ := hdeps ⟨9, .data⟩ (by simp) rfl
      have hg9 : x9 = .int .i64 (cmpI nn mm) := hg9
      subst hg9
      have e9 : AA.tmps[14]?.getD undef = .int .i64 (cmpI nn mm) := by rw [hA]; exact tmps_own (by kernel_rfl) hx9 (of_decide_eq_true (by kernel_rfl))
      clear hA hdeps hcl hmi hx4 hx9
      have hK0 : KK (AA.put (some 15) _) _ := hK _ _ ((Below.refl _ _).alloc (Nat.le_refl _) _) (own_mono (own_lit W #[.int .i64 (cmpS a b), .int .i64 (cmpI nn mm)] 3 2 rfl (by decide)) (by have := hb0.size; have := HSZ.out; omega))
      clear hK
      go_simp
      exact hK0
    · injection ho with ho
      subst ho
      obtain ⟨x10, hx10, hg10⟩ := hdeps ⟨10, .data⟩ (by simp) rfl
      have hg10 : W.ownsRow w.heap.size 3 1 x10 2 [.int .i64 (cmpS a b), .int .i64 (cmpI nn mm)] := hg10
      have e10 : AA.tmps[15]?.getD undef = x10 := by rw [hA]; exact tmps_own (by kernel_rfl) hx10 (of_decide_eq_true (by kernel_rfl))
      clear hA hdeps hcl hmi hx10
      obtain ⟨A1, c1, rfl, _, _, hr1⟩ := own_form hg10
      have hKK := Lib.hid hK
      clear hK hg10
      go_simp
      refine (orI2_any _ _ A1 c1 W W.heap.size hr1).mono ?_
      rintro e w5 ⟨rfl, q, rfl⟩
      exact hKK.out _ _ (below_drewN (Below.refl _ _) q) (show Value.int .i64 (orI2 (cmpS a b) (cmpI nn mm)) = .int .i64 (cmpT a nn b mm) from congrArg (Value.int .i64) HG.out)
    · injection ho with ho
      subst ho
      obtain ⟨x11, hx11, hg11⟩ := hdeps ⟨11, .data⟩ (by simp) rfl
      have hg11 : x11 = .int .i64 (cmpT a nn b mm) := hg11
      subst hg11
      have e11 : AA.tmps[16]?.getD undef = .int .i64 (cmpT a nn b mm) := by rw [hA]; exact tmps_own (by kernel_rfl) hx11 (of_decide_eq_true (by kernel_rfl))
      clear hA hdeps hcl hmi hx11
      have hK0 : KK (AA.put (some 4) _) _ := hK (.int .i64 (cmpT a nn b mm)) _ (Below.refl _ _) (Eq.refl _)
      clear hK
      go_simp
      exact hK0
    · simp at ho
  · intro m W hbx hall
    obtain ⟨x0, m0, g0⟩ := hall 0 (by simp)
    replace g0 : x0 = .pointer (some ⟨w.heap.size, 0, none⟩) := g0
    subst g0
    obtain ⟨x1, m1, g1⟩ := hall 1 (by simp)
    replace g1 : x1 = .string ⟨a.toArray⟩ := g1
    subst g1
    obtain ⟨x2, m2, g2⟩ := hall 2 (by simp)
    replace g2 : x2 = .pointer (some ⟨(w.heap.size + 1), 0, none⟩) := g2
    subst g2
    obtain ⟨x3, m3, g3⟩ := hall 3 (by simp)
    replace g3 : x3 = .string ⟨b.toArray⟩ := g3
    subst g3
    obtain ⟨x4, m4, g4⟩ := hall 4 (by simp)
    replace g4 : x4 = .int .i64 (cmpS a b) := g4
    subst g4
    obtain ⟨x5, m5, g5⟩ := hall 5 (by simp)
    replace g5 : x5 = .pointer (some ⟨w.heap.size, 1, none⟩) := g5
    subst g5
    obtain ⟨x6, m6, g6⟩ := hall 6 (by simp)
    replace g6 : x6 = .int .i64 nn := g6
    subst g6
    obtain ⟨x7, m7, g7⟩ := hall 7 (by simp)
    replace g7 : x7 = .pointer (some ⟨(w.heap.size + 1), 1, none⟩) := g7
    subst g7
    obtain ⟨x8, m8, g8⟩ := hall 8 (by simp)
    replace g8 : x8 = .int .i64 mm := g8
    subst g8
    obtain ⟨x9, m9, g9⟩ := hall 9 (by simp)
    replace g9 : x9 = .int .i64 (cmpI nn mm) := g9
    subst g9
    obtain ⟨x10, m10, g10⟩ := hall 10 (by simp)
    replace g10 : W.ownsRow w.heap.size 3 1 x10 2 [.int .i64 (cmpS a b), .int .i64 (cmpI nn mm)] := g10
    obtain ⟨x11, m11, g11⟩ := hall 11 (by simp)
    replace g11 : x11 = .int .i64 (cmpT a nn b mm) := g11
    subst g11
    obtain ⟨x12, m12, g12⟩ := hall 12 (by simp)
    replace g12 : x12 = .int .i64 (cmpT a nn b mm) := g12
    subst g12
    rw [frameM_all (by kernel_rfl) [.pointer (some ⟨w.heap.size, 0, none⟩), .string ⟨a.toArray⟩, .pointer (some ⟨(w.heap.size + 1), 0, none⟩), .string ⟨b.toArray⟩, .int .i64 (cmpS a b), .pointer (some ⟨w.heap.size, 1, none⟩), .int .i64 nn, .pointer (some ⟨(w.heap.size + 1), 1, none⟩), .int .i64 mm, .int .i64 (cmpI nn mm), x10, .int .i64 (cmpT a nn b mm), .int .i64 (cmpT a nn b mm)] rfl (fun i hi => by
        rcases i with _ | _ | _ | _ | _ | _ | _ | _ | _ | _ | _ | _ | _ | i
        · exact m0
        · exact m1
        · exact m2
        · exact m3
        · exact m4
        · exact m5
        · exact m6
        · exact m7
        · exact m8
        · exact m9
        · exact m10
        · exact m11
        · exact m12
        · simp at hi; omega)]
    clear hall m0 m1 m2 m3 m4 m5 m6 m7 m8 m9 m10 m11 m12
    simp only [putAll, Act.put, List.setIfInBounds_toArray, List.set_cons_succ, List.set_cons_zero]
    go_wp2_with fail
    go_ret
    exact ⟨rfl, HB.out.trans (hbx.mono (by have := HSZ.out; omega))⟩
end Go.Proofs.YtjdebhemoeojiaaDoor
