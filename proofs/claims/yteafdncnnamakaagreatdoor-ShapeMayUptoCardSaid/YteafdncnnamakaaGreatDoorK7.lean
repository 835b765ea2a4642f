/-
  cmp.Or at a row of two numbers; the order of grants: by their contracts. The page's Path, by its contract. slices.Delete of one element, at elements of 5 cells, by its contract. The reference's Props, SameProps: by their contracts. names.Parent and names.Split, by their contracts. Tenants: as they lie in memory, and as they read.
-/
import Derived.Test.YteafdncnnamakaaGreatDoorK0
import Derived.Test.YteafdncnnamakaaGreatDoorK6
import Derived.Test.YteafdncnnamakaaGreatDoorK3
import Derived.Test.YteafdncnnamakaaGreatDoorRows
import Derived.Handy
import Derived.Lib.Hide
import Derived.Deep.RegionLaw
import Derived.ShutString
import Derived.Test.YteafdncnnamakaaGreatDoorK4
import Derived.Test.YteafdncnnamakaaGreatDoorK1
namespace Go.Proofs.YteafdncnnamakaaGreatDoor
open Go.RowKit
def orI2 (x y : Int) : Int := if x = 0 then y else x
set_option maxRecDepth 100000 in
theorem orI2_any (x y : Int) (A : Option Addr) (c : Nat) (w : World) (B : Nat) (hr : Reads w B 1 A 2 [.int .i64 x, .int .i64 y]) :
  Calls Tryz.prog 166 #[.slice A 2 c] w fun e w' => e = .returned (.int .i64 (orI2 x y)) ∧ ∃ q, w' = w.drewN q := by
 obtain ⟨ad, rfl, _, hc⟩ := hr.2 (by omega)
 have h0 : w.cell? ad = some (.int .i64 x) := by have := hc 0 _ rfl; rwa [add_zero] at this
 have h1 : w.cell? ⟨ad.block, ad.off + 1, none⟩ = some (.int .i64 y) := by have := hc 1 _ rfl; rwa [addr_add_succ] at this
 clear hc hr
 by_cases hx : x = 0
 ·subst hx
  by_cases hy : y = 0
  ·subst hy
   go_enter Tryz.func166, Tryz.ntmps166
   go_wp2_with fail
   refine wp_loop_rounds 3 ?_
   rw [rounds_succ]
   go_wp2_with fail
   rw [rounds_succ]
   go_wp2_with fail
   rw [rounds_succ]
   go_wp2_with fail
   go_ret
   exact ⟨rfl, 0, rfl⟩
  ·have hyb : (y == 0) = false := by simp [hy]
   go_enter Tryz.func166, Tryz.ntmps166
   go_wp2_with fail
   refine wp_loop_rounds 3 ?_
   rw [rounds_succ]
   go_wp2_with fail
   rw [rounds_succ]
   go_wp2_with fail
   go_ret
   exact ⟨by unfold orI2; rw [if_pos rfl]; rfl, 0, rfl⟩
 ·have hxb : (x == 0) = false := by simp [hx]
  go_enter Tryz.func166, Tryz.ntmps166
  go_wp2_with fail
  refine wp_loop_rounds 3 ?_
  rw [rounds_succ]
  go_wp2_with fail
  go_ret
  exact ⟨by unfold orI2; rw [if_neg hx]; rfl, 0, rfl⟩
theorem cmpG_or (a b c d : BS) : orI2 (cmpS a c) (cmpS b d) = cmpG a b c d := rfl
set_option maxRecDepth 100000 in
set_option maxHeartbeats 1000000 in
theorem orderG_any (a b c d : BS) (n m : Int) (w : World) :
  Calls Tryz.prog 144 #[.agg #[.string ⟨a.toArray⟩, .string ⟨b.toArray⟩, .int .i64 n], .agg #[.string ⟨c.toArray⟩, .string ⟨d.toArray⟩, .int .i64 m]] w fun e w' => e = .returned (.int .i64 (cmpG a b c d)) ∧ Below w.heap.size w w' := by
 obtain ⟨W0, hW0⟩ : ∃ W0, W0 = (w.alloc (.cells #[.string ⟨a.toArray⟩, .string ⟨b.toArray⟩, .int .i64 n] 122)).alloc (.cells #[.string ⟨c.toArray⟩, .string ⟨d.toArray⟩, .int .i64 m] 122) := ⟨_, rfl⟩
 have hb1 := (Below.refl w.heap.size w).alloc (Nat.le_refl _) (.cells #[.string ⟨a.toArray⟩, .string ⟨b.toArray⟩, .int .i64 n] 122)
 have hb2 := hb1.alloc hb1.size (.cells #[.string ⟨c.toArray⟩, .string ⟨d.toArray⟩, .int .i64 m] 122)
 have k0 := (Blk.new w 122 #[.string ⟨a.toArray⟩, .string ⟨b.toArray⟩, .int .i64 n]).alloc (.cells #[.string ⟨c.toArray⟩, .string ⟨d.toArray⟩, .int .i64 m] 122)
 have k1 := Blk.new (w.alloc (.cells #[.string ⟨a.toArray⟩, .string ⟨b.toArray⟩, .int .i64 n] 122)) 122 #[.string ⟨c.toArray⟩, .string ⟨d.toArray⟩, .int .i64 m]
 have e1 : (w.alloc (.cells #[.string ⟨a.toArray⟩, .string ⟨b.toArray⟩, .int .i64 n] 122)).heap.size = w.heap.size + 1 := by simp
 rw [e1] at k1
 rw [← hW0] at hb2 k0 k1
 have hsz : W0.heap.size = w.heap.size + 2 := by rw [hW0]; simp
 have hS := Lib.hid (fun (W' : World) (hB : Below W0.heap.size W0 W') =>
  (⟨(k0.below hB (by omega)).cell 0, (k0.below hB (by omega)).cell 1, (k1.below hB (by omega)).cell 0, (k1.below hB (by omega)).cell 1⟩ :
   W'.cell? ⟨w.heap.size, 0, none⟩ = some (.string ⟨a.toArray⟩) ∧ W'.cell? ⟨w.heap.size, 1, none⟩ = some (.string ⟨b.toArray⟩) ∧ W'.cell? ⟨w.heap.size + 1, 0, none⟩ = some (.string ⟨c.toArray⟩) ∧ W'.cell? ⟨w.heap.size + 1, 1, none⟩ = some (.string ⟨d.toArray⟩)))
 have HSZ := Lib.hid hsz
 have HG := Lib.hid (cmpG_or a b c d)
 have HB := Lib.hid hb2
 clear k0 k1 e1 hsz hb1 hb2
 go_enter Tryz.func144, Tryz.ntmps144
 go_wp2_with fail
 rw [← hW0]
 clear hW0
 refine wp_region_good2 (by kernel_rfl) (by kernel_rfl) [(fun v _ => v = .pointer (some ⟨w.heap.size, 0, none⟩)),
  (fun v _ => v = .string ⟨a.toArray⟩),
  (fun v _ => v = .pointer (some ⟨(w.heap.size + 1), 0, none⟩)),
  (fun v _ => v = .string ⟨c.toArray⟩),
  (fun v _ => v = .int .i64 (cmpS a c)),
  (fun v _ => v = .pointer (some ⟨w.heap.size, 1, none⟩)),
  (fun v _ => v = .string ⟨b.toArray⟩),
  (fun v _ => v = .pointer (some ⟨(w.heap.size + 1), 1, none⟩)),
  (fun v _ => v = .string ⟨d.toArray⟩),
  (fun v _ => v = .int .i64 (cmpS b d)),
  (fun v W => W.ownsRow w.heap.size 3 1 v 2 [.int .i64 (cmpS a c), .int .i64 (cmpS b d)]),
  (fun v _ => v = .int .i64 (cmpG a b c d)),
  (fun v _ => v = .int .i64 (cmpG a b c d))] ?_ ?_ ?_
 ·repeat' (first | exact stays_nil | refine stays_cons ?_ ?_ | exact Stays.pure | exact Stays.own _ _ _ _ _)
 ·intro i oo ho m2 W hb0 hmi hcl hdeps AA KK hA hK
  rcases i with _ | _ | _ | _ | _ | _ | _ | _ | _ | _ | _ | _ | _ | i
  ·injection ho with ho
   subst ho
   have ef2 : AA.tmps[2]?.getD undef = .pointer (some ⟨w.heap.size, 0, none⟩) := by rw [hA]; exact tmps_free (by kernel_rfl)
   clear hA hdeps hcl hmi
   have hK0 : KK (AA.put (some 5) _) _ := hK (.pointer (some ⟨w.heap.size, 0, none⟩)) _ (Below.refl _ _) (Eq.refl _)
   clear hK
   go_simp
   exact hK0
  ·injection ho with ho
   subst ho
   obtain ⟨x0, hx0, hg0⟩ := hdeps ⟨0, .data⟩ (by simp) rfl
   have hg0 : x0 = .pointer (some ⟨w.heap.size, 0, none⟩) := hg0
   subst hg0
   have e0 : AA.tmps[5]?.getD undef = .pointer (some ⟨w.heap.size, 0, none⟩) := by rw [hA]; exact tmps_own (by kernel_rfl) hx0 (of_decide_eq_true (by kernel_rfl))
   clear hA hdeps hcl hmi hx0
   obtain ⟨c0, c1, c2, c3⟩ := hS.out W hb0
   have hK0 : KK (AA.put (some 6) _) _ := hK (.string ⟨a.toArray⟩) _ (Below.refl _ _) (Eq.refl _)
   clear hK
   go_simp
   exact hK0
  ·injection ho with ho
   subst ho
   have ef3 : AA.tmps[3]?.getD undef = .pointer (some ⟨(w.heap.size + 1), 0, none⟩) := by rw [hA]; exact tmps_free (by kernel_rfl)
   clear hA hdeps hcl hmi
   have hK0 : KK (AA.put (some 7) _) _ := hK (.pointer (some ⟨(w.heap.size + 1), 0, none⟩)) _ (Below.refl _ _) (Eq.refl _)
   clear hK
   go_simp
   exact hK0
  ·injection ho with ho
   subst ho
   obtain ⟨x2, hx2, hg2⟩ := hdeps ⟨2, .data⟩ (by simp) rfl
   have hg2 : x2 = .pointer (some ⟨(w.heap.size + 1), 0, none⟩) := hg2
   subst hg2
   have e2 : AA.tmps[7]?.getD undef = .pointer (some ⟨(w.heap.size + 1), 0, none⟩) := by rw [hA]; exact tmps_own (by kernel_rfl) hx2 (of_decide_eq_true (by kernel_rfl))
   clear hA hdeps hcl hmi hx2
   obtain ⟨c0, c1, c2, c3⟩ := hS.out W hb0
   have hK0 : KK (AA.put (some 8) _) _ := hK (.string ⟨c.toArray⟩) _ (Below.refl _ _) (Eq.refl _)
   clear hK
   go_simp
   exact hK0
  ·injection ho with ho
   subst ho
   obtain ⟨x1, hx1, hg1⟩ := hdeps ⟨1, .data⟩ (by simp) rfl
   have hg1 : x1 = .string ⟨a.toArray⟩ := hg1
   subst hg1
   have e1 : AA.tmps[6]?.getD undef = .string ⟨a.toArray⟩ := by rw [hA]; exact tmps_own (by kernel_rfl) hx1 (of_decide_eq_true (by kernel_rfl))
   obtain ⟨x3, hx3, hg3⟩ := hdeps ⟨3, .data⟩ (by simp) rfl
   have hg3 : x3 = .string ⟨c.toArray⟩ := hg3
   subst hg3
   have e3 : AA.tmps[8]?.getD undef = .string ⟨c.toArray⟩ := by rw [hA]; exact tmps_own (by kernel_rfl) hx3 (of_decide_eq_true (by kernel_rfl))
   clear hA hdeps hcl hmi hx1 hx3
   have hKK := Lib.hid hK
   clear hK
   go_simp
   refine (compareS_any a c _).mono ?_
   rintro e w5 ⟨rfl, q, rfl⟩
   exact hKK.out _ _ (below_drewN (Below.refl _ _) q) rfl
  ·injection ho with ho
   subst ho
   have ef2 : AA.tmps[2]?.getD undef = .pointer (some ⟨w.heap.size, 0, none⟩) := by rw [hA]; exact tmps_free (by kernel_rfl)
   clear hA hdeps hcl hmi
   have hK0 : KK (AA.put (some 10) _) _ := hK (.pointer (some ⟨w.heap.size, 1, none⟩)) _ (Below.refl _ _) (Eq.refl _)
   clear hK
   go_simp
   exact hK0
  ·injection ho with ho
   subst ho
   obtain ⟨x5, hx5, hg5⟩ := hdeps ⟨5, .data⟩ (by simp) rfl
   have hg5 : x5 = .pointer (some ⟨w.heap.size, 1, none⟩) := hg5
   subst hg5
   have e5 : AA.tmps[10]?.getD undef = .pointer (some ⟨w.heap.size, 1, none⟩) := by rw [hA]; exact tmps_own (by kernel_rfl) hx5 (of_decide_eq_true (by kernel_rfl))
   clear hA hdeps hcl hmi hx5
   obtain ⟨c0, c1, c2, c3⟩ := hS.out W hb0
   have hK0 : KK (AA.put (some 11) _) _ := hK (.string ⟨b.toArray⟩) _ (Below.refl _ _) (Eq.refl _)
   clear hK
   go_simp
   exact hK0
  ·injection ho with ho
   subst ho
   have ef3 : AA.tmps[3]?.getD undef = .pointer (some ⟨(w.heap.size + 1), 0, none⟩) := by rw [hA]; exact tmps_free (by kernel_rfl)
   clear hA hdeps hcl hmi
   have hK0 : KK (AA.put (some 12) _) _ := hK (.pointer (some ⟨(w.heap.size + 1), 1, none⟩)) _ (Below.refl _ _) (Eq.refl _)
   clear hK
   go_simp
   exact hK0
  ·injection ho with ho
   subst ho
   obtain ⟨x7, hx7, hg7⟩ := hdeps ⟨7, .data⟩ (by simp) rfl
   have hg7 : x7 = .pointer (some ⟨(w.heap.size + 1), 1, none⟩) := hg7
   subst hg7
   have e7 : AA.tmps[12]?.getD undef = .pointer (some ⟨(w.heap.size + 1), 1, none⟩) := by rw [hA]; exact tmps_own (by kernel_rfl) hx7 (of_decide_eq_true (by kernel_rfl))
   clear hA hdeps hcl hmi hx7
   obtain ⟨c0, c1, c2, c3⟩ := hS.out W hb0
   have hK0 : KK (AA.put (some 13) _) _ := hK (.string ⟨d.toArray⟩) _ (Below.refl _ _) (Eq.refl _)
   clear hK
   go_simp
   exact hK0
  ·injection ho with ho
   subst ho
   obtain ⟨x6, hx6, hg6⟩ := hdeps ⟨6, .data⟩ (by simp) rfl
   have hg6 : x6 = .string ⟨b.toArray⟩ := hg6
   subst hg6
   have e6 : AA.tmps[11]?.getD undef = .string ⟨b.toArray⟩ := by rw [hA]; exact tmps_own (by kernel_rfl) hx6 (of_decide_eq_true (by kernel_rfl))
   obtain ⟨x8, hx8, hg8⟩ := hdeps ⟨8, .data⟩ (by simp) rfl
   have hg8 : x8 = .string ⟨d.toArray⟩ := hg8
   subst hg8
   have e8 : AA.tmps[13]?.getD undef = .string ⟨d.toArray⟩ := by rw [hA]; exact tmps_own (by kernel_rfl) hx8 (of_decide_eq_true (by kernel_rfl))
   clear hA hdeps hcl hmi hx6 hx8
   have hKK := Lib.hid hK
   clear hK
   go_simp
   refine (compareS_any b d _).mono ?_
   rintro e w5 ⟨rfl, q, rfl⟩
   exact hKK.out _ _ (below_drewN (Below.refl _ _) q) rfl
  ·injection ho with ho
   subst ho
   obtain ⟨x4, hx4, hg4⟩ := hdeps ⟨4, .data⟩ (by simp) rfl
   have hg4 : x4 = .int .i64 (cmpS a c) := hg4
   subst hg4
   have e4 : AA.tmps[9]?.getD undef = .int .i64 (cmpS a c) := by rw [hA]; exact tmps_own (by kernel_rfl) hx4 (of_decide_eq_true (by kernel_rfl))
   obtain ⟨x9, hx9, hg9⟩ := hdeps ⟨9, .data⟩ (by simp) rfl
   have hg9 : x9 = .int .i64 (cmpS b d) := hg9
   subst hg9
   have e9 : AA.tmps[14]?.getD undef = .int .i64 (cmpS b d) := by rw [hA]; exact tmps_own (by kernel_rfl) hx9 (of_decide_eq_true (by kernel_rfl))
   clear hA hdeps hcl hmi hx4 hx9
   have hK0 : KK (AA.put (some 15) _) _ := hK _ _ ((Below.refl _ _).alloc (Nat.le_refl _) _) (own_mono (own_lit W #[.int .i64 (cmpS a c), .int .i64 (cmpS b d)] 3 2 rfl (by decide)) (by have := hb0.size; have := HSZ.out; omega))
   clear hK
   go_simp
   exact hK0
  ·injection ho with ho
   subst ho
   obtain ⟨x10, hx10, hg10⟩ := hdeps ⟨10, .data⟩ (by simp) rfl
   have hg10 : W.ownsRow w.heap.size 3 1 x10 2 [.int .i64 (cmpS a c), .int .i64 (cmpS b d)] := hg10
   have e10 : AA.tmps[15]?.getD undef = x10 := by rw [hA]; exact tmps_own (by kernel_rfl) hx10 (of_decide_eq_true (by kernel_rfl))
   clear hA hdeps hcl hmi hx10
   obtain ⟨A1, c1, rfl, _, _, hr1⟩ := own_form hg10
   have hKK := Lib.hid hK
   clear hK hg10
   go_simp
   refine (orI2_any _ _ A1 c1 W W.heap.size hr1).mono ?_
   rintro e w5 ⟨rfl, q, rfl⟩
   exact hKK.out _ _ (below_drewN (Below.refl _ _) q) (show Value.int .i64 (orI2 (cmpS a c) (cmpS b d)) = .int .i64 (cmpG a b c d) from congrArg (Value.int .i64) HG.out)
  ·injection ho with ho
   subst ho
   obtain ⟨x11, hx11, hg11⟩ := hdeps ⟨11, .data⟩ (by simp) rfl
   have hg11 : x11 = .int .i64 (cmpG a b c d) := hg11
   subst hg11
   have e11 : AA.tmps[16]?.getD undef = .int .i64 (cmpG a b c d) := by rw [hA]; exact tmps_own (by kernel_rfl) hx11 (of_decide_eq_true (by kernel_rfl))
   clear hA hdeps hcl hmi hx11
   have hK0 : KK (AA.put (some 4) _) _ := hK (.int .i64 (cmpG a b c d)) _ (Below.refl _ _) (Eq.refl _)
   clear hK
   go_simp
   exact hK0
  ·simp at ho
 ·intro m W hbx hall
  obtain ⟨x0, m0, g0⟩ := hall 0 (by simp)
  replace g0 : x0 = .pointer (some ⟨w.heap.size, 0, none⟩) := g0
  subst g0
  obtain ⟨x1, m1, g1⟩ := hall 1 (by simp)
  replace g1 : x1 = .string ⟨a.toArray⟩ := g1
  subst g1
  obtain ⟨x2, m2, g2⟩ := hall 2 (by simp)
  replace g2 : x2 = .pointer (some ⟨(w.heap.size + 1), 0, none⟩) := g2
  subst g2
  obtain ⟨x3, m3, g3⟩ := hall 3 (by simp)
  replace g3 : x3 = .string ⟨c.toArray⟩ := g3
  subst g3
  obtain ⟨x4, m4, g4⟩ := hall 4 (by simp)
  replace g4 : x4 = .int .i64 (cmpS a c) := g4
  subst g4
  obtain ⟨x5, m5, g5⟩ := hall 5 (by simp)
  replace g5 : x5 = .pointer (some ⟨w.heap.size, 1, none⟩) := g5
  subst g5
  obtain ⟨x6, m6, g6⟩ := hall 6 (by simp)
  replace g6 : x6 = .string ⟨b.toArray⟩ := g6
  subst g6
  obtain ⟨x7, m7, g7⟩ := hall 7 (by simp)
  replace g7 : x7 = .pointer (some ⟨(w.heap.size + 1), 1, none⟩) := g7
  subst g7
  obtain ⟨x8, m8, g8⟩ := hall 8 (by simp)
  replace g8 : x8 = .string ⟨d.toArray⟩ := g8
  subst g8
  obtain ⟨x9, m9, g9⟩ := hall 9 (by simp)
  replace g9 : x9 = .int .i64 (cmpS b d) := g9
  subst g9
  obtain ⟨x10, m10, g10⟩ := hall 10 (by simp)
  replace g10 : W.ownsRow w.heap.size 3 1 x10 2 [.int .i64 (cmpS a c), .int .i64 (cmpS b d)] := g10
  obtain ⟨x11, m11, g11⟩ := hall 11 (by simp)
  replace g11 : x11 = .int .i64 (cmpG a b c d) := g11
  subst g11
  obtain ⟨x12, m12, g12⟩ := hall 12 (by simp)
  replace g12 : x12 = .int .i64 (cmpG a b c d) := g12
  subst g12
  rw [frameM_all (by kernel_rfl) [.pointer (some ⟨w.heap.size, 0, none⟩), .string ⟨a.toArray⟩, .pointer (some ⟨(w.heap.size + 1), 0, none⟩), .string ⟨c.toArray⟩, .int .i64 (cmpS a c), .pointer (some ⟨w.heap.size, 1, none⟩), .string ⟨b.toArray⟩, .pointer (some ⟨(w.heap.size + 1), 1, none⟩), .string ⟨d.toArray⟩, .int .i64 (cmpS b d), x10, .int .i64 (cmpG a b c d), .int .i64 (cmpG a b c d)] rfl (fun i hi => by
    rcases i with _ | _ | _ | _ | _ | _ | _ | _ | _ | _ | _ | _ | _ | i
    ·exact m0
    ·exact m1
    ·exact m2
    ·exact m3
    ·exact m4
    ·exact m5
    ·exact m6
    ·exact m7
    ·exact m8
    ·exact m9
    ·exact m10
    ·exact m11
    ·exact m12
    ·simp at hi; omega)]
  clear hall m0 m1 m2 m3 m4 m5 m6 m7 m8 m9 m10 m11 m12
  simp only [putAll, Act.put, zA, zC, zB]
  go_wp2_with fail
  go_ret
  exact ⟨rfl, HB.out.trans (hbx.mono (by have := HSZ.out; omega))⟩
end Go.Proofs.YteafdncnnamakaaGreatDoor
namespace Go.Proofs.YteafdncnnamakaaGreatDoor
open Go.RowKit
theorem extract_mk (s : ByteArray) (j k : Nat) : s.extract j k = ⟨((s.data.toList.drop j).take (k - j)).toArray⟩ := by
 apply eq_mk
 rw [ByteArray.data_extract, Array.toList_extract]
theorem partsL_len (l : BS) : (partsL l).length ≤ l.length + 1 := by
 induction l with
 | nil => simp [partsL]
 | cons c l ih =>
  unfold partsL
  split
  ·simp; omega
  ·split
   ·rename_i p ps h
    rw [h] at ih
    simp at ih ⊢
    omega
   ·simp
set_option maxRecDepth 100000 in
set_option maxHeartbeats 1000000 in
theorem parts_any (s : ByteArray) (w : World) (hs : s.size ≤ 4000000000) :
  Calls Tryz.prog 135 #[.string s, .int .u8 47] w fun e w' => ∃ v, e = .returned v ∧ w'.ownsRow w.heap.size 9 1 v (partsL s.data.toList).length (scells (partsL s.data.toList)) ∧ Below w.heap.size w w' := by
 obtain ⟨i0, hi0, hz0, hz1, hz2⟩ := info_parts Tryz.infoS
 have HSZ := Lib.hid (Lib.size_eq s)
 go_enter Tryz.func135, Tryz.ntmps135
 go_wp2_with fail
 go_loopw [5, 6, 7] (fun o f i wr => ∃ (k j m : Nat) (done : List BS) (A1 : Option Addr) (c1 : Nat), k ≤ s.size ∧ j ≤ k ∧ m ≤ j ∧ i = .int .i64 (k : Int) ∧ f = .int .i64 (j : Int) ∧ o = .slice A1 m c1 ∧ Hid (m = done.length ∧ partsL s.data.toList = done ++ partsL (s.data.toList.drop j) ∧ 47 ∉ (s.data.toList.drop j).take (k - j)) ∧ wr.ownsRow w.heap.size 9 1 (.slice A1 m c1) m (scells done) ∧ Below w.heap.size w wr) (fun _ _ i _ => s.size - (intOf i).toNat)
 case atStart => exact ⟨0, 0, 0, [], none, 0, Nat.zero_le _, Nat.le_refl _, Nat.le_refl _, rfl, rfl, rfl, ⟨rfl, by simp, by simp⟩, ⟨rfl, .inl ⟨rfl, rfl⟩⟩, Below.refl _ _⟩
 case round =>
  obtain ⟨k, j, m, done, A1, c1, hk, hj, hm, rfl, rfl, rfl, hI, hown, hbw⟩ := hrel
  by_cases hlt : k < s.size
  ·have hki : (k : Int) < (s.size : Int) := by omega
   have hkl : k < s.data.toList.length := by have := HSZ.out; omega
   have hg := bget s k hlt
   obtain ⟨y, hy⟩ : ∃ y, y = s[k]'hlt := ⟨_, rfl⟩
   have hyv : ((s[k]'hlt).toNat : Int) = (y.toNat : Int) := by rw [hy]
   have hget : s.data.toList[k]? = some y := by rw [List.getElem?_eq_getElem hkl, hg, ← hy]
   have htk : (s.data.toList.drop j).take (k + 1 - j) = (s.data.toList.drop j).take (k - j) ++ [y] := by
    rw [show k + 1 - j = k - j + 1 by omega, List.take_add_one, List.getElem?_drop, show j + (k - j) = k by omega, hget]
    rfl
   have HTK := Lib.hid htk
   have HGET := Lib.hid hget
   clear hg hy hget htk
   by_cases h47 : y = 47
   ·have hyi : (y.toNat : Int) = 47 := by rw [h47]; rfl
    have hjk : (j : Int) ≤ (k : Int) := by omega
    have hks : (k : Int) ≤ (s.size : Int) := by omega
    have hex := extract_mk s j k
    obtain ⟨q, hq⟩ : ∃ q, q = (s.data.toList.drop j).take (k - j) := ⟨_, rfl⟩
    rw [← hq] at hex
    have HN : Hid (partsL s.data.toList = (done ++ [q]) ++ partsL (s.data.toList.drop (k + 1))) := by
     show _ = _
     have hsp : s.data.toList.drop j = q ++ 47 :: s.data.toList.drop (k + 1) := by
      conv => lhs; rw [← List.take_append_drop (k - j) (s.data.toList.drop j), ← hq, List.drop_drop, show j + (k - j) = k by omega, List.drop_eq_getElem_cons hkl]
      have := HGET.out
      rw [List.getElem?_eq_getElem hkl, h47] at this
      rw [Option.some.inj this]
     rw [hI.out.2.1, hsp, partsL_two _ _ (by rw [hq]; exact hI.out.2.2), List.append_assoc]
     rfl
    have HM : Hid (m + 1 = (done ++ [q]).length) := by show _ = _; rw [List.length_append, hI.out.1]; rfl
    have hsz2 := hbw.size
    clear hq h47
    go_wp2_with (at_builtin; (refine wpList_push _ rfl (.tmp 19) (.tmp 24) 68 rfl w.heap.size 9 i0 (.string ByteArray.empty) 1 16 Tryz.underlying68 hi0 hz0 hz1 hz2 rfl (by decide) (.slice A1 m c1) m (scells done) rfl hown 1 #[.string ⟨q.toArray⟩] 9 (by simp [Act.eval]) rfl (by simp [Value.oneCell']) (by unfold maxLen; omega) (by omega) hsz2 ?_); intro v4 w4 hown4 hb4 _)
    obtain ⟨A4, c4, rfl, _, _, _⟩ := own_form hown4
    have hb5 := hbw.trans hb4
    have HO : Hid (w4.ownsRow w.heap.size 9 1 (.slice A4 (m + 1) c4) (m + 1) (scells (done ++ [q]))) := by show World.ownsRow _ _ _ _ _ _ _; rw [scells_append]; exact hown4
    clear hown hown4 hbw hb4
    go_wp2_with fail
    go_roundw
    case rel => exact ⟨k + 1, k + 1, m + 1, done ++ [q], A4, c4, by omega, Nat.le_refl _, by omega, by go_num, by go_num, rfl, ⟨HM.out, HN.out, by simp⟩, HO.out, hb5⟩
    case measure => simp [intOf]; omega
   ·have hyi : ¬ (y.toNat : Int) = 47 := by
     intro e
     exact h47 (UInt8.toNat_inj.1 (by have : (47 : UInt8).toNat = 47 := rfl; omega))
    have HN : Hid (47 ∉ (s.data.toList.drop j).take (k + 1 - j)) := by
     show _ ∉ _
     rw [HTK.out, List.mem_append, List.mem_singleton]
     rintro (h | h)
     ·exact hI.out.2.2 h
     ·exact h47 h.symm
    clear h47
    go_wp2_with fail
    go_roundw
    case rel => exact ⟨k + 1, j, m, done, A1, c1, by omega, by omega, hm, by go_num, rfl, rfl, ⟨hI.out.1, hI.out.2.1, HN.out⟩, hown, hbw⟩
    case measure => simp [intOf]; omega
  ·obtain rfl : k = s.size := by omega
   have hex := extract_mk s j s.size
   obtain ⟨q, hq⟩ : ∃ q, q = (s.data.toList.drop j).take (s.size - j) := ⟨_, rfl⟩
   rw [← hq] at hex
   have HN : Hid (partsL s.data.toList = done ++ [q]) := by
    show _ = _
    have : (s.data.toList.drop j).take (s.size - j) = s.data.toList.drop j := List.take_of_length_le (by rw [List.length_drop]; have := HSZ.out; omega)
    have h47 := hI.out.2.2
    rw [this] at h47 hq
    rw [hI.out.2.1, partsL_one _ h47, hq]
   have HM : Hid (m + 1 = (partsL s.data.toList).length) := by show _ = _; rw [HN.out, List.length_append, hI.out.1]; rfl
   have hsz2 := hbw.size
   have hjk : (j : Int) ≤ (s.size : Int) := by omega
   clear hq
   go_wp2_with (at_builtin; (refine wpList_push _ rfl (.tmp 28) (.tmp 32) 68 rfl w.heap.size 9 i0 (.string ByteArray.empty) 1 16 Tryz.underlying68 hi0 hz0 hz1 hz2 rfl (by decide) (.slice A1 m c1) m (scells done) rfl hown 1 #[.string ⟨q.toArray⟩] 9 (by simp [Act.eval]) rfl (by simp [Value.oneCell']) (by unfold maxLen; omega) (by omega) hsz2 ?_); intro v4 w4 hown4 hb4 _)
   have HO : Hid (w4.ownsRow w.heap.size 9 1 v4 (m + 1) (scells (partsL s.data.toList))) := by show World.ownsRow _ _ _ _ _ _ _; rw [HN.out, scells_append]; exact hown4
   have hb5 := hbw.trans hb4
   clear hown hown4 hbw hb4
   go_wp2_with fail
   go_ret
   exact ⟨v4, rfl, by rw [← HM.out]; exact HO.out, hb5⟩
theorem parts_small (l : BS) : ∀ p ∈ partsL l, p.length ≤ l.length := by
 induction l with
 | nil => simp [partsL]
 | cons c l ih =>
  unfold partsL
  split
  ·intro p hp
   rcases List.mem_cons.1 hp with rfl | hp
   ·simp
   ·have := ih p hp; simp; omega
  ·split
   ·rename_i q ps h
    rw [h] at ih
    intro p hp
    rcases List.mem_cons.1 hp with rfl | hp
    ·have := ih q (List.mem_cons_self ..); simp; omega
    ·have := ih p (List.mem_cons_of_mem _ hp); simp; omega
   ·intro p hp
    rw [List.mem_singleton] at hp
    subst hp
    simp
set_option maxRecDepth 100000 in
set_option maxHeartbeats 1000000 in
theorem refPath_any (s : ByteArray) (w : World) (hs : s.size ≤ 4000000000) :
  Calls Tryz.prog 78 #[.string s] w fun e w' => e = .returned (.bool (pathB s.data.toList)) ∧ Below w.heap.size w w' := by
 have htl := Lib.hid (toList_data s)
 have hpar := parts_any s w hs
 have HSM := Lib.hid (parts_small s.data.toList)
 have HPL := Lib.hid (partsL_len s.data.toList)
 have HSZ := Lib.hid (Lib.size_eq s)
 go_enter Tryz.func78, Tryz.ntmps78
 go_wp2_with fail
 ·have h0 : s.toList.isEmpty = true := by assumption
  rw [htl.out, List.isEmpty_iff] at h0
  go_ret
  exact ⟨by rw [h0]; rfl, Below.refl _ _⟩
 ·have h0 : s.toList.isEmpty = false := by assumption
  have HP : Hid (pathB s.data.toList = (decide ((partsL s.data.toList).length ≤ 4) && (partsL s.data.toList).all nameB)) := by
   show _ = _
   rw [htl.out] at h0
   unfold pathB
   rw [h0, Bool.false_or]
  obtain ⟨L, hL⟩ : ∃ L, L = partsL s.data.toList := ⟨_, rfl⟩
  rw [← hL] at hpar HSM HPL HP
  obtain ⟨n, hn⟩ : ∃ n, n = L.length := ⟨_, rfl⟩
  rw [← hn] at hpar HPL HP
  have hnb : n ≤ 4000000001 := by have := HPL.out; have := HSZ.out; omega
  have HN := Lib.hid hn
  clear hL hn
  refine hpar.mono ?_
  clear hpar
  rintro e w1 ⟨v, rfl, hown, hb1⟩
  obtain ⟨A1, c1, rfl, _, _, hr⟩ := own_form hown
  clear hown
  go_wp2_with fail
  go_loopw [4] (fun i wr => ∃ k : Nat, k ≤ n ∧ i = .int .i64 (k : Int) ∧ Hid ((L.take k).all nameB = true) ∧ wr = w1) (fun i _ => n - (intOf i).toNat)
  case atStart => exact ⟨0, Nat.zero_le _, rfl, rfl, rfl⟩
  case round =>
   obtain ⟨k, hk, rfl, hok, hww⟩ := hrel
   have hww := hww.symm
   subst hww
   by_cases hlt : k < n
   ·have hki : (k : Int) < (n : Int) := by omega
    have hkl : k < L.length := by have := HN.out; omega
    obtain ⟨ad, rfl, hadB, d0⟩ := strs_at hr HN.out hlt
    have htk := List.take_succ_eq_append_getElem hkl
    obtain ⟨x, hx⟩ : ∃ x, x = L[k]'hkl := ⟨_, rfl⟩
    have hm : x ∈ L := by rw [hx]; exact List.getElem_mem _
    rw [← hx] at d0 htk
    simp only [strV] at d0
    have hxs := HSM.out x hm
    have hc := refName_any x w1 (by have := HSZ.out; omega)
    obtain ⟨b, hb⟩ : ∃ b, b = nameB x := ⟨_, rfl⟩
    rw [← hb] at hc
    have HBB := Lib.hid hb
    have HT := Lib.hid htk
    have HM := Lib.hid hm
    clear hx htk hb hxs hm
    go_wp2_with fail
    refine hc.mono ?_
    clear hc
    rintro e w2 ⟨rfl, rfl⟩
    cases b with
    | true =>
     go_wp2_with fail
     go_roundw
     case rel =>
      refine ⟨k + 1, by omega, by go_num, ?_, trivial⟩
      show List.all _ _ = _
      rw [HT.out, List.all_append, hok.out]
      simp [HBB.out.symm]
     case measure => simp [intOf]; omega
    | false =>
     have HV : Hid (pathB s.data.toList = false) := by
      show _ = _
      have : L.all nameB = false := by
       rw [← Bool.not_eq_true, List.all_eq_true]
       intro h
       have := h x HM.out
       rw [← HBB.out] at this
       cases this
      rw [HP.out, this, Bool.and_false]
     go_wp2_with fail
     go_ret
     exact ⟨by rw [HV.out]; rfl, hb1⟩
   ·have HA : Hid (pathB s.data.toList = decide ((n : Int) ≤ 4)) := by
     show _ = _
     have := hok.out
     rw [List.take_of_length_le (by have := HN.out; omega)] at this
     rw [HP.out, this, Bool.and_true]
     exact decide_eq_decide.2 (by omega)
    clear hok hr
    go_wp2_with fail
    go_ret
    exact ⟨by rw [HA.out]; rfl, hb1⟩
end Go.Proofs.YteafdncnnamakaaGreatDoor
namespace Go.Proofs.YteafdncnnamakaaGreatDoor
open Go.RowKit
theorem Tryz.delSet_size : (Tryz.prog.info? 63).map (·.size) = some 5 := by kernel_rfl
theorem Tryz.delSet_zero (w : World) : (zeroValue 63).run Tryz.prog w = .ok (.agg #[.string ByteArray.empty, .string ByteArray.empty, .slice none 0 0, .slice none 0 0, .slice none 0 0]) w := by kernel_rfl
theorem delSet_splice (cur : List Value) (n i c0 : Nat) (xs : List Value) (hx : cur.take (n * 5) = xs) (hi : i < n) (hn : n ≤ c0) (hl : cur.length = c0 * 5) (zs : List Value) (hz : zs.length = 1 * 5) :
  (splice (splice cur (i * 5) (xs.drop ((i + 1) * 5))) ((n - 1) * 5) zs).take ((n - 1) * 5) = xs.take (i * 5) ++ xs.drop ((i + 1) * 5) ∧ (splice (splice cur (i * 5) (xs.drop ((i + 1) * 5))) ((n - 1) * 5) zs).length = c0 * 5 := by
 have hxl : xs.length = n * 5 := by rw [← hx, List.length_take]; omega
 have hdl : (xs.drop ((i + 1) * 5)).length = (n - 1 - i) * 5 := by rw [List.length_drop, hxl]; omega
 have h1 : (splice cur (i * 5) (xs.drop ((i + 1) * 5))).length = c0 * 5 := by
  unfold splice
  simp only [List.length_append, List.length_take, List.length_drop] at hdl ⊢
  omega
 refine ⟨?_, ?_⟩
 ·have e1 : (splice (splice cur (i * 5) (xs.drop ((i + 1) * 5))) ((n - 1) * 5) zs).take ((n - 1) * 5) = (splice cur (i * 5) (xs.drop ((i + 1) * 5))).take ((n - 1) * 5) := by
   show List.take _ (List.take _ (splice cur (i * 5) (xs.drop ((i + 1) * 5))) ++ (zs ++ _)) = _
   rw [List.take_append_of_le_length (by rw [List.length_take, h1]; omega), List.take_take, Nat.min_self]
  rw [e1]
  have hc : cur.take (i * 5) = xs.take (i * 5) := by rw [← hx, List.take_take, Nat.min_eq_left (by omega)]
  have hL : (xs.take (i * 5) ++ xs.drop ((i + 1) * 5)).length = (n - 1) * 5 := by rw [List.length_append, List.length_take, hdl, hxl]; omega
  show List.take _ (cur.take (i * 5) ++ (xs.drop ((i + 1) * 5) ++ _)) = _
  rw [hc, ← List.append_assoc, List.take_append_of_le_length (by rw [hL]; exact Nat.le_refl _)]
  exact List.take_of_length_le (by rw [hL]; exact Nat.le_refl _)
 ·show (List.take _ (splice cur (i * 5) (xs.drop ((i + 1) * 5))) ++ (zs ++ List.drop _ _)).length = _
  rw [List.length_append, List.length_append, List.length_take, List.length_drop, h1, hz]
  omega
set_option maxRecDepth 100000 in
set_option maxHeartbeats 1000000 in
theorem delSet_any (xs : List Value) (h1 : ∀ u ∈ xs, u.oneCell' = true) (n i c0 base : Nat) (A0 : Option Addr) (w : World) (hi : i < n) (hn : n ≤ 5000000000000) (hown : w.ownsRow base 63 5 (.slice A0 n c0) n xs) :
  Calls Tryz.prog 39 #[.slice A0 n c0, .int .i64 i, .int .i64 ((i : Int) + 1)] w fun e w' => ∃ v, e = .returned v ∧ w'.ownsRow base 63 5 v (n - 1) (xs.take (i * 5) ++ xs.drop ((i + 1) * 5)) ∧ w.grownBy w' (Value.slice A0 n c0).ownBlock := by
 rcases hown.2 with ⟨_, h0⟩ | ⟨g, cap, cur, hs, hbg, hh, hnc, hcm, hsz, hx⟩
 ·omega
 injection hs with e1 _ e2
 subst e1 e2
 have hh' : w.heap[g]? = some (.cells cur.toList.toArray 63 (0, 0)) := by simpa using hh
 have hcl : cur.toList.length = c0 * 5 := by simpa using hsz
 obtain ⟨cl, hcl0⟩ : ∃ cl, cl = cur.toList := ⟨_, rfl⟩
 rw [← hcl0] at hh' hcl hx
 have hxl : xs.length = n * 5 := hown.1
 have hdl : (xs.drop ((i + 1) * 5)).length = (n - 1 - i) * 5 := by rw [List.length_drop, hxl]; omega
 have hcells : ∀ (w' : World), w'.heap[g]? = w.heap[g]? → ∀ j v, (xs.drop ((i + 1) * 5))[j]? = some v → w'.cell? ((⟨g, (i + 1) * 5, none⟩ : Addr).add j) = some v := by
  intro w' hw j v hv
  have hv2 : cl[(i + 1) * 5 + j]? = some v := by
   rw [List.getElem?_drop, ← hx] at hv
   obtain ⟨hlt, _⟩ := List.getElem?_eq_some_iff.1 hv
   rw [List.length_take] at hlt
   rwa [List.getElem?_take_of_lt (by omega)] at hv
  have had : (⟨g, (i + 1) * 5, none⟩ : Addr).add j = ⟨g, (i + 1) * 5 + j, none⟩ := by unfold Addr.add; split <;> simp_all
  rw [had, cell_of_row w' g _ _ _ _ (hw.trans hh')]
  simpa using hv2
 have hni : (i : Int) + 1 ≤ (n : Int) := by omega
 have hin : (i : Int) ≤ (n : Int) := by omega
 have hnci : (n : Int) ≤ (c0 : Int) := by omega
 have hcmi : c0 ≤ 9223372036854775807 := by unfold maxLen at hcm; omega
 have hne : (((i : Int)) == (i : Int) + 1) = false := by rw [beq_eq_false_iff_ne]; omega
 have ht1 : ((i : Int) + 1).toNat = i + 1 := by omega
 have hsub : n - (i + 1) = n - 1 - i := by omega
 have hi1c : (i : Int) + 1 ≤ (c0 : Int) := by omega
 have hic : (i : Int) ≤ (c0 : Int) := by omega
 have hi0 : (0 : Int) ≤ (i : Int) + 1 := by omega
 have HC := Lib.hid hcells
 have HH := Lib.hid hh'
 have HDL := Lib.hid hdl
 have HXL := Lib.hid hxl
 have HCL := Lib.hid hcl
 have HX := Lib.hid hx
 have H1 := Lib.hid (fun u hu => h1 u (List.mem_of_mem_drop (i := (i + 1) * 5) hu))
 have HSP := Lib.hid (fun zs hz => delSet_splice cl n i c0 xs hx hi hnc hcl zs hz)
 have hgl : g < w.heap.size := heap_lt hh'
 clear hcells hh' hdl hxl hcl hx h1 hown hh hsz hcl0
 go_enter Tryz.func39, Tryz.ntmps39
 go_wp2_with fail
 by_cases hlast : c0 = i + 1
 ·have hnl : n = i + 1 := by omega
  subst hlast
  subst hnl
  have hic2 : (i : Int) ≤ (i : Int) + 1 := by omega
  have hnil : xs.drop ((i + 1) * 5) = [] := List.drop_eq_nil_of_le (by rw [HXL.out]; exact Nat.le_refl _)
  have HNIL := Lib.hid hnil
  clear hnil
  go_region_law (refine step_appendK rfl _ _ 22 rfl 63 5 Tryz.underlying22 Tryz.delSet_size g i (i + 1) ⟨g, 0, none⟩ 0 0 (by simp [Act.eval, Act.put]) (by simp [Act.eval, Act.put]) cl 63 HH.out [] (by simp) (by simp) (by rw [HCL.out]; simp; omega) (by omega) (by simp) ?_; intro w1 hg1 hgr1)
  have hgr := grown_drew hgr1
  have HGR := Lib.hid hgr
  have HG1 := hg1
  have hz1 : ∀ u ∈ (.agg #[.string ByteArray.empty, .string ByteArray.empty, .slice none 0 0, .slice none 0 0, .slice none 0 0] : Value).cells.toList, u.oneCell' = true := fun u hu => List.all_eq_true.1 (show ((.agg #[.string ByteArray.empty, .string ByteArray.empty, .slice none 0 0, .slice none 0 0, .slice none 0 0] : Value).cells.toList.all (·.oneCell')) = true from rfl) u hu
  clear hg1 hgr1 hgr
  simp only [Act.put, zA]
  go_wp2_with (with_reducible refine wpList_clearK rfl (.tmp 31) 22 rfl 63 (.agg #[.string ByteArray.empty, .string ByteArray.empty, .slice none 0 0, .slice none 0 0, .slice none 0 0]) Tryz.underlying22 Tryz.delSet_zero hz1 g (i * 5) 1 1 (by simp [Act.eval]) (splice cl (i * 5) ([])) 63 HG1.out (by simp [splice, Value.cells, HCL.out]; omega) ?_; intro w2 zs hzs hg2 hgr2)
  have hzz : zs.length = 1 * 5 := by rw [hzs]; rfl
  have hsp := HSP.out zs hzz
  rw [HNIL.out, Nat.add_sub_cancel] at hsp
  have hrow := own_of_row (base := base) hg2.out hbg (Nat.le_succ i) hcm hsp.2 hsp.1
  have hgr := HGR.out.trans hgr2
  have HROW := Lib.hid hrow
  clear hrow hsp hg2 hgr2 hzs hzz
  go_ret
  exact ⟨_, rfl, by rw [HNIL.out]; exact HROW.out, hgr⟩
 ·have hlt2 : i + 1 < c0 := by omega
  obtain ⟨p, hp⟩ : ∃ p, p = n - 1 := ⟨_, rfl⟩
  have hip : i + (n - 1 - i) = p := by omega
  have hnp1 : n - p = 1 := by omega
  have hpn : (p : Int) ≤ (n : Int) := by omega
  have hpc : (p : Int) ≤ (c0 : Int) := by omega
  have hcp : ¬ c0 = p := by omega
  have HIP := Lib.hid hip
  have HP := Lib.hid hp
  clear hip hp
  go_region_law (refine step_appendK rfl _ _ 22 rfl 63 5 Tryz.underlying22 Tryz.delSet_size g i c0 ⟨g, (i + 1) * 5, none⟩ (n - 1 - i) (c0 - (i + 1)) (by simp [Act.eval, Act.put]) (by simp [Act.eval, Act.put]) cl 63 HH.out (xs.drop ((i + 1) * 5)) HDL.out (HC.out _ rfl) (by rw [HDL.out, HCL.out]; omega) (by omega) H1.out ?_; intro w1 hg1 hgr1)
  have hgr := grown_drew hgr1
  have HGR := Lib.hid hgr
  have HG1 := hg1
  have hz1 : ∀ u ∈ (.agg #[.string ByteArray.empty, .string ByteArray.empty, .slice none 0 0, .slice none 0 0, .slice none 0 0] : Value).cells.toList, u.oneCell' = true := fun u hu => List.all_eq_true.1 (show ((.agg #[.string ByteArray.empty, .string ByteArray.empty, .slice none 0 0, .slice none 0 0, .slice none 0 0] : Value).cells.toList.all (·.oneCell')) = true from rfl) u hu
  clear hg1 hgr1 hgr
  simp only [Act.put, zA]
  rw [HIP.out]
  go_wp2_with (with_reducible refine wpList_clearK rfl (.tmp 31) 22 rfl 63 (.agg #[.string ByteArray.empty, .string ByteArray.empty, .slice none 0 0, .slice none 0 0, .slice none 0 0]) Tryz.underlying22 Tryz.delSet_zero hz1 g (p * 5) 1 (c0 - p) (by simp [Act.eval]) (splice cl (i * 5) (xs.drop ((i + 1) * 5))) 63 HG1.out (by have h2 := (HSP.out (.agg #[.string ByteArray.empty, .string ByteArray.empty, .slice none 0 0, .slice none 0 0, .slice none 0 0] : Value).cells.toList rfl).2; have h3 := HDL.out; have h4 := HCL.out; have h5 := HP.out; unfold splice; simp only [List.length_append, List.length_take, List.length_drop] at h3 ⊢; simp [Value.cells]; omega) ?_; intro w2 zs hzs hg2 hgr2)
  have hzz : zs.length = 1 * 5 := by rw [hzs]; rfl
  have hsp := HSP.out zs hzz
  rw [← HP.out] at hsp
  have hrow := own_of_row (base := base) hg2.out hbg (by have := HP.out; omega) hcm hsp.2 hsp.1
  have hgr := HGR.out.trans hgr2
  have HROW := Lib.hid hrow
  clear hrow hsp hg2 hgr2 hzs hzz
  go_ret
  exact ⟨_, rfl, by rw [← HP.out]; exact HROW.out, hgr⟩
end Go.Proofs.YteafdncnnamakaaGreatDoor
namespace Go.Proofs.YteafdncnnamakaaGreatDoor
open Go.RowKit
theorem quietN {P : Program} {f : FuncId} {args : Array Value} {w : World} {p m : Nat} {v : Value} (h : Calls P f args (w.drewN (p + m)) fun e w' => e = .returned v ∧ w' = w.drewN (p + m)) :
  Calls P f args (w.drewN (p + m)) fun e w'' => e = .returned v ∧ ∃ n, w'' = w.drewN (p + n) := h.mono fun _ _ ⟨h1, h2⟩ => ⟨h1, m, h2⟩
set_option maxRecDepth 100000 in
set_option maxHeartbeats 2000000 in
theorem refProps_any (l : PL) (n : Nat) (hnl : n = l.length) (A : Option Addr) (c : Nat) (w : World) (B : Nat) (hr : Reads w B 2 A n (pcells l)) (hn : n ≤ 5000000000000) (hv : ∀ x ∈ l, x.1.length ≤ 140737488351232 ∧ x.2.length ≤ 140737488351232) :
  Calls Tryz.prog 112 #[.slice A n c] w fun e w' => e = .returned (.int .i64 (propsE l)) ∧ ∃ q, w' = w.drewN q := by
 have HN := Lib.hid hnl
 obtain ⟨E, hE⟩ : ∃ E, E = propsE l := ⟨_, rfl⟩
 have hPE : Hid (∀ b, propsFrom none l = b → E = if b = true ∧ n ≤ 8 then 0 else 9) := by
  show ∀ b, _ → _
  rintro b rfl
  rw [hE]
  unfold propsE propsB
  rw [← hnl]
  by_cases h8 : n ≤ 8
  ·simp [h8]
  ·simp [h8]
 rw [← hE]
 clear hnl hE
 go_enter Tryz.func112, Tryz.ntmps112
 go_wp2_with fail
 go_loopw [3] (fun j wr => ∃ k : Nat, k ≤ n ∧ j = .int .i64 (k : Int) ∧ Hid (propsFrom none l = propsFrom (prevP l k) (l.drop k)) ∧ ∃ p, wr = w.drewN p) (fun j _ => n - (intOf j).toNat)
 case atStart => exact ⟨0, Nat.zero_le _, rfl, rfl, 0, rfl⟩
 case round =>
  obtain ⟨k, hk, rfl, hok, p, rfl⟩ := hrel
  by_cases hlt : k < n
  ·obtain ⟨ad, rfl, hadB, c0, c1⟩ := hr.prop HN.out hlt
   have hki : (k : Int) < (n : Int) := by omega
   have hkl : k < l.length := by have := HN.out; omega
   obtain ⟨x, hx⟩ : ∃ x, x = l[k]'hkl := ⟨_, rfl⟩
   have hxl := hv x (by rw [hx]; exact List.getElem_mem _)
   rw [← hx] at c0 c1
   have hdr := List.drop_eq_getElem_cons hkl
   rw [← hx] at hdr
   have HX := Lib.hid hx
   have HDR := Lib.hid hdr
   obtain ⟨xn, xv⟩ := x
   simp only [strV] at c0 c1 hxl
   have hbad : Hid ((nameB xn = false ∨ valB xv = false ∨ (∃ y, prevP l k = some y ∧ Op.bytesLess y xn = false)) → E = 9) := by
    show _ → _
    intro h
    rw [hPE.out false]
    ·rfl
    rw [hok.out, HDR.out, propsFrom_cons]
    rcases h with h | h | ⟨y, hy, h⟩
    ·rw [h]; rfl
    ·rw [h]; simp
    ·rw [hy]; simp [h]
   have hgood : Hid (nameB xn = true → valB xv = true → (∀ y, prevP l k = some y → Op.bytesLess y xn = true) → propsFrom none l = propsFrom (prevP l (k + 1)) (l.drop (k + 1))) := by
    show _ → _ → _ → _
    intro h1 h2 h3
    rw [hok.out, HDR.out]
    have hp : prevP l (k + 1) = some xn := by
     show (l[k]?).map (·.1) = _
     rw [List.getElem?_eq_getElem hkl, ← HX.out]
     rfl
    rw [hp, propsFrom_cons, h1, h2]
    cases hq : prevP l k with
    | none => rfl
    | some y => simp [h3 y hq]
   have hN : ∀ m, Calls Tryz.prog 53 #[.string ⟨xn.toArray⟩] (w.drewN (p + m)) fun e W' => e = .returned (.bool (nameB xn)) ∧ ∃ n, W' = w.drewN (p + n) := fun m => quietN (refName_any xn _ hxl.1)
   have hV : ∀ m, Calls Tryz.prog 117 #[.string ⟨xv.toArray⟩] (w.drewN (p + m)) fun e W' => e = .returned (.bool (valB xv)) ∧ ∃ n, W' = w.drewN (p + n) := fun m => quietN (refValue_any xv _ hxl.2)
   clear hx hdr hok hxl hv
   obtain ⟨bn, hbn0⟩ : ∃ b, b = nameB xn := ⟨_, rfl⟩
   obtain ⟨bv, hbv0⟩ : ∃ b, b = valB xv := ⟨_, rfl⟩
   rw [← hbn0] at hbad hgood hN
   rw [← hbv0] at hbad hgood hV
   clear hbn0 hbv0
   cases bn with
   | false =>
    have HB := Lib.hid (hbad.out (.inl rfl))
    clear hr hbad hgood hV
    go_wp2_with fail
    go_big_quiet ((go_at_call 53; exact hN _))
    clear hN
    go_wp2_with fail
    go_ret
    exact ⟨by rw [HB.out]; rfl, _, World.drewN_drewN _ _ _⟩
   | true =>
    cases bv with
    | false =>
     have HB := Lib.hid (hbad.out (.inr (.inl rfl)))
     clear hr hbad hgood
     go_wp2_with fail
     go_big_quiet (first | (go_at_call 53; exact hN _) | (go_at_call 117; exact hV _))
     clear hN hV
     go_wp2_with fail
     go_ret
     exact ⟨by rw [HB.out]; rfl, _, World.drewN_drewN _ _ _⟩
    | true =>
     rcases Nat.eq_zero_or_pos k with h0 | h0
     ·have HG := Lib.hid (hgood.out rfl rfl (fun y hy => by subst h0; cases hy))
      have d4 : decide ((0 : Int) < (k : Int)) = false := by simp; omega
      have d4' : decide (0 < k) = false := by simp; omega
      clear h0 hr hbad hgood
      go_wp2_with fail
      go_big_quiet (first | (go_at_call 53; exact hN _) | (go_at_call 117; exact hV _))
      clear hN hV
      go_wp2_with fail
      go_roundw
      case rel => exact ⟨k + 1, by omega, by go_num, HG, _, rfl⟩
      case measure => simp [intOf]; omega
     ·have d4 : decide ((0 : Int) < (k : Int)) = true := by simp; omega
      have d4' : decide (0 < k) = true := by simp; omega
      have hk1l : k - 1 < l.length := by omega
      obtain ⟨y, hy⟩ : ∃ y, y = (l[k - 1]'hk1l).1 := ⟨_, rfl⟩
      have hpv : prevP l k = some y := by
       obtain ⟨j, rfl⟩ : ∃ j, k = j + 1 := ⟨k - 1, by omega⟩
       show (l[j]?).map (·.1) = _
       have hj : j < l.length := by simpa using hk1l
       rw [List.getElem?_eq_getElem hj, hy]
       rfl
      obtain ⟨ad2, e2, -, c2, -⟩ := (hr.prop HN.out (k := k - 1) (by omega))
      injection e2 with e2
      subst e2
      rw [← hy] at c2
      simp only [strV] at c2
      have i1 : (1 : Int) ≤ (k : Int) := by omega
      have i2 : (k : Int) - 1 < (n : Int) := by omega
      have i3 : IntKind.i64.wrap ((k : Int) - 1) = (k : Int) - 1 := IntWalk.i64_in _ (by omega)
      have i4 : ((k : Int) - 1).toNat = k - 1 := by omega
      have hleq := leqS 9 xn y
      cases hcmp : Op.bytesLess y xn with
      | true =>
       have HG := Lib.hid (hgood.out rfl rfl (fun y' hy' => by rw [hpv] at hy'; cases hy'; exact hcmp))
       have f1 : (Op.bytesLess xn y || xn == y) = false := by
        rw [Bool.or_eq_false_iff]
        refine ⟨?_, by simpa using (bl_ne hcmp).symm⟩
        rw [← Bool.not_eq_true]
        intro h
        have := bl_trans hcmp h
        rw [bl_irrefl] at this
        cases this
       rw [f1] at hleq
       clear hr hbad hgood h0 hpv hy hcmp f1
       go_wp2_with fail
       go_big_quiet (first | (go_at_call 53; exact hN _) | (go_at_call 117; exact hV _))
       clear hN hV hleq
       go_wp2_with fail
       go_roundw
       case rel => exact ⟨k + 1, by omega, by go_num, HG, _, rfl⟩
       case measure => simp [intOf]; omega
      | false =>
       have HB := Lib.hid (hbad.out (.inr (.inr ⟨y, hpv, hcmp⟩)))
       have f1 : (Op.bytesLess xn y || xn == y) = true := by
        by_cases e : xn = y
        ·simp [e]
        ·rw [bl_tri y xn hcmp (fun h => e h.symm)]; rfl
       rw [f1] at hleq
       clear hr hbad hgood h0 hpv hy hcmp f1
       go_wp2_with fail
       go_big_quiet (first | (go_at_call 53; exact hN _) | (go_at_call 117; exact hV _))
       clear hN hV hleq
       go_wp2_with fail
       go_ret
       exact ⟨by rw [HB.out]; rfl, _, World.drewN_drewN _ _ _⟩
  ·have hkn : k = n := by omega
   have hF : Hid (E = if n ≤ 8 then 0 else 9) := by
    show _ = _
    rw [hPE.out true]
    ·simp
    rw [hok.out, List.drop_of_length_le (by rw [hkn, HN.out]; exact Nat.le_refl _)]
    rfl
   clear hok hr hkn hPE
   by_cases h8 : n ≤ 8
   ·have hi8 : ¬ (8 : Int) < (n : Int) := by omega
    have HV : Hid (E = 0) := by show _ = _; rw [hF.out, if_pos h8]
    clear hF
    go_wp2_with fail
    go_ret
    exact ⟨by rw [HV.out]; rfl, p, rfl⟩
   ·have hi8 : (8 : Int) < (n : Int) := by omega
    have HV : Hid (E = 9) := by show _ = _; rw [hF.out, if_neg h8]
    clear hF
    go_wp2_with fail
    go_ret
    exact ⟨by rw [HV.out]; rfl, p, rfl⟩
end Go.Proofs.YteafdncnnamakaaGreatDoor
namespace Go.Proofs.YteafdncnnamakaaGreatDoor
open Go.RowKit
set_option maxRecDepth 100000 in
theorem parent_any (s : ByteArray) (w : World) (hs : s.size ≤ 4000000000) (hm : HasMax w) :
  Calls Tryz.prog 25 #[.string s] w fun e w' => Below w.heap.size w w' ∧
   ((s.data.toList = [] ∨ pathB s.data.toList = false) ∧ e = .returned (.tuple #[.string ⟨#[]⟩, .bool false]) ∨
    s.data.toList ≠ [] ∧ pathB s.data.toList = true ∧ e = .returned (.tuple #[.string ⟨(upL s.data.toList).toArray⟩, .bool true])) := by
 have hts := Lib.hid (toList_data s)
 go_enter Tryz.func25, Tryz.ntmps25
 go_wp2_with fail
 ·have h0 : s.toList = [] := by assumption
  rw [hts.out] at h0
  refine bodyPost_ret (v := .tuple #[.string ⟨#[]⟩, .bool false]) (by simp [results, Tryz.results25, go_sem]) rfl ⟨Below.refl _ _, .inl ⟨.inl h0, rfl⟩⟩
 ·have h0 : ¬ s.toList = [] := by assumption
  have hie : s.toList.isEmpty = false := by simpa using h0
  rw [hts.out] at h0
  refine (path_any s w hs hm).mono ?_
  rintro e w1 ⟨rfl, hb1⟩
  obtain ⟨bs, hbs0⟩ : ∃ b, b = pathB s.data.toList := ⟨_, rfl⟩
  rw [← hbs0]
  simp only [hie]
  clear hie
  have hbs := Lib.hid hbs0
  have hne := Lib.hid h0
  have hlast := Lib.hid (last_eq s)
  have hlb := Lib.hid (last_bound s.data.toList)
  clear hbs0 h0
  cases bs
  ·go_wp2_with fail
   refine bodyPost_ret (v := .tuple #[.string ⟨#[]⟩, .bool false]) (by simp [results, Tryz.results25, go_sem]) rfl ⟨hb1, .inl ⟨.inr hbs.out.symm, rfl⟩⟩
  ·go_wp2_with fail
   refine (Tryz.strings_LastIndexByte s 47 (by omega) _).mono ?_
   rintro e w2 ⟨rfl, rfl⟩
   have hm1 := Lib.hid (show max (Lib.lastIndexByte s 47) 0 = (((lastS s.data.toList).getD 0 : Nat) : Int) from hlast.out)
   obtain ⟨k, hk⟩ : ∃ k, k = (lastS s.data.toList).getD 0 := ⟨_, rfl⟩
   rw [← hk] at hlb hm1
   have HK := Lib.hid hk
   have hks : k ≤ s.size := by rw [Lib.size_eq]; exact hlb.out
   clear hlast hlb hk
   go_wp2_with fail
   ·have hv : (s.extract 0 (max (Lib.lastIndexByte s 47) 0).toNat) = ⟨(upL s.data.toList).toArray⟩ := by
     apply eq_mk
     rw [hm1.out, Lib.extract_from_zero]
     unfold upL
     rw [← HK.out]
     rfl
    refine bodyPost_ret (v := .tuple #[.string ⟨(upL s.data.toList).toArray⟩, .bool true]) (by simp [results, Tryz.results25, go_sem, hv]) rfl ⟨hb1, .inr ⟨hne.out, hbs.out.symm, rfl⟩⟩
   ·rename_i h0
    exact absurd ⟨by omega, by rw [hm1.out]; omega⟩ h0
/-- what Split answers -/
def splitV (l : List UInt8) : Value := match atL l with
 | some (p, n) => if (pathB p && nameB n) = true then .tuple #[.string ⟨p.toArray⟩, .string ⟨n.toArray⟩, .int .i64 0] else .tuple #[.string ⟨#[]⟩, .string ⟨#[]⟩, .int .i64 31]
 | none => .tuple #[.string ⟨#[]⟩, .string ⟨#[]⟩, .int .i64 31]
theorem atL_len (l p n : List UInt8) (h : atL l = some (p, n)) : p.length + n.length < l.length := by
 induction l generalizing p with
 | nil => cases h
 | cons a r ih =>
  unfold atL at h
  split at h
  ·simp only [Option.some.injEq, Prod.mk.injEq] at h
   obtain ⟨rfl, rfl⟩ := h
   simp
  ·split at h
   ·rename_i p' n' e
    simp only [Option.some.injEq, Prod.mk.injEq] at h
    obtain ⟨rfl, rfl⟩ := h
    have := ih _ e
    simp
    omega
   ·cases h
set_option maxRecDepth 100000 in
theorem split_any (s : ByteArray) (w : World) (hs : s.size ≤ 4000000000) (hm : HasMax w) :
  Calls Tryz.prog 81 #[.string s] w fun e w' => e = .returned (splitV s.data.toList) ∧ Below w.heap.size w w' := by
 obtain ⟨m, hmm⟩ := id hm
 have hcut : ∃ p n : ByteArray, ∃ b : Bool, p.size ≤ 4000000000 ∧ splitV s.data.toList = (if (b && pathB p.data.toList && nameB n.data.toList) = true then .tuple #[.string p, .string n, .int .i64 0] else .tuple #[.string ⟨#[]⟩, .string ⟨#[]⟩, .int .i64 31]) ∧
   Calls Tryz.prog 136 #[.string s, .string ⟨#[64]⟩] w fun e w' => e = .returned (.tuple #[.string p, .string n, .bool b]) ∧ ∃ q, w' = w.drewN q := by
  have hc := Tryz.strings_Cut s ⟨#[64]⟩ m w (by omega) hmm
  have he := cut_at s.data.toList
  have hsz := Lib.size_eq s
  cases ha : atL s.data.toList with
  | none =>
   rw [ha] at he
   refine ⟨s, ⟨#[]⟩, false, hs, by unfold splitV; rw [ha]; rfl, hc.mono ?_⟩
   rintro e w' ⟨h1, h2⟩
   refine ⟨?_, h2⟩
   rw [h1]
   simp only at he
   rw [he]
  | some pn =>
   obtain ⟨p, n⟩ := pn
   rw [ha] at he
   have hl := atL_len _ _ _ ha
   refine ⟨⟨p.toArray⟩, ⟨n.toArray⟩, true, by rw [Lib.size_eq]; simp; omega, by unfold splitV; rw [ha]; rfl, hc.mono ?_⟩
   rintro e w' ⟨h1, h2⟩
   refine ⟨?_, h2⟩
   rw [h1]
   simp only at he
   rw [he]
 clear hmm
 obtain ⟨p, n, b, hps, hv, hcut⟩ := hcut
 have HV := Lib.hid hv
 clear hv
 go_enter Tryz.func81, Tryz.ntmps81
 go_wp2_with fail
 refine hcut.mono ?_
 clear hcut
 rintro e w1 ⟨rfl, q, rfl⟩
 have hb1 : Below w.heap.size w (w.drewN q) := below_drewN (Below.refl _ _) q
 have hm1 := hm.below hb1
 cases b
 ·go_wp2_with fail
  exact bodyPost_ret (v := .tuple #[.string ⟨#[]⟩, .string ⟨#[]⟩, .int .i64 31]) (by simp [results, Tryz.results81, go_sem]) rfl ⟨by rw [HV.out]; rfl, hb1⟩
 ·go_wp2_with fail
  refine (path_any p _ hps hm1).mono ?_
  rintro e w2 ⟨rfl, hb2⟩
  have hb := hb1.trans (hb2.mono hb1.size)
  obtain ⟨b, hbb⟩ : ∃ b, b = pathB p.data.toList := ⟨_, rfl⟩
  rw [← hbb] at HV ⊢
  clear hbb
  cases b
  ·go_wp2_with fail
   exact bodyPost_ret (v := .tuple #[.string ⟨#[]⟩, .string ⟨#[]⟩, .int .i64 31]) (by simp [results, Tryz.results81, go_sem]) rfl ⟨by rw [HV.out]; rfl, hb⟩
  ·go_wp2_with fail
   refine (name_any n _).mono ?_
   rintro e w3 ⟨rfl, hb3⟩
   have hb' := hb.trans (hb3.mono hb.size)
   obtain ⟨b, hbb⟩ : ∃ b, b = nameB n.data.toList := ⟨_, rfl⟩
   rw [← hbb] at HV ⊢
   clear hbb
   cases b
   ·go_wp2_with fail
    exact bodyPost_ret (v := .tuple #[.string ⟨#[]⟩, .string ⟨#[]⟩, .int .i64 31]) (by simp [results, Tryz.results81, go_sem]) rfl ⟨by rw [HV.out]; rfl, hb'⟩
   ·go_wp2_with fail
    exact bodyPost_ret (v := .tuple #[.string p, .string n, .int .i64 0]) (by simp [results, Tryz.results81, go_sem]) rfl ⟨by rw [HV.out]; rfl, hb'⟩
end Go.Proofs.YteafdncnnamakaaGreatDoor
namespace Go.Proofs.YteafdncnnamakaaGreatDoor
open Go.RowKit
abbrev BlkT := Int × BS
def encB (x : BlkT) : List Value := [.int .i64 x.1, strV x.2]
def encP (x : BS × BS) : List Value := [strV x.1, strV x.2]
def encS (x : BS) : List Value := [strV x]
def encG (x : GT) : List Value := [strV x.1, strV x.2.1, .int .i64 x.2.2]
structure SnapR where
 nm : BS
 gd : Int
 body : FS BlkT
 tags : FS BS
 own : FS (BS × BS)
def encSnap (x : SnapR) : List Value := [strV x.nm, .int .i64 x.gd, x.body.val, x.tags.val, x.own.val]
structure SetR where
 path : BS
 org : BS
 body : FS BlkT
 snaps : FS SnapR
 own : FS (BS × BS)
def encSet (x : SetR) : List Value := [strV x.path, strV x.org, x.body.val, x.snaps.val, x.own.val]
structure StageR where
 into : BS
 kind : Int
 nm : BS
 frm : Int
 gd : Int
 own : FS (BS × BS)
 ix : Int
 ct : Int
 dt : BS
 sm : Sm
 body : FS BlkT
 at_ : Int
 nx : Int
 sum : Sm
 done : Bool
def smV (s : Sm) : List Value := [.int .u64 s.a, .int .u64 s.b, .int .u64 s.c, .int .u64 s.d]
def encStage (x : StageR) : List Value :=
 [strV x.into, .int .i64 x.kind, strV x.nm, .int .i64 x.frm, .int .i64 x.gd, x.own.val, .int .i64 x.ix, .int .i64 x.ct, strV x.dt] ++ smV x.sm ++ [x.body.val, .int .i64 x.at_, .int .i64 x.nx] ++ smV x.sum ++ [.bool x.done]
structure EntryR where
 user : BS
 kind : Int
 path : BS
 err : Int
def encEntry (x : EntryR) : List Value := [strV x.user, .int .i64 x.kind, strV x.path, .int .i64 x.err]
structure TenR where
 nm : BS
 quota : Int
 next : Int
 sets : FS SetR
 grants : FS GT
 stages : FS StageR
 log : FS EntryR
def TenR.cells (t : TenR) : List Value := [strV t.nm, .int .i64 t.quota, .int .i64 t.next, t.sets.val, t.grants.val, t.stages.val, t.log.val]
def TenR.val (t : TenR) : Value := .agg t.cells.toArray
structure SnapR.rd (w : World) (B : Nat) (x : SnapR) : Prop where
 body : x.body.rd w B 2 encB
 tags : x.tags.rd w B 1 encS
 own : x.own.rd w B 2 encP
structure SetR.rd (w : World) (B : Nat) (x : SetR) : Prop where
 body : x.body.rd w B 2 encB
 snaps : x.snaps.rd w B 5 encSnap
 each : ∀ y ∈ x.snaps.l, y.rd w B
 own : x.own.rd w B 2 encP
structure StageR.rd (w : World) (B : Nat) (x : StageR) : Prop where
 own : x.own.rd w B 2 encP
 body : x.body.rd w B 2 encB
structure TenR.rd (w : World) (B : Nat) (t : TenR) : Prop where
 sets : t.sets.rd w B 5 encSet
 eachS : ∀ y ∈ t.sets.l, y.rd w B
 grants : t.grants.rd w B 3 encG
 stages : t.stages.rd w B 21 encStage
 eachG : ∀ y ∈ t.stages.l, y.rd w B
 log : t.log.rd w B 4 encEntry
/-! ### sizes -/
structure SnapR.sz (x : SnapR) : Prop where
 nm : x.nm.length ≤ 4000000000
 body : x.body.n ≤ 1000000000000
 tags : x.tags.n ≤ 1000000000000
 each : ∀ t ∈ x.tags.l, t.length ≤ 4000000000
 own : x.own.n ≤ 1000000000000
 props : ∀ p ∈ x.own.l, p.1.length ≤ 4000000000 ∧ p.2.length ≤ 4000000000
structure SetR.sz (x : SetR) : Prop where
 path : x.path.length ≤ 4000000000
 org : x.org.length ≤ 4000000000
 body : x.body.n ≤ 1000000000000
 snaps : x.snaps.n ≤ 1000000000000
 each : ∀ y ∈ x.snaps.l, y.sz
 own : x.own.n ≤ 1000000000000
 props : ∀ p ∈ x.own.l, p.1.length ≤ 4000000000 ∧ p.2.length ≤ 4000000000
structure StageR.sz (x : StageR) : Prop where
 into : x.into.length ≤ 4000000000
 nm : x.nm.length ≤ 4000000000
 dt : x.dt.length ≤ 4000000000
 own : x.own.n ≤ 1000000000000
 props : ∀ p ∈ x.own.l, p.1.length ≤ 4000000000 ∧ p.2.length ≤ 4000000000
 body : x.body.n ≤ 1000000000000
structure EntryR.sz (x : EntryR) : Prop where
 user : x.user.length ≤ 4000000000
 path : x.path.length ≤ 4000000000
structure TenR.sz (t : TenR) : Prop where
 nm : t.nm.length ≤ 4000000000
 sets : t.sets.n ≤ 1000000000000
 eachS : ∀ y ∈ t.sets.l, y.sz
 grants : t.grants.n ≤ 1000000000000
 eachG : ∀ g ∈ t.grants.l, g.1.length ≤ 4000000000 ∧ g.2.1.length ≤ 4000000000
 stages : t.stages.n ≤ 1000000000000
 eachT : ∀ y ∈ t.stages.l, y.sz
 log : t.log.n ≤ 1000000000000
 eachL : ∀ y ∈ t.log.l, y.sz
end Go.Proofs.YteafdncnnamakaaGreatDoor
