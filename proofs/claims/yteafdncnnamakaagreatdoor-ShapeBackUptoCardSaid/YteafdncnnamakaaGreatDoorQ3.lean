/-
 tree.copySet, tree.copyStage, tree.Copy, over any contracts of what they call.
-/
import Derived.Test.YteafdncnnamakaaGreatDoorFrame
import Derived.Test.YteafdncnnamakaaGreatDoorWide2
import Derived.Test.YteafdncnnamakaaGreatDoorQ1
import Derived.Test.YteafdncnnamakaaGreatDoorRgBox
import Derived.Deep.DeepCutAuto
import Derived.Test.YteafdncnnamakaaGreatDoorFirst
import Derived.Test.YteafdncnnamakaaGreatDoorBk1
import Derived.Test.YteafdncnnamakaaGreatDoorShSearch
import Derived.Test.YteafdncnnamakaaGreatDoorCmpS
import Derived.Test.YteafdncnnamakaaGreatDoorPrLaw
import Derived.Test.YteafdncnnamakaaGreatDoorPredK
namespace Go.Proofs.YteafdncnnamakaaGreatDoor
open Go.RowKit

theorem results_cell {P : Program} {fn : Func} {tmps : Array Value} {a : Tmp} {t : TypeId} {ad : Addr} {v : Value} {w : World} (hr : fn.results = #[.cell a t]) (ha : tmps[a]?.getD undef = .pointer (some ad)) (hl : (loadVar t ad).run P w = .ok v w) : (results fn tmps).run P w = .ok v w := by
 simp [results, hr, ha, hl, asAddr]
set_option maxRecDepth 100000 in
set_option maxHeartbeats 4000000 in
theorem copySet_abs (pa og : BS) (b1 : Option Addr) (b2 b3 : Nat) (s1 : Option Addr) (s2 s3 : Nat) (o1 : Option Addr) (o2 o3 : Nat) (w : World)
  (Qb : World → Value → Prop) (hqb : ∀ W W' v r, Qb W v → W.grownBy W' (some r) → r < w.heap.size + 2 → Qb W' v)
  (hCb : ∀ W, Below w.heap.size w W → w.heap.size + 2 ≤ W.heap.size → Calls Tryz.prog 108 #[.slice b1 b2 b3] W fun e w' => ∃ A n c, e = .returned (.slice A n c) ∧ Qb w' (.slice A n c) ∧ Below W.heap.size W w')
  (Qo : World → Value → Prop) (hqo : ∀ W W' v r, Qo W v → W.grownBy W' (some r) → r < w.heap.size + 2 → Qo W' v)
  (hCo : ∀ W, Below w.heap.size w W → w.heap.size + 2 ≤ W.heap.size → Calls Tryz.prog 125 #[.slice o1 o2 o3] W fun e w' => ∃ A n c, e = .returned (.slice A n c) ∧ Qo w' (.slice A n c) ∧ Below W.heap.size W w')
  (Qz : World → Value → Prop) (hqz : ∀ W W' v r, Qz W v → W.grownBy W' (some r) → r < w.heap.size + 2 → Qz W' v)
  (hCz : ∀ W, Below w.heap.size w W → w.heap.size + 2 ≤ W.heap.size → Calls Tryz.prog 138 #[.slice s1 s2 s3, .func (.func 139) #[] #[]] W fun e w' => ∃ A n c, e = .returned (.slice A n c) ∧ Qz w' (.slice A n c) ∧ Below W.heap.size W w') :
  Calls Tryz.prog 85 #[.agg #[.string ⟨pa.toArray⟩, .string ⟨og.toArray⟩, .slice b1 b2 b3, .slice s1 s2 s3, .slice o1 o2 o3]] w fun e w' => ∃ Ab nb cb Ao no co Az nz cz, e = .returned (.agg #[.string ⟨pa.toArray⟩, .string ⟨og.toArray⟩, .slice Ab nb cb, .slice Az nz cz, .slice Ao no co]) ∧ Qb w' (.slice Ab nb cb) ∧ Qo w' (.slice Ao no co) ∧ Qz w' (.slice Az nz cz) ∧ Below w.heap.size w w' := by
 go_enter Tryz.func85, Tryz.ntmps85
 go_upto_region 1 with (fail)
 have kB := (Blk.new w 63 #[.string ⟨pa.toArray⟩, .string ⟨og.toArray⟩, .slice b1 b2 b3, .slice s1 s2 s3, .slice o1 o2 o3]).alloc (.cells #[.string ⟨#[]⟩, .string ⟨#[]⟩, .slice none 0 0, .slice none 0 0, .slice none 0 0] 63)
 have kZ := Blk.new (w.alloc (.cells #[.string ⟨pa.toArray⟩, .string ⟨og.toArray⟩, .slice b1 b2 b3, .slice s1 s2 s3, .slice o1 o2 o3] 63)) 63 #[.string ⟨#[]⟩, .string ⟨#[]⟩, .slice none 0 0, .slice none 0 0, .slice none 0 0]
 rw [show (w.alloc (.cells #[.string ⟨pa.toArray⟩, .string ⟨og.toArray⟩, .slice b1 b2 b3, .slice s1 s2 s3, .slice o1 o2 o3] 63)).heap.size = w.heap.size + 1 by simp] at kZ
 have hb2 := ((Below.refl w.heap.size w).alloc (Nat.le_refl _) (.cells #[.string ⟨pa.toArray⟩, .string ⟨og.toArray⟩, .slice b1 b2 b3, .slice s1 s2 s3, .slice o1 o2 o3] 63)).alloc (by simp) (.cells #[.string ⟨#[]⟩, .string ⟨#[]⟩, .slice none 0 0, .slice none 0 0, .slice none 0 0] 63)
 obtain ⟨W2, hW2⟩ : ∃ W, W = (w.alloc (.cells #[.string ⟨pa.toArray⟩, .string ⟨og.toArray⟩, .slice b1 b2 b3, .slice s1 s2 s3, .slice o1 o2 o3] 63)).alloc (.cells #[.string ⟨#[]⟩, .string ⟨#[]⟩, .slice none 0 0, .slice none 0 0, .slice none 0 0] 63) := ⟨_, rfl⟩
 have hsz : W2.heap.size = w.heap.size + 2 := by rw [hW2]; simp
 rw [← hW2] at kB kZ hb2 ⊢
 have hsz2 : w.heap.size + 2 ≤ W2.heap.size := by omega
 have hlow : ∀ W, W2.grownBy W (some w.heap.size) → Below w.heap.size w W := fun W h => hb2.grown h (by omega) (fun k hk => by simp at hk; omega)
 clear hW2 hb2 hsz
 refine wp_region_box (by kernel_rfl) (by kernel_rfl) w.heap.size 63 [.string ⟨pa.toArray⟩, .string ⟨og.toArray⟩, .slice b1 b2 b3, .slice s1 s2 s3, .slice o1 o2 o3] [(10, 2, 2), (12, 4, 5), (14, 3, 8)] (by kernel_rfl) [(fun v _ => v = .pointer (some ⟨w.heap.size, 2, none⟩)),
  (fun v _ => v = .slice b1 b2 b3),
  (fun v W => ∃ A n c, v = .slice A n c ∧ Qb W (.slice A n c)),
  (fun v _ => v = .pointer (some ⟨w.heap.size, 4, none⟩)),
  (fun v _ => v = .slice o1 o2 o3),
  (fun v W => ∃ A n c, v = .slice A n c ∧ Qo W (.slice A n c)),
  (fun v _ => v = .pointer (some ⟨w.heap.size, 3, none⟩)),
  (fun v _ => v = .slice s1 s2 s3),
  (fun v W => ∃ A n c, v = .slice A n c ∧ Qz W (.slice A n c)),
  (fun v _ => v = .pointer (some ⟨w.heap.size, 2, none⟩)),
  (fun v _ => v = undef),
  (fun v _ => v = .pointer (some ⟨w.heap.size, 4, none⟩)),
  (fun v _ => v = undef),
  (fun v _ => v = .pointer (some ⟨w.heap.size, 3, none⟩)),
  (fun v _ => v = undef)] (staysB_cons StaysB.pure (staysB_cons StaysB.pure (staysB_cons (fun v W W' h hg => let ⟨A, n, c, h1, h2⟩ := h; ⟨A, n, c, h1, hqb _ _ _ _ h2 hg (by omega)⟩) (staysB_cons StaysB.pure (staysB_cons StaysB.pure (staysB_cons (fun v W W' h hg => let ⟨A, n, c, h1, h2⟩ := h; ⟨A, n, c, h1, hqo _ _ _ _ h2 hg (by omega)⟩) (staysB_cons StaysB.pure (staysB_cons StaysB.pure (staysB_cons (fun v W W' h hg => let ⟨A, n, c, h1, h2⟩ := h; ⟨A, n, c, h1, hqz _ _ _ _ h2 hg (by omega)⟩) (staysB_cons StaysB.pure (staysB_cons StaysB.pure (staysB_cons StaysB.pure (staysB_cons StaysB.pure (staysB_cons StaysB.pure (staysB_cons StaysB.pure (staysB_nil)))))))))))))))) kB ?_ ?_
 ·intro i oo ho m W hgr hmi hcl hdeps hcell hfz hlt AA KK hA hK1 hK2
  clear kB kZ
  rcases i with _ | _ | _ | _ | _ | _ | _ | _ | _ | _ | _ | _ | _ | _ | _ | i
  ·injection ho with ho
   subst ho
   have ef1 : AA.tmps[1]?.getD undef = .pointer (some ⟨w.heap.size, 0, none⟩) := by rw [hA]; exact tmps_free (by kernel_rfl)
   have hK0 : KK (AA.put (some 3) _) _ := hK1 (.pointer (some ⟨w.heap.size, 2, none⟩)) _ (Below.refl _ _) (Eq.refl _) (by decide)
   clear hK1 hK2 hA hdeps hcl hmi hcell hfz
   go_simp
   exact hK0
  ·injection ho with ho
   subst ho
   obtain ⟨x0, hx0, hg0⟩ := hdeps ⟨0, .data⟩ (by simp) rfl
   have hg0 : x0 = .pointer (some ⟨w.heap.size, 2, none⟩) := hg0
   subst hg0
   have e0 : AA.tmps[3]?.getD undef = .pointer (some ⟨w.heap.size, 2, none⟩) := by rw [hA]; exact tmps_own (by kernel_rfl) hx0 (of_decide_eq_true (by kernel_rfl))
   have hs0 : m 10 = none := none_up hcl (j := 10) rfl (e := ⟨1, .phase⟩) (by simp) rfl hmi
   have hce := hcell 2
   simp only [fld] at hce
   simp [hs0] at hce
   have hK0 : KK (AA.put (some 4) _) _ := hK1 (.slice b1 b2 b3) _ (Below.refl _ _) (Eq.refl _) (by decide)
   clear hK1 hK2 hA hdeps hcl hmi hcell hfz hs0
   go_simp
   exact hK0
  ·injection ho with ho
   subst ho
   obtain ⟨x1, hx1, hg1⟩ := hdeps ⟨1, .data⟩ (by simp) rfl
   have hg1 : x1 = .slice b1 b2 b3 := hg1
   subst hg1
   have e1 : AA.tmps[4]?.getD undef = .slice b1 b2 b3 := by rw [hA]; exact tmps_own (by kernel_rfl) hx1 (of_decide_eq_true (by kernel_rfl))
   have hKK := hK1
   clear hK1 hK2 hA hdeps hcl hmi hcell hfz
   go_simp
   refine (hCb W (hlow W hgr) (Nat.le_trans hsz2 hgr.size)).mono ?_
   rintro e w2 ⟨A, n, c, rfl, hQ, hb⟩
   exact hKK _ _ hb ⟨A, n, c, rfl, hQ⟩ (by decide)
  ·injection ho with ho
   subst ho
   have ef1 : AA.tmps[1]?.getD undef = .pointer (some ⟨w.heap.size, 0, none⟩) := by rw [hA]; exact tmps_free (by kernel_rfl)
   have hK0 : KK (AA.put (some 6) _) _ := hK1 (.pointer (some ⟨w.heap.size, 4, none⟩)) _ (Below.refl _ _) (Eq.refl _) (by decide)
   clear hK1 hK2 hA hdeps hcl hmi hcell hfz
   go_simp
   exact hK0
  ·injection ho with ho
   subst ho
   obtain ⟨x3, hx3, hg3⟩ := hdeps ⟨3, .data⟩ (by simp) rfl
   have hg3 : x3 = .pointer (some ⟨w.heap.size, 4, none⟩) := hg3
   subst hg3
   have e3 : AA.tmps[6]?.getD undef = .pointer (some ⟨w.heap.size, 4, none⟩) := by rw [hA]; exact tmps_own (by kernel_rfl) hx3 (of_decide_eq_true (by kernel_rfl))
   have hs0 : m 12 = none := none_up hcl (j := 12) rfl (e := ⟨4, .phase⟩) (by simp) rfl hmi
   have hce := hcell 4
   simp only [fld] at hce
   simp [hs0] at hce
   have hK0 : KK (AA.put (some 7) _) _ := hK1 (.slice o1 o2 o3) _ (Below.refl _ _) (Eq.refl _) (by decide)
   clear hK1 hK2 hA hdeps hcl hmi hcell hfz hs0
   go_simp
   exact hK0
  ·injection ho with ho
   subst ho
   obtain ⟨x4, hx4, hg4⟩ := hdeps ⟨4, .data⟩ (by simp) rfl
   have hg4 : x4 = .slice o1 o2 o3 := hg4
   subst hg4
   have e4 : AA.tmps[7]?.getD undef = .slice o1 o2 o3 := by rw [hA]; exact tmps_own (by kernel_rfl) hx4 (of_decide_eq_true (by kernel_rfl))
   have hKK := hK1
   clear hK1 hK2 hA hdeps hcl hmi hcell hfz
   go_simp
   refine (hCo W (hlow W hgr) (Nat.le_trans hsz2 hgr.size)).mono ?_
   rintro e w2 ⟨A, n, c, rfl, hQ, hb⟩
   exact hKK _ _ hb ⟨A, n, c, rfl, hQ⟩ (by decide)
  ·injection ho with ho
   subst ho
   have ef1 : AA.tmps[1]?.getD undef = .pointer (some ⟨w.heap.size, 0, none⟩) := by rw [hA]; exact tmps_free (by kernel_rfl)
   have hK0 : KK (AA.put (some 9) _) _ := hK1 (.pointer (some ⟨w.heap.size, 3, none⟩)) _ (Below.refl _ _) (Eq.refl _) (by decide)
   clear hK1 hK2 hA hdeps hcl hmi hcell hfz
   go_simp
   exact hK0
  ·injection ho with ho
   subst ho
   obtain ⟨x6, hx6, hg6⟩ := hdeps ⟨6, .data⟩ (by simp) rfl
   have hg6 : x6 = .pointer (some ⟨w.heap.size, 3, none⟩) := hg6
   subst hg6
   have e6 : AA.tmps[9]?.getD undef = .pointer (some ⟨w.heap.size, 3, none⟩) := by rw [hA]; exact tmps_own (by kernel_rfl) hx6 (of_decide_eq_true (by kernel_rfl))
   have hs0 : m 14 = none := none_up hcl (j := 14) rfl (e := ⟨7, .phase⟩) (by simp) rfl hmi
   have hce := hcell 3
   simp only [fld] at hce
   simp [hs0] at hce
   have hK0 : KK (AA.put (some 10) _) _ := hK1 (.slice s1 s2 s3) _ (Below.refl _ _) (Eq.refl _) (by decide)
   clear hK1 hK2 hA hdeps hcl hmi hcell hfz hs0
   go_simp
   exact hK0
  ·injection ho with ho
   subst ho
   obtain ⟨x7, hx7, hg7⟩ := hdeps ⟨7, .data⟩ (by simp) rfl
   have hg7 : x7 = .slice s1 s2 s3 := hg7
   subst hg7
   have e7 : AA.tmps[10]?.getD undef = .slice s1 s2 s3 := by rw [hA]; exact tmps_own (by kernel_rfl) hx7 (of_decide_eq_true (by kernel_rfl))
   have hKK := hK1
   clear hK1 hK2 hA hdeps hcl hmi hcell hfz
   go_simp
   refine (hCz W (hlow W hgr) (Nat.le_trans hsz2 hgr.size)).mono ?_
   rintro e w2 ⟨A, n, c, rfl, hQ, hb⟩
   exact hKK _ _ hb ⟨A, n, c, rfl, hQ⟩ (by decide)
  ·injection ho with ho
   subst ho
   have ef1 : AA.tmps[1]?.getD undef = .pointer (some ⟨w.heap.size, 0, none⟩) := by rw [hA]; exact tmps_free (by kernel_rfl)
   have hK0 : KK (AA.put (some 12) _) _ := hK1 (.pointer (some ⟨w.heap.size, 2, none⟩)) _ (Below.refl _ _) (Eq.refl _) (by decide)
   clear hK1 hK2 hA hdeps hcl hmi hcell hfz
   go_simp
   exact hK0
  ·injection ho with ho
   subst ho
   obtain ⟨x2, hx2, hg2⟩ := hdeps ⟨2, .data⟩ (by simp) rfl
   obtain ⟨Ab, nb, cb, hv2, hQ2⟩ := hg2
   subst hv2
   have e2 : AA.tmps[5]?.getD undef = .slice Ab nb cb := by rw [hA]; exact tmps_own (by kernel_rfl) hx2 (of_decide_eq_true (by kernel_rfl))
   obtain ⟨x9, hx9, hg9⟩ := hdeps ⟨9, .data⟩ (by simp) rfl
   have hg9 : x9 = .pointer (some ⟨w.heap.size, 2, none⟩) := hg9
   subst hg9
   have e9 : AA.tmps[12]?.getD undef = .pointer (some ⟨w.heap.size, 2, none⟩) := by rw [hA]; exact tmps_own (by kernel_rfl) hx9 (of_decide_eq_true (by kernel_rfl))
   have hce := hcell 2
   simp only [fld] at hce
   simp [hmi] at hce
   have hfe := hfz 2
   have hK0 : KK (AA.put none undef) _ := hK2 2 2 (.slice Ab nb cb) (by simp) hx2 (Eq.refl _)
   clear hK1 hK2 hA hdeps hcl hmi hcell hfz
   go_simp
   exact hK0
  ·injection ho with ho
   subst ho
   have ef1 : AA.tmps[1]?.getD undef = .pointer (some ⟨w.heap.size, 0, none⟩) := by rw [hA]; exact tmps_free (by kernel_rfl)
   have hK0 : KK (AA.put (some 13) _) _ := hK1 (.pointer (some ⟨w.heap.size, 4, none⟩)) _ (Below.refl _ _) (Eq.refl _) (by decide)
   clear hK1 hK2 hA hdeps hcl hmi hcell hfz
   go_simp
   exact hK0
  ·injection ho with ho
   subst ho
   obtain ⟨x5, hx5, hg5⟩ := hdeps ⟨5, .data⟩ (by simp) rfl
   obtain ⟨Ao, no, co, hv5, hQ5⟩ := hg5
   subst hv5
   have e5 : AA.tmps[8]?.getD undef = .slice Ao no co := by rw [hA]; exact tmps_own (by kernel_rfl) hx5 (of_decide_eq_true (by kernel_rfl))
   obtain ⟨x11, hx11, hg11⟩ := hdeps ⟨11, .data⟩ (by simp) rfl
   have hg11 : x11 = .pointer (some ⟨w.heap.size, 4, none⟩) := hg11
   subst hg11
   have e11 : AA.tmps[13]?.getD undef = .pointer (some ⟨w.heap.size, 4, none⟩) := by rw [hA]; exact tmps_own (by kernel_rfl) hx11 (of_decide_eq_true (by kernel_rfl))
   have hce := hcell 4
   simp only [fld] at hce
   simp [hmi] at hce
   have hfe := hfz 4
   have hK0 : KK (AA.put none undef) _ := hK2 4 5 (.slice Ao no co) (by simp) hx5 (Eq.refl _)
   clear hK1 hK2 hA hdeps hcl hmi hcell hfz
   go_simp
   exact hK0
  ·injection ho with ho
   subst ho
   have ef1 : AA.tmps[1]?.getD undef = .pointer (some ⟨w.heap.size, 0, none⟩) := by rw [hA]; exact tmps_free (by kernel_rfl)
   have hK0 : KK (AA.put (some 14) _) _ := hK1 (.pointer (some ⟨w.heap.size, 3, none⟩)) _ (Below.refl _ _) (Eq.refl _) (by decide)
   clear hK1 hK2 hA hdeps hcl hmi hcell hfz
   go_simp
   exact hK0
  ·injection ho with ho
   subst ho
   obtain ⟨x8, hx8, hg8⟩ := hdeps ⟨8, .data⟩ (by simp) rfl
   obtain ⟨Az, nz, cz, hv8, hQ8⟩ := hg8
   subst hv8
   have e8 : AA.tmps[11]?.getD undef = .slice Az nz cz := by rw [hA]; exact tmps_own (by kernel_rfl) hx8 (of_decide_eq_true (by kernel_rfl))
   obtain ⟨x13, hx13, hg13⟩ := hdeps ⟨13, .data⟩ (by simp) rfl
   have hg13 : x13 = .pointer (some ⟨w.heap.size, 3, none⟩) := hg13
   subst hg13
   have e13 : AA.tmps[14]?.getD undef = .pointer (some ⟨w.heap.size, 3, none⟩) := by rw [hA]; exact tmps_own (by kernel_rfl) hx13 (of_decide_eq_true (by kernel_rfl))
   have hce := hcell 3
   simp only [fld] at hce
   simp [hmi] at hce
   have hfe := hfz 3
   have hK0 : KK (AA.put none undef) _ := hK2 3 8 (.slice Az nz cz) (by simp) hx8 (Eq.refl _)
   clear hK1 hK2 hA hdeps hcl hmi hcell hfz
   go_simp
   exact hK0
  ·simp at ho
 ·intro m W hgr hall hbx
  obtain ⟨x0, m0, g0⟩ := hall 0 (by simp)
  replace g0 : x0 = .pointer (some ⟨w.heap.size, 2, none⟩) := g0
  subst g0
  obtain ⟨x1, m1, g1⟩ := hall 1 (by simp)
  replace g1 : x1 = .slice b1 b2 b3 := g1
  subst g1
  obtain ⟨x2, m2, g2⟩ := hall 2 (by simp)
  obtain ⟨Ab, nb, cb, hv2, qb⟩ := g2
  subst hv2
  obtain ⟨x3, m3, g3⟩ := hall 3 (by simp)
  replace g3 : x3 = .pointer (some ⟨w.heap.size, 4, none⟩) := g3
  subst g3
  obtain ⟨x4, m4, g4⟩ := hall 4 (by simp)
  replace g4 : x4 = .slice o1 o2 o3 := g4
  subst g4
  obtain ⟨x5, m5, g5⟩ := hall 5 (by simp)
  obtain ⟨Ao, no, co, hv5, qo⟩ := g5
  subst hv5
  obtain ⟨x6, m6, g6⟩ := hall 6 (by simp)
  replace g6 : x6 = .pointer (some ⟨w.heap.size, 3, none⟩) := g6
  subst g6
  obtain ⟨x7, m7, g7⟩ := hall 7 (by simp)
  replace g7 : x7 = .slice s1 s2 s3 := g7
  subst g7
  obtain ⟨x8, m8, g8⟩ := hall 8 (by simp)
  obtain ⟨Az, nz, cz, hv8, qz⟩ := g8
  subst hv8
  obtain ⟨x9, m9, g9⟩ := hall 9 (by simp)
  replace g9 : x9 = .pointer (some ⟨w.heap.size, 2, none⟩) := g9
  subst g9
  obtain ⟨x10, m10, g10⟩ := hall 10 (by simp)
  replace g10 : x10 = undef := g10
  subst g10
  obtain ⟨x11, m11, g11⟩ := hall 11 (by simp)
  replace g11 : x11 = .pointer (some ⟨w.heap.size, 4, none⟩) := g11
  subst g11
  obtain ⟨x12, m12, g12⟩ := hall 12 (by simp)
  replace g12 : x12 = undef := g12
  subst g12
  obtain ⟨x13, m13, g13⟩ := hall 13 (by simp)
  replace g13 : x13 = .pointer (some ⟨w.heap.size, 3, none⟩) := g13
  subst g13
  obtain ⟨x14, m14, g14⟩ := hall 14 (by simp)
  replace g14 : x14 = undef := g14
  subst g14
  rw [frameM_all (by kernel_rfl) [.pointer (some ⟨w.heap.size, 2, none⟩), .slice b1 b2 b3, .slice Ab nb cb, .pointer (some ⟨w.heap.size, 4, none⟩), .slice o1 o2 o3, .slice Ao no co, .pointer (some ⟨w.heap.size, 3, none⟩), .slice s1 s2 s3, .slice Az nz cz, .pointer (some ⟨w.heap.size, 2, none⟩), undef, .pointer (some ⟨w.heap.size, 4, none⟩), undef, .pointer (some ⟨w.heap.size, 3, none⟩), undef] rfl (fun i hi => by
    rcases i with _ | _ | _ | _ | _ | _ | _ | _ | _ | _ | _ | _ | _ | _ | _ | i
    ·exact m0
    ·exact m1
    ·exact m2
    ·exact m3
    ·exact m4
    ·exact m5
    ·exact m6
    ·exact m7
    ·exact m8
    ·exact m9
    ·exact m10
    ·exact m11
    ·exact m12
    ·exact m13
    ·exact m14
    ·simp at hi; omega)]
  obtain ⟨cs, hcl, hbk, hcf⟩ := hbx
  have hcs : cs = [.string ⟨pa.toArray⟩, .string ⟨og.toArray⟩, .slice Ab nb cb, .slice Az nz cz, .slice Ao no co] := by
   apply List.ext_getElem?
   intro f
   rw [hcf f]
   simp only [fld, m10, m2, m12, m5, m14, m8, Option.isSome_some, and_true]
   rcases f with _ | _ | _ | _ | _ | f <;> simp
  subst hcs
  clear hall hcf hcl m0 m1 m2 m3 m4 m5 m6 m7 m8 m9 m10 m11 m12 m13 m14
  simp only [putAll, Act.put, List.setIfInBounds_toArray, List.set_cons_succ, List.set_cons_zero]
  have k3 := hbk
  have kz := kZ.grown hgr (by simp)
  have hbw := hlow W hgr
  clear hbk
  have hset : ∀ (Q : World → Value → Prop), (∀ W W' v r, Q W v → W.grownBy W' (some r) → r < w.heap.size + 2 → Q W' v) → ∀ (cs : List Value) (W : World) (o : Nat) (v : Value), Q W v → Q (W.setCells (w.heap.size + 1) o cs) v := by
   intro Q hQ cs
   induction cs with
   | nil => intro W o v h; exact h
   | cons u r ih => intro W o v h; exact ih _ _ _ (hQ _ _ _ _ h (grown_box W _ o u) (by omega))
  have HC : Hid (∀ j v, ([.string ⟨pa.toArray⟩, .string ⟨og.toArray⟩, .slice Ab nb cb, .slice Az nz cz, .slice Ao no co] : List Value)[j]? = some v → W.cell? ((⟨w.heap.size, 0, none⟩ : Addr).add j) = some v) := by
   show ∀ j v, _ → _
   intro j v hv
   rw [addr_add0, k3.cell j, List.getElem?_toArray]
   exact hv
  have hth := Lib.hid (kz.there 5 (by decide))
  have k4 := Blk.setCells (g := w.heap.size + 1) [.string ⟨pa.toArray⟩, .string ⟨og.toArray⟩, .slice Ab nb cb, .slice Az nz cz, .slice Ao no co] W [] [.string ⟨#[]⟩, .string ⟨#[]⟩, .slice none 0 0, .slice none 0 0, .slice none 0 0] rfl kz
  simp only [List.length_nil, List.nil_append] at k4
  have qb := Lib.hid (show Qb (W.setCells (w.heap.size + 1) 0 [.string ⟨pa.toArray⟩, .string ⟨og.toArray⟩, .slice Ab nb cb, .slice Az nz cz, .slice Ao no co]) _ from hset _ hqb _ _ _ _ qb)
  have qo := Lib.hid (show Qo (W.setCells (w.heap.size + 1) 0 [.string ⟨pa.toArray⟩, .string ⟨og.toArray⟩, .slice Ab nb cb, .slice Az nz cz, .slice Ao no co]) _ from hset _ hqo _ _ _ _ qo)
  have qz := Lib.hid (show Qz (W.setCells (w.heap.size + 1) 0 [.string ⟨pa.toArray⟩, .string ⟨og.toArray⟩, .slice Ab nb cb, .slice Az nz cz, .slice Ao no co]) _ from hset _ hqz _ _ _ _ qz)
  have hbw := Lib.hid (below_setCells (g := w.heap.size + 1) (by omega) [.string ⟨pa.toArray⟩, .string ⟨og.toArray⟩, .slice Ab nb cb, .slice Az nz cz, .slice Ao no co] W 0 hbw)
  clear hset hlow hgr hsz2 kZ hqb hCb hqo hCo hqz hCz
  obtain ⟨W4, hW4⟩ : ∃ W', W' = W.setCells (w.heap.size + 1) 0 (#[.string ⟨pa.toArray⟩, .string ⟨og.toArray⟩, .slice Ab nb cb, .slice Az nz cz, .slice Ao no co] : Array Value).toList := ⟨_, rfl⟩
  rw [show ([.string ⟨pa.toArray⟩, .string ⟨og.toArray⟩, .slice Ab nb cb, .slice Az nz cz, .slice Ao no co] : List Value) = (#[.string ⟨pa.toArray⟩, .string ⟨og.toArray⟩, .slice Ab nb cb, .slice Az nz cz, .slice Ao no co] : Array Value).toList from rfl, ← hW4] at k4 qb qo qz hbw
  have HL : Hid ((loadVar 63 ⟨w.heap.size + 1, 0, none⟩).run Tryz.prog W4 = .ok (.agg #[.string ⟨pa.toArray⟩, .string ⟨og.toArray⟩, .slice Ab nb cb, .slice Az nz cz, .slice Ao no co]) W4) := by
   refine run_loadVar_at W4 ⟨w.heap.size + 1, 0, none⟩ 63 [.string ⟨pa.toArray⟩, .string ⟨og.toArray⟩, .slice Ab nb cb, .slice Az nz cz, .slice Ao no co] _ (fun j v hv => ?_) Tryz.underlying63 rfl (by kernel_rfl)
   rw [addr_add0, k4.cell j, List.getElem?_toArray]
   exact hv
  clear k3 kz k4
  go_wp2_with (first | (refine wpList_load_at rfl 63 (.tmp 1) rfl ⟨w.heap.size, 0, none⟩ rfl [.string ⟨pa.toArray⟩, .string ⟨og.toArray⟩, .slice Ab nb cb, .slice Az nz cz, .slice Ao no co] _ HC.out Tryz.underlying63 rfl (by kernel_rfl) ?_) | (refine wpList_store_mid rfl 63 (.tmp 2) (.tmp 15) rfl (w.heap.size + 1) 0 #[.string ⟨pa.toArray⟩, .string ⟨og.toArray⟩, .slice Ab nb cb, .slice Az nz cz, .slice Ao no co] rfl rfl hth.out (by kernel_rfl) (by simp [Value.oneCell']) ?_; rw [← hW4]; clear hW4))
  exact bodyPost_ret (v := .agg #[.string ⟨pa.toArray⟩, .string ⟨og.toArray⟩, .slice Ab nb cb, .slice Az nz cz, .slice Ao no co]) (results_cell rfl rfl HL.out) rfl ⟨Ab, nb, cb, Ao, no, co, Az, nz, cz, rfl, qb.out, qo.out, qz.out, hbw.out⟩
set_option maxRecDepth 100000 in
set_option maxHeartbeats 4000000 in
theorem copyStage_abs (into : BS) (kind : Int) (nm : BS) (frm gd : Int) (o1 : Option Addr) (o2 o3 : Nat) (ix ct : Int) (dt : BS) (sa sb sc sd : Int) (b1 : Option Addr) (b2 b3 : Nat) (at_ nx : Int) (ua ub uc ud : Int) (done : Bool) (w : World)
  (Qb : World → Value → Prop) (hqb : ∀ W W' v r, Qb W v → W.grownBy W' (some r) → r < w.heap.size + 2 → Qb W' v)
  (hCb : ∀ W, Below w.heap.size w W → w.heap.size + 2 ≤ W.heap.size → Calls Tryz.prog 108 #[.slice b1 b2 b3] W fun e w' => ∃ A n c, e = .returned (.slice A n c) ∧ Qb w' (.slice A n c) ∧ Below W.heap.size W w')
  (Qo : World → Value → Prop) (hqo : ∀ W W' v r, Qo W v → W.grownBy W' (some r) → r < w.heap.size + 2 → Qo W' v)
  (hCo : ∀ W, Below w.heap.size w W → w.heap.size + 2 ≤ W.heap.size → Calls Tryz.prog 125 #[.slice o1 o2 o3] W fun e w' => ∃ A n c, e = .returned (.slice A n c) ∧ Qo w' (.slice A n c) ∧ Below W.heap.size W w') :
  Calls Tryz.prog 88 #[.agg #[.string ⟨into.toArray⟩, .int .i64 kind, .string ⟨nm.toArray⟩, .int .i64 frm, .int .i64 gd, .slice o1 o2 o3, .int .i64 ix, .int .i64 ct, .string ⟨dt.toArray⟩, .int .u64 sa, .int .u64 sb, .int .u64 sc, .int .u64 sd, .slice b1 b2 b3, .int .i64 at_, .int .i64 nx, .int .u64 ua, .int .u64 ub, .int .u64 uc, .int .u64 ud, .bool done]] w fun e w' => ∃ Ab nb cb Ao no co, e = .returned (.agg #[.string ⟨into.toArray⟩, .int .i64 kind, .string ⟨nm.toArray⟩, .int .i64 frm, .int .i64 gd, .slice Ao no co, .int .i64 ix, .int .i64 ct, .string ⟨dt.toArray⟩, .int .u64 sa, .int .u64 sb, .int .u64 sc, .int .u64 sd, .slice Ab nb cb, .int .i64 at_, .int .i64 nx, .int .u64 ua, .int .u64 ub, .int .u64 uc, .int .u64 ud, .bool done]) ∧ Qb w' (.slice Ab nb cb) ∧ Qo w' (.slice Ao no co) ∧ Below w.heap.size w w' := by
 go_enter Tryz.func88, Tryz.ntmps88
 go_upto_region 1 with (fail)
 have kB := (Blk.new w 47 #[.string ⟨into.toArray⟩, .int .i64 kind, .string ⟨nm.toArray⟩, .int .i64 frm, .int .i64 gd, .slice o1 o2 o3, .int .i64 ix, .int .i64 ct, .string ⟨dt.toArray⟩, .int .u64 sa, .int .u64 sb, .int .u64 sc, .int .u64 sd, .slice b1 b2 b3, .int .i64 at_, .int .i64 nx, .int .u64 ua, .int .u64 ub, .int .u64 uc, .int .u64 ud, .bool done]).alloc (.cells #[.string ⟨#[]⟩, .int .i64 0, .string ⟨#[]⟩, .int .i64 0, .int .i64 0, .slice none 0 0, .int .i64 0, .int .i64 0, .string ⟨#[]⟩, .int .u64 0, .int .u64 0, .int .u64 0, .int .u64 0, .slice none 0 0, .int .i64 0, .int .i64 0, .int .u64 0, .int .u64 0, .int .u64 0, .int .u64 0, .bool false] 47)
 have kZ := Blk.new (w.alloc (.cells #[.string ⟨into.toArray⟩, .int .i64 kind, .string ⟨nm.toArray⟩, .int .i64 frm, .int .i64 gd, .slice o1 o2 o3, .int .i64 ix, .int .i64 ct, .string ⟨dt.toArray⟩, .int .u64 sa, .int .u64 sb, .int .u64 sc, .int .u64 sd, .slice b1 b2 b3, .int .i64 at_, .int .i64 nx, .int .u64 ua, .int .u64 ub, .int .u64 uc, .int .u64 ud, .bool done] 47)) 47 #[.string ⟨#[]⟩, .int .i64 0, .string ⟨#[]⟩, .int .i64 0, .int .i64 0, .slice none 0 0, .int .i64 0, .int .i64 0, .string ⟨#[]⟩, .int .u64 0, .int .u64 0, .int .u64 0, .int .u64 0, .slice none 0 0, .int .i64 0, .int .i64 0, .int .u64 0, .int .u64 0, .int .u64 0, .int .u64 0, .bool false]
 rw [show (w.alloc (.cells #[.string ⟨into.toArray⟩, .int .i64 kind, .string ⟨nm.toArray⟩, .int .i64 frm, .int .i64 gd, .slice o1 o2 o3, .int .i64 ix, .int .i64 ct, .string ⟨dt.toArray⟩, .int .u64 sa, .int .u64 sb, .int .u64 sc, .int .u64 sd, .slice b1 b2 b3, .int .i64 at_, .int .i64 nx, .int .u64 ua, .int .u64 ub, .int .u64 uc, .int .u64 ud, .bool done] 47)).heap.size = w.heap.size + 1 by simp] at kZ
 have hb2 := ((Below.refl w.heap.size w).alloc (Nat.le_refl _) (.cells #[.string ⟨into.toArray⟩, .int .i64 kind, .string ⟨nm.toArray⟩, .int .i64 frm, .int .i64 gd, .slice o1 o2 o3, .int .i64 ix, .int .i64 ct, .string ⟨dt.toArray⟩, .int .u64 sa, .int .u64 sb, .int .u64 sc, .int .u64 sd, .slice b1 b2 b3, .int .i64 at_, .int .i64 nx, .int .u64 ua, .int .u64 ub, .int .u64 uc, .int .u64 ud, .bool done] 47)).alloc (by simp) (.cells #[.string ⟨#[]⟩, .int .i64 0, .string ⟨#[]⟩, .int .i64 0, .int .i64 0, .slice none 0 0, .int .i64 0, .int .i64 0, .string ⟨#[]⟩, .int .u64 0, .int .u64 0, .int .u64 0, .int .u64 0, .slice none 0 0, .int .i64 0, .int .i64 0, .int .u64 0, .int .u64 0, .int .u64 0, .int .u64 0, .bool false] 47)
 obtain ⟨W2, hW2⟩ : ∃ W, W = (w.alloc (.cells #[.string ⟨into.toArray⟩, .int .i64 kind, .string ⟨nm.toArray⟩, .int .i64 frm, .int .i64 gd, .slice o1 o2 o3, .int .i64 ix, .int .i64 ct, .string ⟨dt.toArray⟩, .int .u64 sa, .int .u64 sb, .int .u64 sc, .int .u64 sd, .slice b1 b2 b3, .int .i64 at_, .int .i64 nx, .int .u64 ua, .int .u64 ub, .int .u64 uc, .int .u64 ud, .bool done] 47)).alloc (.cells #[.string ⟨#[]⟩, .int .i64 0, .string ⟨#[]⟩, .int .i64 0, .int .i64 0, .slice none 0 0, .int .i64 0, .int .i64 0, .string ⟨#[]⟩, .int .u64 0, .int .u64 0, .int .u64 0, .int .u64 0, .slice none 0 0, .int .i64 0, .int .i64 0, .int .u64 0, .int .u64 0, .int .u64 0, .int .u64 0, .bool false] 47) := ⟨_, rfl⟩
 have hsz : W2.heap.size = w.heap.size + 2 := by rw [hW2]; simp
 rw [← hW2] at kB kZ hb2 ⊢
 have hsz2 : w.heap.size + 2 ≤ W2.heap.size := by omega
 have hlow : ∀ W, W2.grownBy W (some w.heap.size) → Below w.heap.size w W := fun W h => hb2.grown h (by omega) (fun k hk => by simp at hk; omega)
 clear hW2 hb2 hsz
 refine wp_region_box (by kernel_rfl) (by kernel_rfl) w.heap.size 47 [.string ⟨into.toArray⟩, .int .i64 kind, .string ⟨nm.toArray⟩, .int .i64 frm, .int .i64 gd, .slice o1 o2 o3, .int .i64 ix, .int .i64 ct, .string ⟨dt.toArray⟩, .int .u64 sa, .int .u64 sb, .int .u64 sc, .int .u64 sd, .slice b1 b2 b3, .int .i64 at_, .int .i64 nx, .int .u64 ua, .int .u64 ub, .int .u64 uc, .int .u64 ud, .bool done] [(8, 13, 2), (11, 5, 6)] (by kernel_rfl) [(fun v _ => v = .pointer (some ⟨w.heap.size, 13, none⟩)),
  (fun v _ => v = .slice b1 b2 b3),
  (fun v W => ∃ A n c, v = .slice A n c ∧ Qb W (.slice A n c)),
  (fun v _ => v = .pointer (some ⟨w.heap.size, 1, none⟩)),
  (fun v _ => v = .pointer (some ⟨w.heap.size, 5, none⟩)),
  (fun v _ => v = .slice o1 o2 o3),
  (fun v W => ∃ A n c, v = .slice A n c ∧ Qo W (.slice A n c)),
  (fun v _ => v = .pointer (some ⟨w.heap.size, 13, none⟩)),
  (fun v _ => v = undef),
  (fun v _ => v = .pointer (some ⟨w.heap.size, 1, none⟩)),
  (fun v _ => v = .pointer (some ⟨w.heap.size, 5, none⟩)),
  (fun v _ => v = undef)] (staysB_cons StaysB.pure (staysB_cons StaysB.pure (staysB_cons (fun v W W' h hg => let ⟨A, n, c, h1, h2⟩ := h; ⟨A, n, c, h1, hqb _ _ _ _ h2 hg (by omega)⟩) (staysB_cons StaysB.pure (staysB_cons StaysB.pure (staysB_cons StaysB.pure (staysB_cons (fun v W W' h hg => let ⟨A, n, c, h1, h2⟩ := h; ⟨A, n, c, h1, hqo _ _ _ _ h2 hg (by omega)⟩) (staysB_cons StaysB.pure (staysB_cons StaysB.pure (staysB_cons StaysB.pure (staysB_cons StaysB.pure (staysB_cons StaysB.pure (staysB_nil))))))))))))) kB ?_ ?_
 ·intro i oo ho m W hgr hmi hcl hdeps hcell hfz hlt AA KK hA hK1 hK2
  clear kB kZ
  rcases i with _ | _ | _ | _ | _ | _ | _ | _ | _ | _ | _ | _ | i
  ·injection ho with ho
   subst ho
   have ef1 : AA.tmps[1]?.getD undef = .pointer (some ⟨w.heap.size, 0, none⟩) := by rw [hA]; exact tmps_free (by kernel_rfl)
   have hK0 : KK (AA.put (some 3) _) _ := hK1 (.pointer (some ⟨w.heap.size, 13, none⟩)) _ (Below.refl _ _) (Eq.refl _) (by decide)
   clear hK1 hK2 hA hdeps hcl hmi hcell hfz
   go_simp
   exact hK0
  ·injection ho with ho
   subst ho
   obtain ⟨x0, hx0, hg0⟩ := hdeps ⟨0, .data⟩ (by simp) rfl
   have hg0 : x0 = .pointer (some ⟨w.heap.size, 13, none⟩) := hg0
   subst hg0
   have e0 : AA.tmps[3]?.getD undef = .pointer (some ⟨w.heap.size, 13, none⟩) := by rw [hA]; exact tmps_own (by kernel_rfl) hx0 (of_decide_eq_true (by kernel_rfl))
   have hs0 : m 8 = none := none_up hcl (j := 8) rfl (e := ⟨1, .phase⟩) (by simp) rfl hmi
   have hce := hcell 13
   simp only [fld] at hce
   simp [hs0] at hce
   have hK0 : KK (AA.put (some 4) _) _ := hK1 (.slice b1 b2 b3) _ (Below.refl _ _) (Eq.refl _) (by decide)
   clear hK1 hK2 hA hdeps hcl hmi hcell hfz hs0
   go_simp
   exact hK0
  ·injection ho with ho
   subst ho
   obtain ⟨x1, hx1, hg1⟩ := hdeps ⟨1, .data⟩ (by simp) rfl
   have hg1 : x1 = .slice b1 b2 b3 := hg1
   subst hg1
   have e1 : AA.tmps[4]?.getD undef = .slice b1 b2 b3 := by rw [hA]; exact tmps_own (by kernel_rfl) hx1 (of_decide_eq_true (by kernel_rfl))
   have hKK := hK1
   clear hK1 hK2 hA hdeps hcl hmi hcell hfz
   go_simp
   refine (hCb W (hlow W hgr) (Nat.le_trans hsz2 hgr.size)).mono ?_
   rintro e w2 ⟨A, n, c, rfl, hQ, hb⟩
   exact hKK _ _ hb ⟨A, n, c, rfl, hQ⟩ (by decide)
  ·injection ho with ho
   subst ho
   have ef1 : AA.tmps[1]?.getD undef = .pointer (some ⟨w.heap.size, 0, none⟩) := by rw [hA]; exact tmps_free (by kernel_rfl)
   have hK0 : KK (AA.put (some 6) _) _ := hK1 (.pointer (some ⟨w.heap.size, 1, none⟩)) _ (Below.refl _ _) (Eq.refl _) (by decide)
   clear hK1 hK2 hA hdeps hcl hmi hcell hfz
   go_simp
   exact hK0
  ·injection ho with ho
   subst ho
   obtain ⟨x3, hx3, hg3⟩ := hdeps ⟨3, .data⟩ (by simp) rfl
   have hg3 : x3 = .pointer (some ⟨w.heap.size, 1, none⟩) := hg3
   subst hg3
   have e3 : AA.tmps[6]?.getD undef = .pointer (some ⟨w.heap.size, 1, none⟩) := by rw [hA]; exact tmps_own (by kernel_rfl) hx3 (of_decide_eq_true (by kernel_rfl))
   have hK0 : KK (AA.put (some 7) _) _ := hK1 (.pointer (some ⟨w.heap.size, 5, none⟩)) _ (Below.refl _ _) (Eq.refl _) (by decide)
   clear hK1 hK2 hA hdeps hcl hmi hcell hfz
   go_simp
   exact hK0
  ·injection ho with ho
   subst ho
   obtain ⟨x4, hx4, hg4⟩ := hdeps ⟨4, .data⟩ (by simp) rfl
   have hg4 : x4 = .pointer (some ⟨w.heap.size, 5, none⟩) := hg4
   subst hg4
   have e4 : AA.tmps[7]?.getD undef = .pointer (some ⟨w.heap.size, 5, none⟩) := by rw [hA]; exact tmps_own (by kernel_rfl) hx4 (of_decide_eq_true (by kernel_rfl))
   have hs0 : m 11 = none := none_up hcl (j := 11) rfl (e := ⟨5, .phase⟩) (by simp) rfl hmi
   have hce := hcell 5
   simp only [fld] at hce
   simp [hs0] at hce
   have hK0 : KK (AA.put (some 8) _) _ := hK1 (.slice o1 o2 o3) _ (Below.refl _ _) (Eq.refl _) (by decide)
   clear hK1 hK2 hA hdeps hcl hmi hcell hfz hs0
   go_simp
   exact hK0
  ·injection ho with ho
   subst ho
   obtain ⟨x5, hx5, hg5⟩ := hdeps ⟨5, .data⟩ (by simp) rfl
   have hg5 : x5 = .slice o1 o2 o3 := hg5
   subst hg5
   have e5 : AA.tmps[8]?.getD undef = .slice o1 o2 o3 := by rw [hA]; exact tmps_own (by kernel_rfl) hx5 (of_decide_eq_true (by kernel_rfl))
   have hKK := hK1
   clear hK1 hK2 hA hdeps hcl hmi hcell hfz
   go_simp
   refine (hCo W (hlow W hgr) (Nat.le_trans hsz2 hgr.size)).mono ?_
   rintro e w2 ⟨A, n, c, rfl, hQ, hb⟩
   exact hKK _ _ hb ⟨A, n, c, rfl, hQ⟩ (by decide)
  ·injection ho with ho
   subst ho
   have ef1 : AA.tmps[1]?.getD undef = .pointer (some ⟨w.heap.size, 0, none⟩) := by rw [hA]; exact tmps_free (by kernel_rfl)
   have hK0 : KK (AA.put (some 10) _) _ := hK1 (.pointer (some ⟨w.heap.size, 13, none⟩)) _ (Below.refl _ _) (Eq.refl _) (by decide)
   clear hK1 hK2 hA hdeps hcl hmi hcell hfz
   go_simp
   exact hK0
  ·injection ho with ho
   subst ho
   obtain ⟨x2, hx2, hg2⟩ := hdeps ⟨2, .data⟩ (by simp) rfl
   obtain ⟨Ab, nb, cb, hv2, hQ2⟩ := hg2
   subst hv2
   have e2 : AA.tmps[5]?.getD undef = .slice Ab nb cb := by rw [hA]; exact tmps_own (by kernel_rfl) hx2 (of_decide_eq_true (by kernel_rfl))
   obtain ⟨x7, hx7, hg7⟩ := hdeps ⟨7, .data⟩ (by simp) rfl
   have hg7 : x7 = .pointer (some ⟨w.heap.size, 13, none⟩) := hg7
   subst hg7
   have e7 : AA.tmps[10]?.getD undef = .pointer (some ⟨w.heap.size, 13, none⟩) := by rw [hA]; exact tmps_own (by kernel_rfl) hx7 (of_decide_eq_true (by kernel_rfl))
   have hce := hcell 13
   simp only [fld] at hce
   simp [hmi] at hce
   have hfe := hfz 13
   have hK0 : KK (AA.put none undef) _ := hK2 13 2 (.slice Ab nb cb) (by simp) hx2 (Eq.refl _)
   clear hK1 hK2 hA hdeps hcl hmi hcell hfz
   go_simp
   exact hK0
  ·injection ho with ho
   subst ho
   have ef1 : AA.tmps[1]?.getD undef = .pointer (some ⟨w.heap.size, 0, none⟩) := by rw [hA]; exact tmps_free (by kernel_rfl)
   have hK0 : KK (AA.put (some 11) _) _ := hK1 (.pointer (some ⟨w.heap.size, 1, none⟩)) _ (Below.refl _ _) (Eq.refl _) (by decide)
   clear hK1 hK2 hA hdeps hcl hmi hcell hfz
   go_simp
   exact hK0
  ·injection ho with ho
   subst ho
   obtain ⟨x9, hx9, hg9⟩ := hdeps ⟨9, .data⟩ (by simp) rfl
   have hg9 : x9 = .pointer (some ⟨w.heap.size, 1, none⟩) := hg9
   subst hg9
   have e9 : AA.tmps[11]?.getD undef = .pointer (some ⟨w.heap.size, 1, none⟩) := by rw [hA]; exact tmps_own (by kernel_rfl) hx9 (of_decide_eq_true (by kernel_rfl))
   have hK0 : KK (AA.put (some 12) _) _ := hK1 (.pointer (some ⟨w.heap.size, 5, none⟩)) _ (Below.refl _ _) (Eq.refl _) (by decide)
   clear hK1 hK2 hA hdeps hcl hmi hcell hfz
   go_simp
   exact hK0
  ·injection ho with ho
   subst ho
   obtain ⟨x6, hx6, hg6⟩ := hdeps ⟨6, .data⟩ (by simp) rfl
   obtain ⟨Ao, no, co, hv6, hQ6⟩ := hg6
   subst hv6
   have e6 : AA.tmps[9]?.getD undef = .slice Ao no co := by rw [hA]; exact tmps_own (by kernel_rfl) hx6 (of_decide_eq_true (by kernel_rfl))
   obtain ⟨x10, hx10, hg10⟩ := hdeps ⟨10, .data⟩ (by simp) rfl
   have hg10 : x10 = .pointer (some ⟨w.heap.size, 5, none⟩) := hg10
   subst hg10
   have e10 : AA.tmps[12]?.getD undef = .pointer (some ⟨w.heap.size, 5, none⟩) := by rw [hA]; exact tmps_own (by kernel_rfl) hx10 (of_decide_eq_true (by kernel_rfl))
   have hce := hcell 5
   simp only [fld] at hce
   simp [hmi] at hce
   have hfe := hfz 5
   have hK0 : KK (AA.put none undef) _ := hK2 5 6 (.slice Ao no co) (by simp) hx6 (Eq.refl _)
   clear hK1 hK2 hA hdeps hcl hmi hcell hfz
   go_simp
   exact hK0
  ·simp at ho
 ·intro m W hgr hall hbx
  obtain ⟨x0, m0, g0⟩ := hall 0 (by simp)
  replace g0 : x0 = .pointer (some ⟨w.heap.size, 13, none⟩) := g0
  subst g0
  obtain ⟨x1, m1, g1⟩ := hall 1 (by simp)
  replace g1 : x1 = .slice b1 b2 b3 := g1
  subst g1
  obtain ⟨x2, m2, g2⟩ := hall 2 (by simp)
  obtain ⟨Ab, nb, cb, hv2, qb⟩ := g2
  subst hv2
  obtain ⟨x3, m3, g3⟩ := hall 3 (by simp)
  replace g3 : x3 = .pointer (some ⟨w.heap.size, 1, none⟩) := g3
  subst g3
  obtain ⟨x4, m4, g4⟩ := hall 4 (by simp)
  replace g4 : x4 = .pointer (some ⟨w.heap.size, 5, none⟩) := g4
  subst g4
  obtain ⟨x5, m5, g5⟩ := hall 5 (by simp)
  replace g5 : x5 = .slice o1 o2 o3 := g5
  subst g5
  obtain ⟨x6, m6, g6⟩ := hall 6 (by simp)
  obtain ⟨Ao, no, co, hv6, qo⟩ := g6
  subst hv6
  obtain ⟨x7, m7, g7⟩ := hall 7 (by simp)
  replace g7 : x7 = .pointer (some ⟨w.heap.size, 13, none⟩) := g7
  subst g7
  obtain ⟨x8, m8, g8⟩ := hall 8 (by simp)
  replace g8 : x8 = undef := g8
  subst g8
  obtain ⟨x9, m9, g9⟩ := hall 9 (by simp)
  replace g9 : x9 = .pointer (some ⟨w.heap.size, 1, none⟩) := g9
  subst g9
  obtain ⟨x10, m10, g10⟩ := hall 10 (by simp)
  replace g10 : x10 = .pointer (some ⟨w.heap.size, 5, none⟩) := g10
  subst g10
  obtain ⟨x11, m11, g11⟩ := hall 11 (by simp)
  replace g11 : x11 = undef := g11
  subst g11
  rw [frameM_all (by kernel_rfl) [.pointer (some ⟨w.heap.size, 13, none⟩), .slice b1 b2 b3, .slice Ab nb cb, .pointer (some ⟨w.heap.size, 1, none⟩), .pointer (some ⟨w.heap.size, 5, none⟩), .slice o1 o2 o3, .slice Ao no co, .pointer (some ⟨w.heap.size, 13, none⟩), undef, .pointer (some ⟨w.heap.size, 1, none⟩), .pointer (some ⟨w.heap.size, 5, none⟩), undef] rfl (fun i hi => by
    rcases i with _ | _ | _ | _ | _ | _ | _ | _ | _ | _ | _ | _ | i
    ·exact m0
    ·exact m1
    ·exact m2
    ·exact m3
    ·exact m4
    ·exact m5
    ·exact m6
    ·exact m7
    ·exact m8
    ·exact m9
    ·exact m10
    ·exact m11
    ·simp at hi; omega)]
  obtain ⟨cs, hcl, hbk, hcf⟩ := hbx
  have hcs : cs = [.string ⟨into.toArray⟩, .int .i64 kind, .string ⟨nm.toArray⟩, .int .i64 frm, .int .i64 gd, .slice Ao no co, .int .i64 ix, .int .i64 ct, .string ⟨dt.toArray⟩, .int .u64 sa, .int .u64 sb, .int .u64 sc, .int .u64 sd, .slice Ab nb cb, .int .i64 at_, .int .i64 nx, .int .u64 ua, .int .u64 ub, .int .u64 uc, .int .u64 ud, .bool done] := by
   apply List.ext_getElem?
   intro f
   rw [hcf f]
   simp only [fld, m8, m2, m11, m6, Option.isSome_some, and_true]
   rcases f with _ | _ | _ | _ | _ | _ | _ | _ | _ | _ | _ | _ | _ | _ | _ | _ | _ | _ | _ | _ | _ | f <;> simp
  subst hcs
  clear hall hcf hcl m0 m1 m2 m3 m4 m5 m6 m7 m8 m9 m10 m11
  simp only [putAll, Act.put, List.setIfInBounds_toArray, List.set_cons_succ, List.set_cons_zero]
  have k3 := hbk
  have kz := kZ.grown hgr (by simp)
  have hbw := hlow W hgr
  clear hbk
  have hset : ∀ (Q : World → Value → Prop), (∀ W W' v r, Q W v → W.grownBy W' (some r) → r < w.heap.size + 2 → Q W' v) → ∀ (cs : List Value) (W : World) (o : Nat) (v : Value), Q W v → Q (W.setCells (w.heap.size + 1) o cs) v := by
   intro Q hQ cs
   induction cs with
   | nil => intro W o v h; exact h
   | cons u r ih => intro W o v h; exact ih _ _ _ (hQ _ _ _ _ h (grown_box W _ o u) (by omega))
  have HC : Hid (∀ j v, ([.string ⟨into.toArray⟩, .int .i64 kind, .string ⟨nm.toArray⟩, .int .i64 frm, .int .i64 gd, .slice Ao no co, .int .i64 ix, .int .i64 ct, .string ⟨dt.toArray⟩, .int .u64 sa, .int .u64 sb, .int .u64 sc, .int .u64 sd, .slice Ab nb cb, .int .i64 at_, .int .i64 nx, .int .u64 ua, .int .u64 ub, .int .u64 uc, .int .u64 ud, .bool done] : List Value)[j]? = some v → W.cell? ((⟨w.heap.size, 0, none⟩ : Addr).add j) = some v) := by
   show ∀ j v, _ → _
   intro j v hv
   rw [addr_add0, k3.cell j, List.getElem?_toArray]
   exact hv
  have hth := Lib.hid (kz.there 21 (by decide))
  have k4 := Blk.setCells (g := w.heap.size + 1) [.string ⟨into.toArray⟩, .int .i64 kind, .string ⟨nm.toArray⟩, .int .i64 frm, .int .i64 gd, .slice Ao no co, .int .i64 ix, .int .i64 ct, .string ⟨dt.toArray⟩, .int .u64 sa, .int .u64 sb, .int .u64 sc, .int .u64 sd, .slice Ab nb cb, .int .i64 at_, .int .i64 nx, .int .u64 ua, .int .u64 ub, .int .u64 uc, .int .u64 ud, .bool done] W [] [.string ⟨#[]⟩, .int .i64 0, .string ⟨#[]⟩, .int .i64 0, .int .i64 0, .slice none 0 0, .int .i64 0, .int .i64 0, .string ⟨#[]⟩, .int .u64 0, .int .u64 0, .int .u64 0, .int .u64 0, .slice none 0 0, .int .i64 0, .int .i64 0, .int .u64 0, .int .u64 0, .int .u64 0, .int .u64 0, .bool false] rfl kz
  simp only [List.length_nil, List.nil_append] at k4
  have qb := Lib.hid (show Qb (W.setCells (w.heap.size + 1) 0 [.string ⟨into.toArray⟩, .int .i64 kind, .string ⟨nm.toArray⟩, .int .i64 frm, .int .i64 gd, .slice Ao no co, .int .i64 ix, .int .i64 ct, .string ⟨dt.toArray⟩, .int .u64 sa, .int .u64 sb, .int .u64 sc, .int .u64 sd, .slice Ab nb cb, .int .i64 at_, .int .i64 nx, .int .u64 ua, .int .u64 ub, .int .u64 uc, .int .u64 ud, .bool done]) _ from hset _ hqb _ _ _ _ qb)
  have qo := Lib.hid (show Qo (W.setCells (w.heap.size + 1) 0 [.string ⟨into.toArray⟩, .int .i64 kind, .string ⟨nm.toArray⟩, .int .i64 frm, .int .i64 gd, .slice Ao no co, .int .i64 ix, .int .i64 ct, .string ⟨dt.toArray⟩, .int .u64 sa, .int .u64 sb, .int .u64 sc, .int .u64 sd, .slice Ab nb cb, .int .i64 at_, .int .i64 nx, .int .u64 ua, .int .u64 ub, .int .u64 uc, .int .u64 ud, .bool done]) _ from hset _ hqo _ _ _ _ qo)
  have hbw := Lib.hid (below_setCells (g := w.heap.size + 1) (by omega) [.string ⟨into.toArray⟩, .int .i64 kind, .string ⟨nm.toArray⟩, .int .i64 frm, .int .i64 gd, .slice Ao no co, .int .i64 ix, .int .i64 ct, .string ⟨dt.toArray⟩, .int .u64 sa, .int .u64 sb, .int .u64 sc, .int .u64 sd, .slice Ab nb cb, .int .i64 at_, .int .i64 nx, .int .u64 ua, .int .u64 ub, .int .u64 uc, .int .u64 ud, .bool done] W 0 hbw)
  clear hset hlow hgr hsz2 kZ hqb hCb hqo hCo
  obtain ⟨W4, hW4⟩ : ∃ W', W' = W.setCells (w.heap.size + 1) 0 (#[.string ⟨into.toArray⟩, .int .i64 kind, .string ⟨nm.toArray⟩, .int .i64 frm, .int .i64 gd, .slice Ao no co, .int .i64 ix, .int .i64 ct, .string ⟨dt.toArray⟩, .int .u64 sa, .int .u64 sb, .int .u64 sc, .int .u64 sd, .slice Ab nb cb, .int .i64 at_, .int .i64 nx, .int .u64 ua, .int .u64 ub, .int .u64 uc, .int .u64 ud, .bool done] : Array Value).toList := ⟨_, rfl⟩
  rw [show ([.string ⟨into.toArray⟩, .int .i64 kind, .string ⟨nm.toArray⟩, .int .i64 frm, .int .i64 gd, .slice Ao no co, .int .i64 ix, .int .i64 ct, .string ⟨dt.toArray⟩, .int .u64 sa, .int .u64 sb, .int .u64 sc, .int .u64 sd, .slice Ab nb cb, .int .i64 at_, .int .i64 nx, .int .u64 ua, .int .u64 ub, .int .u64 uc, .int .u64 ud, .bool done] : List Value) = (#[.string ⟨into.toArray⟩, .int .i64 kind, .string ⟨nm.toArray⟩, .int .i64 frm, .int .i64 gd, .slice Ao no co, .int .i64 ix, .int .i64 ct, .string ⟨dt.toArray⟩, .int .u64 sa, .int .u64 sb, .int .u64 sc, .int .u64 sd, .slice Ab nb cb, .int .i64 at_, .int .i64 nx, .int .u64 ua, .int .u64 ub, .int .u64 uc, .int .u64 ud, .bool done] : Array Value).toList from rfl, ← hW4] at k4 qb qo hbw
  have HL : Hid ((loadVar 47 ⟨w.heap.size + 1, 0, none⟩).run Tryz.prog W4 = .ok (.agg #[.string ⟨into.toArray⟩, .int .i64 kind, .string ⟨nm.toArray⟩, .int .i64 frm, .int .i64 gd, .slice Ao no co, .int .i64 ix, .int .i64 ct, .string ⟨dt.toArray⟩, .int .u64 sa, .int .u64 sb, .int .u64 sc, .int .u64 sd, .slice Ab nb cb, .int .i64 at_, .int .i64 nx, .int .u64 ua, .int .u64 ub, .int .u64 uc, .int .u64 ud, .bool done]) W4) := by
   refine run_loadVar_at W4 ⟨w.heap.size + 1, 0, none⟩ 47 [.string ⟨into.toArray⟩, .int .i64 kind, .string ⟨nm.toArray⟩, .int .i64 frm, .int .i64 gd, .slice Ao no co, .int .i64 ix, .int .i64 ct, .string ⟨dt.toArray⟩, .int .u64 sa, .int .u64 sb, .int .u64 sc, .int .u64 sd, .slice Ab nb cb, .int .i64 at_, .int .i64 nx, .int .u64 ua, .int .u64 ub, .int .u64 uc, .int .u64 ud, .bool done] _ (fun j v hv => ?_) Tryz.underlying47 rfl (by kernel_rfl)
   rw [addr_add0, k4.cell j, List.getElem?_toArray]
   exact hv
  clear k3 kz k4
  go_wp2_with (first | (refine wpList_load_at rfl 47 (.tmp 1) rfl ⟨w.heap.size, 0, none⟩ rfl [.string ⟨into.toArray⟩, .int .i64 kind, .string ⟨nm.toArray⟩, .int .i64 frm, .int .i64 gd, .slice Ao no co, .int .i64 ix, .int .i64 ct, .string ⟨dt.toArray⟩, .int .u64 sa, .int .u64 sb, .int .u64 sc, .int .u64 sd, .slice Ab nb cb, .int .i64 at_, .int .i64 nx, .int .u64 ua, .int .u64 ub, .int .u64 uc, .int .u64 ud, .bool done] _ HC.out Tryz.underlying47 rfl (by kernel_rfl) ?_) | (refine wpList_store_mid rfl 47 (.tmp 2) (.tmp 13) rfl (w.heap.size + 1) 0 #[.string ⟨into.toArray⟩, .int .i64 kind, .string ⟨nm.toArray⟩, .int .i64 frm, .int .i64 gd, .slice Ao no co, .int .i64 ix, .int .i64 ct, .string ⟨dt.toArray⟩, .int .u64 sa, .int .u64 sb, .int .u64 sc, .int .u64 sd, .slice Ab nb cb, .int .i64 at_, .int .i64 nx, .int .u64 ua, .int .u64 ub, .int .u64 uc, .int .u64 ud, .bool done] rfl rfl hth.out (by kernel_rfl) (by simp [Value.oneCell']) ?_; rw [← hW4]; clear hW4))
  exact bodyPost_ret (v := .agg #[.string ⟨into.toArray⟩, .int .i64 kind, .string ⟨nm.toArray⟩, .int .i64 frm, .int .i64 gd, .slice Ao no co, .int .i64 ix, .int .i64 ct, .string ⟨dt.toArray⟩, .int .u64 sa, .int .u64 sb, .int .u64 sc, .int .u64 sd, .slice Ab nb cb, .int .i64 at_, .int .i64 nx, .int .u64 ua, .int .u64 ub, .int .u64 uc, .int .u64 ud, .bool done]) (results_cell rfl rfl HL.out) rfl ⟨Ab, nb, cb, Ao, no, co, rfl, qb.out, qo.out, hbw.out⟩
set_option maxRecDepth 100000 in
set_option maxHeartbeats 4000000 in
theorem copyTen_abs (nm : BS) (qu nx : Int) (s1 : Option Addr) (s2 s3 : Nat) (g1 : Option Addr) (g2 g3 : Nat) (t1 : Option Addr) (t2 t3 : Nat) (l1 : Option Addr) (l2 l3 : Nat) (w : World)
  (Qz : World → Value → Prop) (hqz : ∀ W W' v r, Qz W v → W.grownBy W' (some r) → r < w.heap.size + 2 → Qz W' v)
  (hCz : ∀ W, Below w.heap.size w W → w.heap.size + 2 ≤ W.heap.size → Calls Tryz.prog 84 #[.slice s1 s2 s3, .func (.func 85) #[] #[]] W fun e w' => ∃ A n c, e = .returned (.slice A n c) ∧ Qz w' (.slice A n c) ∧ Below W.heap.size W w')
  (Qg : World → Value → Prop) (hqg : ∀ W W' v r, Qg W v → W.grownBy W' (some r) → r < w.heap.size + 2 → Qg W' v)
  (hCg : ∀ W, Below w.heap.size w W → w.heap.size + 2 ≤ W.heap.size → Calls Tryz.prog 86 #[.slice g1 g2 g3] W fun e w' => ∃ A n c, e = .returned (.slice A n c) ∧ Qg w' (.slice A n c) ∧ Below W.heap.size W w')
  (Qt : World → Value → Prop) (hqt : ∀ W W' v r, Qt W v → W.grownBy W' (some r) → r < w.heap.size + 2 → Qt W' v)
  (hCt : ∀ W, Below w.heap.size w W → w.heap.size + 2 ≤ W.heap.size → Calls Tryz.prog 87 #[.slice t1 t2 t3, .func (.func 88) #[] #[]] W fun e w' => ∃ A n c, e = .returned (.slice A n c) ∧ Qt w' (.slice A n c) ∧ Below W.heap.size W w')
  (Ql : World → Value → Prop) (hql : ∀ W W' v r, Ql W v → W.grownBy W' (some r) → r < w.heap.size + 2 → Ql W' v)
  (hCl : ∀ W, Below w.heap.size w W → w.heap.size + 2 ≤ W.heap.size → Calls Tryz.prog 89 #[.slice l1 l2 l3] W fun e w' => ∃ A n c, e = .returned (.slice A n c) ∧ Ql w' (.slice A n c) ∧ Below W.heap.size W w') :
  Calls Tryz.prog 38 #[.agg #[.string ⟨nm.toArray⟩, .int .i64 qu, .int .i64 nx, .slice s1 s2 s3, .slice g1 g2 g3, .slice t1 t2 t3, .slice l1 l2 l3]] w fun e w' => ∃ Az nz cz Ag ng cg At nt ct Al nl cl, e = .returned (.agg #[.string ⟨nm.toArray⟩, .int .i64 qu, .int .i64 nx, .slice Az nz cz, .slice Ag ng cg, .slice At nt ct, .slice Al nl cl]) ∧ Qz w' (.slice Az nz cz) ∧ Qg w' (.slice Ag ng cg) ∧ Qt w' (.slice At nt ct) ∧ Ql w' (.slice Al nl cl) ∧ Below w.heap.size w w' := by
 go_enter Tryz.func38, Tryz.ntmps38
 go_upto_region 1 with (fail)
 have kB := (Blk.new w 27 #[.string ⟨nm.toArray⟩, .int .i64 qu, .int .i64 nx, .slice s1 s2 s3, .slice g1 g2 g3, .slice t1 t2 t3, .slice l1 l2 l3]).alloc (.cells #[.string ⟨#[]⟩, .int .i64 0, .int .i64 0, .slice none 0 0, .slice none 0 0, .slice none 0 0, .slice none 0 0] 27)
 have kZ := Blk.new (w.alloc (.cells #[.string ⟨nm.toArray⟩, .int .i64 qu, .int .i64 nx, .slice s1 s2 s3, .slice g1 g2 g3, .slice t1 t2 t3, .slice l1 l2 l3] 27)) 27 #[.string ⟨#[]⟩, .int .i64 0, .int .i64 0, .slice none 0 0, .slice none 0 0, .slice none 0 0, .slice none 0 0]
 rw [show (w.alloc (.cells #[.string ⟨nm.toArray⟩, .int .i64 qu, .int .i64 nx, .slice s1 s2 s3, .slice g1 g2 g3, .slice t1 t2 t3, .slice l1 l2 l3] 27)).heap.size = w.heap.size + 1 by simp] at kZ
 have hb2 := ((Below.refl w.heap.size w).alloc (Nat.le_refl _) (.cells #[.string ⟨nm.toArray⟩, .int .i64 qu, .int .i64 nx, .slice s1 s2 s3, .slice g1 g2 g3, .slice t1 t2 t3, .slice l1 l2 l3] 27)).alloc (by simp) (.cells #[.string ⟨#[]⟩, .int .i64 0, .int .i64 0, .slice none 0 0, .slice none 0 0, .slice none 0 0, .slice none 0 0] 27)
 obtain ⟨W2, hW2⟩ : ∃ W, W = (w.alloc (.cells #[.string ⟨nm.toArray⟩, .int .i64 qu, .int .i64 nx, .slice s1 s2 s3, .slice g1 g2 g3, .slice t1 t2 t3, .slice l1 l2 l3] 27)).alloc (.cells #[.string ⟨#[]⟩, .int .i64 0, .int .i64 0, .slice none 0 0, .slice none 0 0, .slice none 0 0, .slice none 0 0] 27) := ⟨_, rfl⟩
 have hsz : W2.heap.size = w.heap.size + 2 := by rw [hW2]; simp
 rw [← hW2] at kB kZ hb2 ⊢
 have hsz2 : w.heap.size + 2 ≤ W2.heap.size := by omega
 have hlow : ∀ W, W2.grownBy W (some w.heap.size) → Below w.heap.size w W := fun W h => hb2.grown h (by omega) (fun k hk => by simp at hk; omega)
 clear hW2 hb2 hsz
 refine wp_region_box (by kernel_rfl) (by kernel_rfl) w.heap.size 27 [.string ⟨nm.toArray⟩, .int .i64 qu, .int .i64 nx, .slice s1 s2 s3, .slice g1 g2 g3, .slice t1 t2 t3, .slice l1 l2 l3] [(13, 3, 2), (15, 4, 5), (17, 5, 8), (19, 6, 11)] (by kernel_rfl) [(fun v _ => v = .pointer (some ⟨w.heap.size, 3, none⟩)),
  (fun v _ => v = .slice s1 s2 s3),
  (fun v W => ∃ A n c, v = .slice A n c ∧ Qz W (.slice A n c)),
  (fun v _ => v = .pointer (some ⟨w.heap.size, 4, none⟩)),
  (fun v _ => v = .slice g1 g2 g3),
  (fun v W => ∃ A n c, v = .slice A n c ∧ Qg W (.slice A n c)),
  (fun v _ => v = .pointer (some ⟨w.heap.size, 5, none⟩)),
  (fun v _ => v = .slice t1 t2 t3),
  (fun v W => ∃ A n c, v = .slice A n c ∧ Qt W (.slice A n c)),
  (fun v _ => v = .pointer (some ⟨w.heap.size, 6, none⟩)),
  (fun v _ => v = .slice l1 l2 l3),
  (fun v W => ∃ A n c, v = .slice A n c ∧ Ql W (.slice A n c)),
  (fun v _ => v = .pointer (some ⟨w.heap.size, 3, none⟩)),
  (fun v _ => v = undef),
  (fun v _ => v = .pointer (some ⟨w.heap.size, 4, none⟩)),
  (fun v _ => v = undef),
  (fun v _ => v = .pointer (some ⟨w.heap.size, 5, none⟩)),
  (fun v _ => v = undef),
  (fun v _ => v = .pointer (some ⟨w.heap.size, 6, none⟩)),
  (fun v _ => v = undef)] (staysB_cons StaysB.pure (staysB_cons StaysB.pure (staysB_cons (fun v W W' h hg => let ⟨A, n, c, h1, h2⟩ := h; ⟨A, n, c, h1, hqz _ _ _ _ h2 hg (by omega)⟩) (staysB_cons StaysB.pure (staysB_cons StaysB.pure (staysB_cons (fun v W W' h hg => let ⟨A, n, c, h1, h2⟩ := h; ⟨A, n, c, h1, hqg _ _ _ _ h2 hg (by omega)⟩) (staysB_cons StaysB.pure (staysB_cons StaysB.pure (staysB_cons (fun v W W' h hg => let ⟨A, n, c, h1, h2⟩ := h; ⟨A, n, c, h1, hqt _ _ _ _ h2 hg (by omega)⟩) (staysB_cons StaysB.pure (staysB_cons StaysB.pure (staysB_cons (fun v W W' h hg => let ⟨A, n, c, h1, h2⟩ := h; ⟨A, n, c, h1, hql _ _ _ _ h2 hg (by omega)⟩) (staysB_cons StaysB.pure (staysB_cons StaysB.pure (staysB_cons StaysB.pure (staysB_cons StaysB.pure (staysB_cons StaysB.pure (staysB_cons StaysB.pure (staysB_cons StaysB.pure (staysB_cons StaysB.pure (staysB_nil))))))))))))))))))))) kB ?_ ?_
 ·intro i oo ho m W hgr hmi hcl hdeps hcell hfz hlt AA KK hA hK1 hK2
  clear kB kZ
  rcases i with _ | _ | _ | _ | _ | _ | _ | _ | _ | _ | _ | _ | _ | _ | _ | _ | _ | _ | _ | _ | i
  ·injection ho with ho
   subst ho
   have ef1 : AA.tmps[1]?.getD undef = .pointer (some ⟨w.heap.size, 0, none⟩) := by rw [hA]; exact tmps_free (by kernel_rfl)
   have hK0 : KK (AA.put (some 3) _) _ := hK1 (.pointer (some ⟨w.heap.size, 3, none⟩)) _ (Below.refl _ _) (Eq.refl _) (by decide)
   clear hK1 hK2 hA hdeps hcl hmi hcell hfz
   go_simp
   exact hK0
  ·injection ho with ho
   subst ho
   obtain ⟨x0, hx0, hg0⟩ := hdeps ⟨0, .data⟩ (by simp) rfl
   have hg0 : x0 = .pointer (some ⟨w.heap.size, 3, none⟩) := hg0
   subst hg0
   have e0 : AA.tmps[3]?.getD undef = .pointer (some ⟨w.heap.size, 3, none⟩) := by rw [hA]; exact tmps_own (by kernel_rfl) hx0 (of_decide_eq_true (by kernel_rfl))
   have hs0 : m 13 = none := none_up hcl (j := 13) rfl (e := ⟨1, .phase⟩) (by simp) rfl hmi
   have hce := hcell 3
   simp only [fld] at hce
   simp [hs0] at hce
   have hK0 : KK (AA.put (some 4) _) _ := hK1 (.slice s1 s2 s3) _ (Below.refl _ _) (Eq.refl _) (by decide)
   clear hK1 hK2 hA hdeps hcl hmi hcell hfz hs0
   go_simp
   exact hK0
  ·injection ho with ho
   subst ho
   obtain ⟨x1, hx1, hg1⟩ := hdeps ⟨1, .data⟩ (by simp) rfl
   have hg1 : x1 = .slice s1 s2 s3 := hg1
   subst hg1
   have e1 : AA.tmps[4]?.getD undef = .slice s1 s2 s3 := by rw [hA]; exact tmps_own (by kernel_rfl) hx1 (of_decide_eq_true (by kernel_rfl))
   have hKK := hK1
   clear hK1 hK2 hA hdeps hcl hmi hcell hfz
   go_simp
   refine (hCz W (hlow W hgr) (Nat.le_trans hsz2 hgr.size)).mono ?_
   rintro e w2 ⟨A, n, c, rfl, hQ, hb⟩
   exact hKK _ _ hb ⟨A, n, c, rfl, hQ⟩ (by decide)
  ·injection ho with ho
   subst ho
   have ef1 : AA.tmps[1]?.getD undef = .pointer (some ⟨w.heap.size, 0, none⟩) := by rw [hA]; exact tmps_free (by kernel_rfl)
   have hK0 : KK (AA.put (some 6) _) _ := hK1 (.pointer (some ⟨w.heap.size, 4, none⟩)) _ (Below.refl _ _) (Eq.refl _) (by decide)
   clear hK1 hK2 hA hdeps hcl hmi hcell hfz
   go_simp
   exact hK0
  ·injection ho with ho
   subst ho
   obtain ⟨x3, hx3, hg3⟩ := hdeps ⟨3, .data⟩ (by simp) rfl
   have hg3 : x3 = .pointer (some ⟨w.heap.size, 4, none⟩) := hg3
   subst hg3
   have e3 : AA.tmps[6]?.getD undef = .pointer (some ⟨w.heap.size, 4, none⟩) := by rw [hA]; exact tmps_own (by kernel_rfl) hx3 (of_decide_eq_true (by kernel_rfl))
   have hs0 : m 15 = none := none_up hcl (j := 15) rfl (e := ⟨4, .phase⟩) (by simp) rfl hmi
   have hce := hcell 4
   simp only [fld] at hce
   simp [hs0] at hce
   have hK0 : KK (AA.put (some 7) _) _ := hK1 (.slice g1 g2 g3) _ (Below.refl _ _) (Eq.refl _) (by decide)
   clear hK1 hK2 hA hdeps hcl hmi hcell hfz hs0
   go_simp
   exact hK0
  ·injection ho with ho
   subst ho
   obtain ⟨x4, hx4, hg4⟩ := hdeps ⟨4, .data⟩ (by simp) rfl
   have hg4 : x4 = .slice g1 g2 g3 := hg4
   subst hg4
   have e4 : AA.tmps[7]?.getD undef = .slice g1 g2 g3 := by rw [hA]; exact tmps_own (by kernel_rfl) hx4 (of_decide_eq_true (by kernel_rfl))
   have hKK := hK1
   clear hK1 hK2 hA hdeps hcl hmi hcell hfz
   go_simp
   refine (hCg W (hlow W hgr) (Nat.le_trans hsz2 hgr.size)).mono ?_
   rintro e w2 ⟨A, n, c, rfl, hQ, hb⟩
   exact hKK _ _ hb ⟨A, n, c, rfl, hQ⟩ (by decide)
  ·injection ho with ho
   subst ho
   have ef1 : AA.tmps[1]?.getD undef = .pointer (some ⟨w.heap.size, 0, none⟩) := by rw [hA]; exact tmps_free (by kernel_rfl)
   have hK0 : KK (AA.put (some 9) _) _ := hK1 (.pointer (some ⟨w.heap.size, 5, none⟩)) _ (Below.refl _ _) (Eq.refl _) (by decide)
   clear hK1 hK2 hA hdeps hcl hmi hcell hfz
   go_simp
   exact hK0
  ·injection ho with ho
   subst ho
   obtain ⟨x6, hx6, hg6⟩ := hdeps ⟨6, .data⟩ (by simp) rfl
   have hg6 : x6 = .pointer (some ⟨w.heap.size, 5, none⟩) := hg6
   subst hg6
   have e6 : AA.tmps[9]?.getD undef = .pointer (some ⟨w.heap.size, 5, none⟩) := by rw [hA]; exact tmps_own (by kernel_rfl) hx6 (of_decide_eq_true (by kernel_rfl))
   have hs0 : m 17 = none := none_up hcl (j := 17) rfl (e := ⟨7, .phase⟩) (by simp) rfl hmi
   have hce := hcell 5
   simp only [fld] at hce
   simp [hs0] at hce
   have hK0 : KK (AA.put (some 10) _) _ := hK1 (.slice t1 t2 t3) _ (Below.refl _ _) (Eq.refl _) (by decide)
   clear hK1 hK2 hA hdeps hcl hmi hcell hfz hs0
   go_simp
   exact hK0
  ·injection ho with ho
   subst ho
   obtain ⟨x7, hx7, hg7⟩ := hdeps ⟨7, .data⟩ (by simp) rfl
   have hg7 : x7 = .slice t1 t2 t3 := hg7
   subst hg7
   have e7 : AA.tmps[10]?.getD undef = .slice t1 t2 t3 := by rw [hA]; exact tmps_own (by kernel_rfl) hx7 (of_decide_eq_true (by kernel_rfl))
   have hKK := hK1
   clear hK1 hK2 hA hdeps hcl hmi hcell hfz
   go_simp
   refine (hCt W (hlow W hgr) (Nat.le_trans hsz2 hgr.size)).mono ?_
   rintro e w2 ⟨A, n, c, rfl, hQ, hb⟩
   exact hKK _ _ hb ⟨A, n, c, rfl, hQ⟩ (by decide)
  ·injection ho with ho
   subst ho
   have ef1 : AA.tmps[1]?.getD undef = .pointer (some ⟨w.heap.size, 0, none⟩) := by rw [hA]; exact tmps_free (by kernel_rfl)
   have hK0 : KK (AA.put (some 12) _) _ := hK1 (.pointer (some ⟨w.heap.size, 6, none⟩)) _ (Below.refl _ _) (Eq.refl _) (by decide)
   clear hK1 hK2 hA hdeps hcl hmi hcell hfz
   go_simp
   exact hK0
  ·injection ho with ho
   subst ho
   obtain ⟨x9, hx9, hg9⟩ := hdeps ⟨9, .data⟩ (by simp) rfl
   have hg9 : x9 = .pointer (some ⟨w.heap.size, 6, none⟩) := hg9
   subst hg9
   have e9 : AA.tmps[12]?.getD undef = .pointer (some ⟨w.heap.size, 6, none⟩) := by rw [hA]; exact tmps_own (by kernel_rfl) hx9 (of_decide_eq_true (by kernel_rfl))
   have hs0 : m 19 = none := none_up hcl (j := 19) rfl (e := ⟨10, .phase⟩) (by simp) rfl hmi
   have hce := hcell 6
   simp only [fld] at hce
   simp [hs0] at hce
   have hK0 : KK (AA.put (some 13) _) _ := hK1 (.slice l1 l2 l3) _ (Below.refl _ _) (Eq.refl _) (by decide)
   clear hK1 hK2 hA hdeps hcl hmi hcell hfz hs0
   go_simp
   exact hK0
  ·injection ho with ho
   subst ho
   obtain ⟨x10, hx10, hg10⟩ := hdeps ⟨10, .data⟩ (by simp) rfl
   have hg10 : x10 = .slice l1 l2 l3 := hg10
   subst hg10
   have e10 : AA.tmps[13]?.getD undef = .slice l1 l2 l3 := by rw [hA]; exact tmps_own (by kernel_rfl) hx10 (of_decide_eq_true (by kernel_rfl))
   have hKK := hK1
   clear hK1 hK2 hA hdeps hcl hmi hcell hfz
   go_simp
   refine (hCl W (hlow W hgr) (Nat.le_trans hsz2 hgr.size)).mono ?_
   rintro e w2 ⟨A, n, c, rfl, hQ, hb⟩
   exact hKK _ _ hb ⟨A, n, c, rfl, hQ⟩ (by decide)
  ·injection ho with ho
   subst ho
   have ef1 : AA.tmps[1]?.getD undef = .pointer (some ⟨w.heap.size, 0, none⟩) := by rw [hA]; exact tmps_free (by kernel_rfl)
   have hK0 : KK (AA.put (some 15) _) _ := hK1 (.pointer (some ⟨w.heap.size, 3, none⟩)) _ (Below.refl _ _) (Eq.refl _) (by decide)
   clear hK1 hK2 hA hdeps hcl hmi hcell hfz
   go_simp
   exact hK0
  ·injection ho with ho
   subst ho
   obtain ⟨x2, hx2, hg2⟩ := hdeps ⟨2, .data⟩ (by simp) rfl
   obtain ⟨Az, nz, cz, hv2, hQ2⟩ := hg2
   subst hv2
   have e2 : AA.tmps[5]?.getD undef = .slice Az nz cz := by rw [hA]; exact tmps_own (by kernel_rfl) hx2 (of_decide_eq_true (by kernel_rfl))
   obtain ⟨x12, hx12, hg12⟩ := hdeps ⟨12, .data⟩ (by simp) rfl
   have hg12 : x12 = .pointer (some ⟨w.heap.size, 3, none⟩) := hg12
   subst hg12
   have e12 : AA.tmps[15]?.getD undef = .pointer (some ⟨w.heap.size, 3, none⟩) := by rw [hA]; exact tmps_own (by kernel_rfl) hx12 (of_decide_eq_true (by kernel_rfl))
   have hce := hcell 3
   simp only [fld] at hce
   simp [hmi] at hce
   have hfe := hfz 3
   have hK0 : KK (AA.put none undef) _ := hK2 3 2 (.slice Az nz cz) (by simp) hx2 (Eq.refl _)
   clear hK1 hK2 hA hdeps hcl hmi hcell hfz
   go_simp
   exact hK0
  ·injection ho with ho
   subst ho
   have ef1 : AA.tmps[1]?.getD undef = .pointer (some ⟨w.heap.size, 0, none⟩) := by rw [hA]; exact tmps_free (by kernel_rfl)
   have hK0 : KK (AA.put (some 16) _) _ := hK1 (.pointer (some ⟨w.heap.size, 4, none⟩)) _ (Below.refl _ _) (Eq.refl _) (by decide)
   clear hK1 hK2 hA hdeps hcl hmi hcell hfz
   go_simp
   exact hK0
  ·injection ho with ho
   subst ho
   obtain ⟨x5, hx5, hg5⟩ := hdeps ⟨5, .data⟩ (by simp) rfl
   obtain ⟨Ag, ng, cg, hv5, hQ5⟩ := hg5
   subst hv5
   have e5 : AA.tmps[8]?.getD undef = .slice Ag ng cg := by rw [hA]; exact tmps_own (by kernel_rfl) hx5 (of_decide_eq_true (by kernel_rfl))
   obtain ⟨x14, hx14, hg14⟩ := hdeps ⟨14, .data⟩ (by simp) rfl
   have hg14 : x14 = .pointer (some ⟨w.heap.size, 4, none⟩) := hg14
   subst hg14
   have e14 : AA.tmps[16]?.getD undef = .pointer (some ⟨w.heap.size, 4, none⟩) := by rw [hA]; exact tmps_own (by kernel_rfl) hx14 (of_decide_eq_true (by kernel_rfl))
   have hce := hcell 4
   simp only [fld] at hce
   simp [hmi] at hce
   have hfe := hfz 4
   have hK0 : KK (AA.put none undef) _ := hK2 4 5 (.slice Ag ng cg) (by simp) hx5 (Eq.refl _)
   clear hK1 hK2 hA hdeps hcl hmi hcell hfz
   go_simp
   exact hK0
  ·injection ho with ho
   subst ho
   have ef1 : AA.tmps[1]?.getD undef = .pointer (some ⟨w.heap.size, 0, none⟩) := by rw [hA]; exact tmps_free (by kernel_rfl)
   have hK0 : KK (AA.put (some 17) _) _ := hK1 (.pointer (some ⟨w.heap.size, 5, none⟩)) _ (Below.refl _ _) (Eq.refl _) (by decide)
   clear hK1 hK2 hA hdeps hcl hmi hcell hfz
   go_simp
   exact hK0
  ·injection ho with ho
   subst ho
   obtain ⟨x8, hx8, hg8⟩ := hdeps ⟨8, .data⟩ (by simp) rfl
   obtain ⟨At, nt, ct, hv8, hQ8⟩ := hg8
   subst hv8
   have e8 : AA.tmps[11]?.getD undef = .slice At nt ct := by rw [hA]; exact tmps_own (by kernel_rfl) hx8 (of_decide_eq_true (by kernel_rfl))
   obtain ⟨x16, hx16, hg16⟩ := hdeps ⟨16, .data⟩ (by simp) rfl
   have hg16 : x16 = .pointer (some ⟨w.heap.size, 5, none⟩) := hg16
   subst hg16
   have e16 : AA.tmps[17]?.getD undef = .pointer (some ⟨w.heap.size, 5, none⟩) := by rw [hA]; exact tmps_own (by kernel_rfl) hx16 (of_decide_eq_true (by kernel_rfl))
   have hce := hcell 5
   simp only [fld] at hce
   simp [hmi] at hce
   have hfe := hfz 5
   have hK0 : KK (AA.put none undef) _ := hK2 5 8 (.slice At nt ct) (by simp) hx8 (Eq.refl _)
   clear hK1 hK2 hA hdeps hcl hmi hcell hfz
   go_simp
   exact hK0
  ·injection ho with ho
   subst ho
   have ef1 : AA.tmps[1]?.getD undef = .pointer (some ⟨w.heap.size, 0, none⟩) := by rw [hA]; exact tmps_free (by kernel_rfl)
   have hK0 : KK (AA.put (some 18) _) _ := hK1 (.pointer (some ⟨w.heap.size, 6, none⟩)) _ (Below.refl _ _) (Eq.refl _) (by decide)
   clear hK1 hK2 hA hdeps hcl hmi hcell hfz
   go_simp
   exact hK0
  ·injection ho with ho
   subst ho
   obtain ⟨x11, hx11, hg11⟩ := hdeps ⟨11, .data⟩ (by simp) rfl
   obtain ⟨Al, nl, cl, hv11, hQ11⟩ := hg11
   subst hv11
   have e11 : AA.tmps[14]?.getD undef = .slice Al nl cl := by rw [hA]; exact tmps_own (by kernel_rfl) hx11 (of_decide_eq_true (by kernel_rfl))
   obtain ⟨x18, hx18, hg18⟩ := hdeps ⟨18, .data⟩ (by simp) rfl
   have hg18 : x18 = .pointer (some ⟨w.heap.size, 6, none⟩) := hg18
   subst hg18
   have e18 : AA.tmps[18]?.getD undef = .pointer (some ⟨w.heap.size, 6, none⟩) := by rw [hA]; exact tmps_own (by kernel_rfl) hx18 (of_decide_eq_true (by kernel_rfl))
   have hce := hcell 6
   simp only [fld] at hce
   simp [hmi] at hce
   have hfe := hfz 6
   have hK0 : KK (AA.put none undef) _ := hK2 6 11 (.slice Al nl cl) (by simp) hx11 (Eq.refl _)
   clear hK1 hK2 hA hdeps hcl hmi hcell hfz
   go_simp
   exact hK0
  ·simp at ho
 ·intro m W hgr hall hbx
  obtain ⟨x0, m0, g0⟩ := hall 0 (by simp)
  replace g0 : x0 = .pointer (some ⟨w.heap.size, 3, none⟩) := g0
  subst g0
  obtain ⟨x1, m1, g1⟩ := hall 1 (by simp)
  replace g1 : x1 = .slice s1 s2 s3 := g1
  subst g1
  obtain ⟨x2, m2, g2⟩ := hall 2 (by simp)
  obtain ⟨Az, nz, cz, hv2, qz⟩ := g2
  subst hv2
  obtain ⟨x3, m3, g3⟩ := hall 3 (by simp)
  replace g3 : x3 = .pointer (some ⟨w.heap.size, 4, none⟩) := g3
  subst g3
  obtain ⟨x4, m4, g4⟩ := hall 4 (by simp)
  replace g4 : x4 = .slice g1 g2 g3 := g4
  subst g4
  obtain ⟨x5, m5, g5⟩ := hall 5 (by simp)
  obtain ⟨Ag, ng, cg, hv5, qg⟩ := g5
  subst hv5
  obtain ⟨x6, m6, g6⟩ := hall 6 (by simp)
  replace g6 : x6 = .pointer (some ⟨w.heap.size, 5, none⟩) := g6
  subst g6
  obtain ⟨x7, m7, g7⟩ := hall 7 (by simp)
  replace g7 : x7 = .slice t1 t2 t3 := g7
  subst g7
  obtain ⟨x8, m8, g8⟩ := hall 8 (by simp)
  obtain ⟨At, nt, ct, hv8, qt⟩ := g8
  subst hv8
  obtain ⟨x9, m9, g9⟩ := hall 9 (by simp)
  replace g9 : x9 = .pointer (some ⟨w.heap.size, 6, none⟩) := g9
  subst g9
  obtain ⟨x10, m10, g10⟩ := hall 10 (by simp)
  replace g10 : x10 = .slice l1 l2 l3 := g10
  subst g10
  obtain ⟨x11, m11, g11⟩ := hall 11 (by simp)
  obtain ⟨Al, nl, cl, hv11, ql⟩ := g11
  subst hv11
  obtain ⟨x12, m12, g12⟩ := hall 12 (by simp)
  replace g12 : x12 = .pointer (some ⟨w.heap.size, 3, none⟩) := g12
  subst g12
  obtain ⟨x13, m13, g13⟩ := hall 13 (by simp)
  replace g13 : x13 = undef := g13
  subst g13
  obtain ⟨x14, m14, g14⟩ := hall 14 (by simp)
  replace g14 : x14 = .pointer (some ⟨w.heap.size, 4, none⟩) := g14
  subst g14
  obtain ⟨x15, m15, g15⟩ := hall 15 (by simp)
  replace g15 : x15 = undef := g15
  subst g15
  obtain ⟨x16, m16, g16⟩ := hall 16 (by simp)
  replace g16 : x16 = .pointer (some ⟨w.heap.size, 5, none⟩) := g16
  subst g16
  obtain ⟨x17, m17, g17⟩ := hall 17 (by simp)
  replace g17 : x17 = undef := g17
  subst g17
  obtain ⟨x18, m18, g18⟩ := hall 18 (by simp)
  replace g18 : x18 = .pointer (some ⟨w.heap.size, 6, none⟩) := g18
  subst g18
  obtain ⟨x19, m19, g19⟩ := hall 19 (by simp)
  replace g19 : x19 = undef := g19
  subst g19
  rw [frameM_all (by kernel_rfl) [.pointer (some ⟨w.heap.size, 3, none⟩), .slice s1 s2 s3, .slice Az nz cz, .pointer (some ⟨w.heap.size, 4, none⟩), .slice g1 g2 g3, .slice Ag ng cg, .pointer (some ⟨w.heap.size, 5, none⟩), .slice t1 t2 t3, .slice At nt ct, .pointer (some ⟨w.heap.size, 6, none⟩), .slice l1 l2 l3, .slice Al nl cl, .pointer (some ⟨w.heap.size, 3, none⟩), undef, .pointer (some ⟨w.heap.size, 4, none⟩), undef, .pointer (some ⟨w.heap.size, 5, none⟩), undef, .pointer (some ⟨w.heap.size, 6, none⟩), undef] rfl (fun i hi => by
    rcases i with _ | _ | _ | _ | _ | _ | _ | _ | _ | _ | _ | _ | _ | _ | _ | _ | _ | _ | _ | _ | i
    ·exact m0
    ·exact m1
    ·exact m2
    ·exact m3
    ·exact m4
    ·exact m5
    ·exact m6
    ·exact m7
    ·exact m8
    ·exact m9
    ·exact m10
    ·exact m11
    ·exact m12
    ·exact m13
    ·exact m14
    ·exact m15
    ·exact m16
    ·exact m17
    ·exact m18
    ·exact m19
    ·simp at hi; omega)]
  obtain ⟨cs, hcl, hbk, hcf⟩ := hbx
  have hcs : cs = [.string ⟨nm.toArray⟩, .int .i64 qu, .int .i64 nx, .slice Az nz cz, .slice Ag ng cg, .slice At nt ct, .slice Al nl cl] := by
   apply List.ext_getElem?
   intro f
   rw [hcf f]
   simp only [fld, m13, m2, m15, m5, m17, m8, m19, m11, Option.isSome_some, and_true]
   rcases f with _ | _ | _ | _ | _ | _ | _ | f <;> simp
  subst hcs
  clear hall hcf hcl m0 m1 m2 m3 m4 m5 m6 m7 m8 m9 m10 m11 m12 m13 m14 m15 m16 m17 m18 m19
  simp only [putAll, Act.put, List.setIfInBounds_toArray, List.set_cons_succ, List.set_cons_zero]
  have k3 := hbk
  have kz := kZ.grown hgr (by simp)
  have hbw := hlow W hgr
  clear hbk
  have hset : ∀ (Q : World → Value → Prop), (∀ W W' v r, Q W v → W.grownBy W' (some r) → r < w.heap.size + 2 → Q W' v) → ∀ (cs : List Value) (W : World) (o : Nat) (v : Value), Q W v → Q (W.setCells (w.heap.size + 1) o cs) v := by
   intro Q hQ cs
   induction cs with
   | nil => intro W o v h; exact h
   | cons u r ih => intro W o v h; exact ih _ _ _ (hQ _ _ _ _ h (grown_box W _ o u) (by omega))
  have HC : Hid (∀ j v, ([.string ⟨nm.toArray⟩, .int .i64 qu, .int .i64 nx, .slice Az nz cz, .slice Ag ng cg, .slice At nt ct, .slice Al nl cl] : List Value)[j]? = some v → W.cell? ((⟨w.heap.size, 0, none⟩ : Addr).add j) = some v) := by
   show ∀ j v, _ → _
   intro j v hv
   rw [addr_add0, k3.cell j, List.getElem?_toArray]
   exact hv
  have hth := Lib.hid (kz.there 7 (by decide))
  have k4 := Blk.setCells (g := w.heap.size + 1) [.string ⟨nm.toArray⟩, .int .i64 qu, .int .i64 nx, .slice Az nz cz, .slice Ag ng cg, .slice At nt ct, .slice Al nl cl] W [] [.string ⟨#[]⟩, .int .i64 0, .int .i64 0, .slice none 0 0, .slice none 0 0, .slice none 0 0, .slice none 0 0] rfl kz
  simp only [List.length_nil, List.nil_append] at k4
  have qz := Lib.hid (show Qz (W.setCells (w.heap.size + 1) 0 [.string ⟨nm.toArray⟩, .int .i64 qu, .int .i64 nx, .slice Az nz cz, .slice Ag ng cg, .slice At nt ct, .slice Al nl cl]) _ from hset _ hqz _ _ _ _ qz)
  have qg := Lib.hid (show Qg (W.setCells (w.heap.size + 1) 0 [.string ⟨nm.toArray⟩, .int .i64 qu, .int .i64 nx, .slice Az nz cz, .slice Ag ng cg, .slice At nt ct, .slice Al nl cl]) _ from hset _ hqg _ _ _ _ qg)
  have qt := Lib.hid (show Qt (W.setCells (w.heap.size + 1) 0 [.string ⟨nm.toArray⟩, .int .i64 qu, .int .i64 nx, .slice Az nz cz, .slice Ag ng cg, .slice At nt ct, .slice Al nl cl]) _ from hset _ hqt _ _ _ _ qt)
  have ql := Lib.hid (show Ql (W.setCells (w.heap.size + 1) 0 [.string ⟨nm.toArray⟩, .int .i64 qu, .int .i64 nx, .slice Az nz cz, .slice Ag ng cg, .slice At nt ct, .slice Al nl cl]) _ from hset _ hql _ _ _ _ ql)
  have hbw := Lib.hid (below_setCells (g := w.heap.size + 1) (by omega) [.string ⟨nm.toArray⟩, .int .i64 qu, .int .i64 nx, .slice Az nz cz, .slice Ag ng cg, .slice At nt ct, .slice Al nl cl] W 0 hbw)
  clear hset hlow hgr hsz2 kZ hqz hCz hqg hCg hqt hCt hql hCl
  obtain ⟨W4, hW4⟩ : ∃ W', W' = W.setCells (w.heap.size + 1) 0 (#[.string ⟨nm.toArray⟩, .int .i64 qu, .int .i64 nx, .slice Az nz cz, .slice Ag ng cg, .slice At nt ct, .slice Al nl cl] : Array Value).toList := ⟨_, rfl⟩
  rw [show ([.string ⟨nm.toArray⟩, .int .i64 qu, .int .i64 nx, .slice Az nz cz, .slice Ag ng cg, .slice At nt ct, .slice Al nl cl] : List Value) = (#[.string ⟨nm.toArray⟩, .int .i64 qu, .int .i64 nx, .slice Az nz cz, .slice Ag ng cg, .slice At nt ct, .slice Al nl cl] : Array Value).toList from rfl, ← hW4] at k4 qz qg qt ql hbw
  have HL : Hid ((loadVar 27 ⟨w.heap.size + 1, 0, none⟩).run Tryz.prog W4 = .ok (.agg #[.string ⟨nm.toArray⟩, .int .i64 qu, .int .i64 nx, .slice Az nz cz, .slice Ag ng cg, .slice At nt ct, .slice Al nl cl]) W4) := by
   refine run_loadVar_at W4 ⟨w.heap.size + 1, 0, none⟩ 27 [.string ⟨nm.toArray⟩, .int .i64 qu, .int .i64 nx, .slice Az nz cz, .slice Ag ng cg, .slice At nt ct, .slice Al nl cl] _ (fun j v hv => ?_) Tryz.underlying27 rfl (by kernel_rfl)
   rw [addr_add0, k4.cell j, List.getElem?_toArray]
   exact hv
  clear k3 kz k4
  go_wp2_with (first | (refine wpList_load_at rfl 27 (.tmp 1) rfl ⟨w.heap.size, 0, none⟩ rfl [.string ⟨nm.toArray⟩, .int .i64 qu, .int .i64 nx, .slice Az nz cz, .slice Ag ng cg, .slice At nt ct, .slice Al nl cl] _ HC.out Tryz.underlying27 rfl (by kernel_rfl) ?_) | (refine wpList_store_mid rfl 27 (.tmp 2) (.tmp 19) rfl (w.heap.size + 1) 0 #[.string ⟨nm.toArray⟩, .int .i64 qu, .int .i64 nx, .slice Az nz cz, .slice Ag ng cg, .slice At nt ct, .slice Al nl cl] rfl rfl hth.out (by kernel_rfl) (by simp [Value.oneCell']) ?_; rw [← hW4]; clear hW4))
  exact bodyPost_ret (v := .agg #[.string ⟨nm.toArray⟩, .int .i64 qu, .int .i64 nx, .slice Az nz cz, .slice Ag ng cg, .slice At nt ct, .slice Al nl cl]) (results_cell rfl rfl HL.out) rfl ⟨Az, nz, cz, Ag, ng, cg, At, nt, ct, Al, nl, cl, rfl, qz.out, qg.out, qt.out, ql.out, hbw.out⟩
end Go.Proofs.YteafdncnnamakaaGreatDoor

/-
 Tenants: the plain law of what may be.
-/
namespace Go.Proofs.YteafdncnnamakaaGreatDoor
open Go.RowKit

/-! ### what stands under what -/
/-- what a path stands under, if any -/
def parB (s : BS) : Option BS := if s = [] ∨ pathB s = false then none else some (upL s)
def kidsL (l : List SetR) (p : BS) : List BS := (l.filter fun s => parB s.path == some p).map (·.path)
theorem sum_kids (qs : List BS) (hq : qs.Nodup) (l : List SetR) (h : ∀ s ∈ l, ∀ p, parB s.path = some p → p ∈ qs) :
  (qs.map fun q => (kidsL l q).length).sum = l.countP fun s => (parB s.path).isSome := by
 induction l with
 | nil =>
  have : (qs.map fun q => (kidsL [] q).length) = qs.map fun _ => 0 := by
   apply List.map_congr_left
   intro q _
   rfl
  rw [this]
  clear this hq h
  induction qs with
  | nil => rfl
  | cons q qs ih => rw [List.map_cons, List.sum_cons, ih]; rfl
 | cons s l ih =>
  have e : ∀ q, (kidsL (s :: l) q).length = (kidsL l q).length + if parB s.path = some q then 1 else 0 := by
   intro q
   unfold kidsL
   rw [List.filter_cons]
   by_cases hs : parB s.path = some q
   ·rw [if_pos (by simpa using hs), if_pos hs]; simp
   ·rw [if_neg (by simpa using hs), if_neg hs]; simp
  have e2 : (qs.map fun q => (kidsL (s :: l) q).length).sum = (qs.map fun q => (kidsL l q).length).sum + (qs.map fun q => if parB s.path = some q then 1 else 0).sum := by
   have : (qs.map fun q => (kidsL (s :: l) q).length) = qs.map fun q => (kidsL l q).length + if parB s.path = some q then 1 else 0 := List.map_congr_left fun q _ => e q
   rw [this]
   clear this ih h hq e
   induction qs with
   | nil => rfl
   | cons q qs ih => simp only [List.map_cons, List.sum_cons, ih]; omega
  rw [e2, ih (fun x hx => h x (List.mem_cons_of_mem _ hx)), List.countP_cons]
  congr 1
  cases hp : parB s.path with
  | none =>
   have : (qs.map fun q => if (none : Option BS) = some q then 1 else 0) = qs.map fun _ => 0 := List.map_congr_left fun q _ => by simp
   rw [this]
   clear this hq h e e2 ih
   induction qs with
   | nil => rfl
   | cons q qs ih => rw [List.map_cons, List.sum_cons, ih]; rfl
  | some p =>
   have hm := h s (List.mem_cons_self ..) p hp
   simp only [Option.some.injEq, Option.isSome_some, if_true]
   clear h e e2 ih hp
   induction qs with
   | nil => cases hm
   | cons q qs ih =>
    obtain ⟨h1, h2⟩ := List.nodup_cons.1 hq
    rw [List.map_cons, List.sum_cons]
    rcases List.mem_cons.1 hm with e | hm
    ·subst e
     rw [if_pos rfl]
     have : (qs.map fun q => if p = q then 1 else 0) = qs.map fun _ => 0 := List.map_congr_left fun x hx => if_neg (fun e => h1 (by rw [e]; exact hx))
     rw [this]
     clear this ih hq h1 h2 hm
     induction qs with
     | nil => rfl
     | cons q qs ih => rw [List.map_cons, List.sum_cons]; omega
    ·rw [if_neg (fun e => h1 (by rw [← e]; exact hm)), ih h2 hm]
theorem count_root (l : List SetR) (hq : (l.map (·.path)).Nodup) (hr : [] ∈ l.map (·.path)) (hp : ∀ s ∈ l, pathB s.path = true) :
  1 + l.countP (fun s => (parB s.path).isSome) = l.length := by
 have e : ∀ s ∈ l, (parB s.path).isSome = !(s.path == []) := by
  intro s hs
  unfold parB
  by_cases h : s.path = []
  ·rw [if_pos (.inl h), h]; rfl
  ·rw [if_neg (by rw [hp s hs]; simp [h])]
   simp [h]
 have e1 : l.countP (fun s => (parB s.path).isSome) = l.countP (fun s => !(s.path == [])) := List.countP_congr (fun s hs => by rw [e s hs])
 have e2 : l.countP (fun s => s.path == []) = 1 := by
  have h1 : (l.map (·.path)).count [] = 1 := by rw [hq.count, if_pos hr]
  rw [← h1, List.count, List.countP_map]
  rfl
 have e3 := List.length_eq_countP_add_countP (fun s : SetR => s.path == []) (l := l)
 rw [e1]
 have e4 : l.countP (fun s => !(s.path == [])) = l.countP (fun s => decide ¬(s.path == []) = true) := List.countP_congr (fun s _ => by simp)
 omega

/-! ### what may be -/
def unlikeF : List BS → List BS → Bool
 | _, [] => true
 | acc, x :: l => nameB x && !(acc.contains x) && unlikeF (acc ++ [x]) l
def unlikeB (l : List BS) : Bool := unlikeF [] l
/-- names, each behind the one ahead of it -/
def ascF : Option BS → List BS → Bool
 | _, [] => true
 | p, x :: l => nameB x && (match p with | none => true | some q => Op.bytesLess q x) && ascF (some x) l
def tagsB (l : List BS) : Bool := decide (l.length ≤ 4) && ascF none l
def snapsFrom : Option Int → List SnapR → Bool
 | _, [] => true
 | p, x :: l => amt x.gd 1 && (match p with | none => true | some q => decide (q < x.gd)) && okL x.body.l && propsB x.own.l && tagsB x.tags.l && snapsFrom (some x.gd) l
def snapsB (l : List SnapR) : Bool := decide (l.length ≤ 16) && snapsFrom none l && unlikeB (l.map (·.nm))
def findS (l : List SetR) (p : BS) : Int := firstI (fun s => s.path == p) l
def findN (l : List SnapR) (n : BS) : Int := firstI (fun s => s.nm == n) l
def splitL (l : BS) : Option (BS × BS) := match atL l with
 | some (p, n) => if (pathB p && nameB n) = true then some (p, n) else none
 | none => none
def originB (all : List SetR) (s : SetR) : Bool := s.org == [] || match splitL s.org with
 | none => false
 | some (p, n) => !(p == s.path) && match all.find? (fun x => x.path == p) with
  | none => false
  | some x => x.snaps.l.any fun y => y.nm == n
def setB (all : List SetR) (s : SetR) : Bool := pathB s.path && (match parB s.path with | none => true | some u => all.any fun x => x.path == u) && propsB s.own.l && okL s.body.l && snapsB s.snaps.l && originB all s
def setsFrom (all : List SetR) : Option BS → List SetR → Bool
 | _, [] => true
 | p, s :: l => setB all s && (match p with | none => true | some q => Op.bytesLess q s.path) && setsFrom all (some s.path) l
def setsB (l : List SetR) : Bool := decide (l.length ≤ 32) && (l.any fun x => x.path == []) && setsFrom l none l
def beginB (x : StageR) : Bool := decide (x.kind = 1) && nameB x.nm && amt x.frm 0 && amt x.gd 1 && propsB x.own.l && decide (x.ix = 0) && decide (x.ct = 0) && decide (x.dt = []) && smZ x.sm
def stageB (x : StageR) : Bool := !(x.into == []) && pathB x.into && beginB x && okL x.body.l && amt x.at_ 0 && amt x.nx 0
def stagesFrom : Option BS → List StageR → Bool
 | _, [] => true
 | p, s :: l => stageB s && (match p with | none => true | some q => Op.bytesLess q s.into) && stagesFrom (some s.into) l
def stagesB (l : List StageR) : Bool := decide (l.length ≤ 4) && stagesFrom none l
def entryB (x : EntryR) : Bool := (x.user == [] || nameB x.user) && pathB x.path && amt x.kind 0 && amt x.err 0
def logB (l : List EntryR) : Bool := decide (l.length ≤ 16) && l.all entryB
def tenB (t : TenR) : Bool := nameB t.nm && amt t.quota 0 && amt t.next 1 && setsB t.sets.l && grantsB t.grants.l && stagesB t.stages.l && logB t.log.l
def tenE (t : TenR) : Int := if tenB t = true then 0 else 9
theorem setsFrom_iff (all : List SetR) (p : Option BS) (l : List SetR) : setsFrom all p l = true ↔ (∀ s ∈ l, setB all s = true) ∧ (l.Pairwise fun a b => Op.bytesLess a.path b.path = true) ∧ ∀ q, p = some q → ∀ s ∈ l, Op.bytesLess q s.path = true := by
 induction l generalizing p with
 | nil => simp [setsFrom]
 | cons y l ih =>
  have e : setsFrom all p (y :: l) = (setB all y && (match p with | none => true | some q => Op.bytesLess q y.path) && setsFrom all (some y.path) l) := by cases p <;> rfl
  rw [e, Bool.and_eq_true, Bool.and_eq_true, ih]
  constructor
  ·rintro ⟨⟨h1, h2⟩, h3, h4, h5⟩
   refine ⟨fun x hx => ?_, List.pairwise_cons.2 ⟨fun z hz => h5 _ rfl z hz, h4⟩, fun q hq x hx => ?_⟩
   ·rcases List.mem_cons.1 hx with rfl | hx
    ·exact h1
    ·exact h3 x hx
   ·subst hq
    rcases List.mem_cons.1 hx with rfl | hx
    ·exact h2
    ·exact bl_trans h2 (h5 _ rfl x hx)
  ·rintro ⟨h1, h2, h3⟩
   obtain ⟨h4, h5⟩ := List.pairwise_cons.1 h2
   refine ⟨⟨h1 y (List.mem_cons_self ..), ?_⟩, fun x hx => h1 x (List.mem_cons_of_mem _ hx), h5, fun q hq x hx => ?_⟩
   ·cases p with
    | none => rfl
    | some q => exact h3 q rfl y (List.mem_cons_self ..)
   ·cases hq
    exact h4 x hx
theorem setB_path (all : List SetR) (s : SetR) (h : setB all s = true) : pathB s.path = true ∧ ∀ u, parB s.path = some u → u ∈ all.map (·.path) := by
 unfold setB at h
 simp only [Bool.and_eq_true] at h
 obtain ⟨⟨⟨⟨⟨h1, h2⟩, _⟩, _⟩, _⟩, _⟩ := h
 refine ⟨h1, fun u hu => ?_⟩
 rw [hu] at h2
 obtain ⟨x, hx, e⟩ := List.any_eq_true.1 h2
 exact List.mem_map.2 ⟨x, hx, by simpa using e⟩
/-- TreeKids, in plain lists -/
theorem kids_law (l : List SetR) (h : setsB l = true) : 1 + ((l.map (·.path)).map fun q => (kidsL l q).length).sum = l.length := by
 unfold setsB at h
 simp only [Bool.and_eq_true] at h
 obtain ⟨⟨_, h2⟩, h3⟩ := h
 obtain ⟨g1, g2, _⟩ := (setsFrom_iff l none l).1 h3
 have hq : (l.map (·.path)).Nodup := by
  refine List.pairwise_map.2 (g2.imp ?_)
  intro a b hab
  exact bl_ne hab
 rw [sum_kids _ hq l (fun s hs p hp => (setB_path l s (g1 s hs)).2 p hp)]
 refine count_root l hq ?_ (fun s hs => (setB_path l s (g1 s hs)).1)
 obtain ⟨x, hx, e⟩ := List.any_eq_true.1 h2
 exact List.mem_map.2 ⟨x, hx, by simpa using e⟩
end Go.Proofs.YteafdncnnamakaaGreatDoor

/-
 shape.With's order of sets; where a set is put.
-/
namespace Go.Proofs.YteafdncnnamakaaGreatDoor
open Go.RowKit

set_option maxRecDepth 100000 in
set_option maxHeartbeats 1000000 in
theorem with1_any (a o x : BS) (bA zA oA : Option Addr) (bn bc zn zc on oc : Nat) (w : World) :
  Calls Tryz.prog 75 #[.agg #[.string ⟨a.toArray⟩, .string ⟨o.toArray⟩, .slice bA bn bc, .slice zA zn zc, .slice oA on oc], .string ⟨x.toArray⟩] w fun e w' => e = .returned (.int .i64 (cmpS a x)) ∧ Below w.heap.size w w' := by
 have hb1 := (Below.refl w.heap.size w).alloc (Nat.le_refl _) (.cells #[.string ⟨a.toArray⟩, .string ⟨o.toArray⟩, .slice bA bn bc, .slice zA zn zc, .slice oA on oc] 63)
 go_enter Tryz.func75, Tryz.ntmps75
 go_wp2_with fail
 refine (compareS_any a x _).mono ?_
 rintro e w1 ⟨rfl, q, rfl⟩
 go_wp2_with fail
 go_ret
 exact ⟨rfl, below_drewN hb1 q⟩
set_option maxRecDepth 100000 in
/-- the place of a path among sets in order -/
theorem searchSets_any (l : List SetR) (p : BS) (hl : SignAsc (fun s : SetR => cmpS s.path p) l) (n : Nat) (hnl : n = l.length) (A : Option Addr) (c : Nat) (w : World) (B : Nat) (hr : Reads w B 5 A n (cellsK encSet l)) (hB : B ≤ w.heap.size) (hn : n ≤ 5000000000000) :
  Calls Tryz.prog 74 #[.slice A n c, .string ⟨p.toArray⟩, .func (.func 75) #[] #[]] w fun e w' => e = .returned (.tuple #[.int .i64 (posF (fun s : SetR => cmpS s.path p) l), .bool (atF (fun s : SetR => cmpS s.path p) l)]) ∧ Below w.heap.size w w' :=
 searchSet_any (fun s : SetR => .string ⟨s.path.toArray⟩) (fun s => .string ⟨s.org.toArray⟩) (fun s => .slice s.body.A s.body.n s.body.c) (fun s => .slice s.snaps.A s.snaps.n s.snaps.c) (fun s => .slice s.own.A s.own.n s.own.c) (fun s : SetR => cmpS s.path p) l hl n hnl A c (.string ⟨p.toArray⟩) w B hr hB hn
  fun x W _ => with1_any x.path x.org p x.body.A x.snaps.A x.own.A x.body.n x.body.c x.snaps.n x.snaps.c x.own.n x.own.c W
end Go.Proofs.YteafdncnnamakaaGreatDoor

/-
 Tenants: tags and snapshots, as the program and the page look at them.
-/
namespace Go.Proofs.YteafdncnnamakaaGreatDoor
open Go.RowKit

/-- texts, none ahead of the one before it (slices.IsSorted) -/
def sortF : Option BS → List BS → Bool
 | _, [] => true
 | p, x :: l => (match p with | none => true | some q => !(Op.bytesLess x q)) && sortF (some x) l
theorem sortF_cons (p : Option BS) (x : BS) (l : List BS) : sortF p (x :: l) = ((match p with | none => true | some q => !(Op.bytesLess x q)) && sortF (some x) l) := by cases p <;> rfl
theorem ascF_cons (p : Option BS) (x : BS) (l : List BS) : ascF p (x :: l) = (nameB x && (match p with | none => true | some q => Op.bytesLess q x) && ascF (some x) l) := by cases p <;> rfl
theorem unlikeF_cons (acc : List BS) (x : BS) (l : List BS) : unlikeF acc (x :: l) = (nameB x && !(acc.contains x) && unlikeF (acc ++ [x]) l) := rfl
theorem bl_asym (a b : BS) (h : Op.bytesLess a b = true) : Op.bytesLess b a = false := by
 rw [← Bool.not_eq_true]
 intro h2
 have := bl_trans h h2
 rw [bl_irrefl] at this
 cases this
theorem tags_to (l : List BS) (acc : List BS) (p : Option BS) (hp : ∀ q, p = some q → q ∈ acc) (h1 : unlikeF acc l = true) (h2 : sortF p l = true) : ascF p l = true := by
 induction l generalizing acc p with
 | nil => rfl
 | cons x l ih =>
  rw [unlikeF_cons, Bool.and_eq_true, Bool.and_eq_true] at h1
  rw [sortF_cons, Bool.and_eq_true] at h2
  obtain ⟨⟨h3, h4⟩, h5⟩ := h1
  obtain ⟨h6, h7⟩ := h2
  rw [ascF_cons, h3, Bool.true_and, Bool.and_eq_true]
  refine ⟨?_, ih (acc ++ [x]) (some x) (fun q hq => by cases hq; simp) h5 h7⟩
  cases p with
  | none => rfl
  | some q =>
   simp only at h6 ⊢
   refine bl_tri x q (by simpa using h6) ?_
   rintro rfl
   have := hp x rfl
   simp [this] at h4
theorem tags_from (l : List BS) (acc : List BS) (p : Option BS) (hp : ∀ a ∈ acc, ∃ q, p = some q ∧ (a = q ∨ Op.bytesLess a q = true)) (h : ascF p l = true) : unlikeF acc l = true ∧ sortF p l = true := by
 induction l generalizing acc p with
 | nil => exact ⟨rfl, rfl⟩
 | cons x l ih =>
  rw [ascF_cons, Bool.and_eq_true, Bool.and_eq_true] at h
  obtain ⟨⟨h1, h2⟩, h3⟩ := h
  have hlt : ∀ a ∈ acc, Op.bytesLess a x = true := by
   intro a ha
   obtain ⟨q, rfl, hq⟩ := hp a ha
   simp only at h2
   rcases hq with rfl | hq
   ·exact h2
   ·exact bl_trans hq h2
  obtain ⟨i1, i2⟩ := ih (acc ++ [x]) (some x) (fun a ha => by
   rcases List.mem_append.1 ha with ha | ha
   ·exact ⟨x, rfl, .inr (hlt a ha)⟩
   ·exact ⟨x, rfl, .inl (by simpa using ha)⟩) h3
  rw [unlikeF_cons, sortF_cons, h1, i1, i2, Bool.and_true, Bool.and_true, Bool.true_and]
  constructor
  ·rw [Bool.not_eq_true', ← Bool.not_eq_true, List.contains_iff_mem]
   intro hx
   have := hlt x hx
   rw [bl_irrefl] at this
   cases this
  ·cases p with
   | none => rfl
   | some q => simp only at h2 ⊢; rw [bl_asym _ _ h2]; rfl
/-- as the program looks at tags -/
theorem tagged_eq (l : List BS) : (unlikeB l && sortF none l) = ascF none l := by
 rw [Bool.eq_iff_iff, Bool.and_eq_true]
 exact ⟨fun h => tags_to l [] none (fun q hq => by cases hq) h.1 h.2, fun h => tags_from l [] none (fun a ha => by cases ha) h⟩
/-- as the page looks at snapshots -/
def snapOk (x : SnapR) : Bool := amt x.gd 1 && okL x.body.l && propsB x.own.l && tagsB x.tags.l
def snapsRef : List BS → Option Int → List SnapR → Bool
 | _, _, [] => true
 | acc, p, x :: l => nameB x.nm && snapOk x && (match p with | none => true | some q => decide (q < x.gd)) && !(acc.contains x.nm) && snapsRef (acc ++ [x.nm]) (some x.gd) l
theorem snapsFrom_cons (p : Option Int) (x : SnapR) (l : List SnapR) : snapsFrom p (x :: l) = (snapOk x && (match p with | none => true | some q => decide (q < x.gd)) && snapsFrom (some x.gd) l) := by
 have : snapsFrom p (x :: l) = (amt x.gd 1 && (match p with | none => true | some q => decide (q < x.gd)) && okL x.body.l && propsB x.own.l && tagsB x.tags.l && snapsFrom (some x.gd) l) := by cases p <;> rfl
 rw [this]
 unfold snapOk
 generalize (match p with | none => true | some q => decide (q < x.gd)) = b
 cases amt x.gd 1 <;> cases b <;> cases okL x.body.l <;> cases propsB x.own.l <;> cases tagsB x.tags.l <;> rfl
theorem snapsRef_cons (acc : List BS) (p : Option Int) (x : SnapR) (l : List SnapR) : snapsRef acc p (x :: l) = (nameB x.nm && snapOk x && (match p with | none => true | some q => decide (q < x.gd)) && !(acc.contains x.nm) && snapsRef (acc ++ [x.nm]) (some x.gd) l) := by cases p <;> rfl
theorem snapsRef_eq (l : List SnapR) (acc : List BS) (p : Option Int) : snapsRef acc p l = (snapsFrom p l && unlikeF acc (l.map (·.nm))) := by
 induction l generalizing acc p with
 | nil => rfl
 | cons x l ih =>
  rw [snapsRef_cons, snapsFrom_cons, List.map_cons, unlikeF_cons, ih]
  generalize (match p with | none => true | some q => decide (q < x.gd)) = b
  cases nameB x.nm <;> cases snapOk x <;> cases b <;> cases acc.contains x.nm <;> cases snapsFrom (some x.gd) l <;> rfl
theorem snapsB_ref (l : List SnapR) : snapsB l = (decide (l.length ≤ 16) && snapsRef [] none l) := by
 rw [snapsRef_eq]
 unfold snapsB unlikeB
 rw [Bool.and_assoc]
end Go.Proofs.YteafdncnnamakaaGreatDoor

/-
 The sets of a tenant that may be lie in order: where a path's place is.
-/
namespace Go.Proofs.YteafdncnnamakaaGreatDoor
open Go.RowKit

theorem setsB_pairs (l : List SetR) (h : setsB l = true) : l.length ≤ 32 ∧ l.Pairwise fun a b => Op.bytesLess a.path b.path = true := by
 unfold setsB at h
 simp only [Bool.and_eq_true, decide_eq_true_eq] at h
 exact ⟨h.1.1, ((setsFrom_iff l none l).1 h.2).2.1⟩
theorem pairs_asc (l : List SetR) (h : l.Pairwise fun a b => Op.bytesLess a.path b.path = true) (p : BS) : SignAsc (fun s : SetR => cmpS s.path p) l := by
 intro i j a b hij ha hb hlt
 obtain ⟨hi, hai⟩ := List.getElem?_eq_some_iff.1 ha
 obtain ⟨hj, hbj⟩ := List.getElem?_eq_some_iff.1 hb
 have h1 := List.pairwise_iff_getElem.1 h i j hi hj hij
 rw [hai, hbj] at h1
 have hlt : cmpS b.path p < 0 := hlt
 show cmpS a.path p < 0
 rw [cmpS_neg] at hlt ⊢
 exact bl_trans h1 hlt
theorem tenE_ord (t : TenR) (h : tenE t = 0) : t.sets.l.length ≤ 32 ∧ t.sets.l.Pairwise fun a b => Op.bytesLess a.path b.path = true := by
 unfold tenE at h
 have hb : tenB t = true := by
  by_cases hb : tenB t = true
  ·exact hb
  ·rw [if_neg hb] at h; exact absurd h (by decide)
 unfold tenB at hb
 simp only [Bool.and_eq_true] at hb
 exact setsB_pairs _ hb.1.1.1.2
end Go.Proofs.YteafdncnnamakaaGreatDoor

/-
 tree.amount; slices.IndexFunc at sets and at snapshots; tree.Find, tree.Snap: by their contracts.
-/
namespace Go.Proofs.YteafdncnnamakaaGreatDoor
open Go.RowKit

set_option maxRecDepth 100000 in
theorem amount_any (n k : Int) (w : World) : Calls Tryz.prog 93 #[.int .i64 n, .int .i64 k] w fun e w' => e = .returned (.bool (amt n k)) ∧ w' = w := by
 go_enter Tryz.func93, Tryz.ntmps93
 go_wp2_with fail
 all_goals go_ret
 all_goals refine ⟨congrArg Ending.returned (congrArg Value.bool ?_), rfl⟩
 all_goals unfold amt
 all_goals rw [Bool.eq_iff_iff]
 all_goals simp
 all_goals omega
set_option maxRecDepth 100000 in
set_option maxHeartbeats 1000000 in
theorem fiSet_index {α : Type} (f0 f1 f2 f3 f4 : α → Value) (p : α → Bool) (l : List α) (n : Nat) (hnl : n = l.length) (A : Option Addr) (c : Nat) (p0 : Addr) (Keep : World → Prop) (w : World) (B : Nat)
  (hr : Reads w B 5 A n (cellsK (fun x => [f0 x, f1 x, f2 x, f3 x, f4 x]) l)) (hB : B ≤ w.heap.size) (hn : n ≤ 5000000000000) (hp : PredK Tryz.prog 73 #[.pointer (some p0)] (fun x => #[f0 x, f1 x, f2 x, f3 x, f4 x]) (· ∈ l) p Keep) (hk0 : Keep w) :
  Calls Tryz.prog 72 #[.slice A n c, .func (.func 73) #[] #[.pointer (some p0)]] w fun e w' => e = .returned (.int .i64 (firstI p l)) ∧ Below w.heap.size w w' := by
 have HN := Lib.hid hnl
 have HP := Lib.hid hp
 clear hnl hp
 go_enter Tryz.func72, Tryz.ntmps72
 go_wp2_with fail
 go_loopw [8] (fun j wr => ∃ k : Nat, k ≤ n ∧ j = .int .i64 (k : Int) ∧ Hid (∀ y ∈ l.take k, p y = false) ∧ Below w.heap.size w wr ∧ Keep wr) (fun j _ => n - (intOf j).toNat)
 case atStart => exact ⟨0, Nat.zero_le _, rfl, (show ∀ y ∈ _, _ by simp), Below.refl _ _, hk0⟩
 case round =>
  obtain ⟨k, hk, rfl, hno, hbw, hkw⟩ := hrel
  by_cases hlt : k < n
  ·have hki : (k : Int) < (n : Int) := by omega
   have hkl : k < l.length := by have := HN.out; omega
   obtain ⟨ad, rfl, _, c0, c1, c2, c3, c4⟩ := (hr.below (hbw.mono hB)).el5 HN.out hlt
   obtain ⟨x, hx⟩ : ∃ x, x = l[k]'hkl := ⟨_, rfl⟩
   rw [← hx] at c0 c1 c2 c3 c4
   have htk := List.take_succ_eq_append_getElem hkl
   rw [← hx] at htk
   have HTK := Lib.hid htk
   have HX := Lib.hid (show l[k]? = some x by rw [hx]; exact List.getElem?_eq_getElem _)
   have hc := HP.out.call x wr (List.mem_of_getElem? HX.out) hkw
   obtain ⟨b, hb⟩ : ∃ b, b = p x := ⟨_, rfl⟩
   rw [← hb] at hc
   have HBX := Lib.hid hb
   simp only [List.append_toArray, List.cons_append, List.nil_append] at hc
   clear hx htk hr hb
   go_wp2_with fail
   refine hc.mono ?_
   clear hc
   rintro e w1 ⟨rfl, hb1⟩
   have hkw1 := HP.out.below wr w1 hkw hb1
   have hbw1 := hbw.trans (hb1.mono hbw.size)
   cases b with
   | true =>
    go_wp2_with fail
    go_ret
    have hf := firstP_eq p l k x hno.out HX.out HBX.out.symm
    exact ⟨by unfold firstI; rw [hf, if_pos hkl]; rfl, hbw1⟩
   | false =>
    go_wp2_with fail
    go_roundw
    case rel =>
     refine ⟨k + 1, by omega, by go_num, ?_, hbw1, hkw1⟩
     show ∀ y ∈ l.take (k + 1), p y = false
     intro y hy
     rw [HTK.out] at hy
     rcases List.mem_append.1 hy with hy | hy
     ·exact hno.out y hy
     ·simp at hy; subst hy; exact HBX.out.symm
    case measure => simp [intOf]; omega
  ·have hkn : k = n := by omega
   have HF : Hid (firstI p l = -1) := by
    show _ = _
    unfold firstI
    rw [firstP_none p l (fun y hy => hno.out y (by rw [List.take_of_length_le (by rw [hkn, HN.out]; exact Nat.le_refl _)]; exact hy)), if_neg (Nat.lt_irrefl _)]
   clear hr hkn
   go_wp2_with fail
   go_ret
   exact ⟨by rw [HF.out]; rfl, hbw⟩
set_option maxRecDepth 100000 in
set_option maxHeartbeats 1000000 in
theorem fiSnap_index {α : Type} (f0 f1 f2 f3 f4 : α → Value) (p : α → Bool) (l : List α) (n : Nat) (hnl : n = l.length) (A : Option Addr) (c : Nat) (p0 : Addr) (Keep : World → Prop) (w : World) (B : Nat)
  (hr : Reads w B 5 A n (cellsK (fun x => [f0 x, f1 x, f2 x, f3 x, f4 x]) l)) (hB : B ≤ w.heap.size) (hn : n ≤ 5000000000000) (hp : PredK Tryz.prog 179 #[.pointer (some p0)] (fun x => #[f0 x, f1 x, f2 x, f3 x, f4 x]) (· ∈ l) p Keep) (hk0 : Keep w) :
  Calls Tryz.prog 137 #[.slice A n c, .func (.func 179) #[] #[.pointer (some p0)]] w fun e w' => e = .returned (.int .i64 (firstI p l)) ∧ Below w.heap.size w w' := by
 have HN := Lib.hid hnl
 have HP := Lib.hid hp
 clear hnl hp
 go_enter Tryz.func137, Tryz.ntmps137
 go_wp2_with fail
 go_loopw [8] (fun j wr => ∃ k : Nat, k ≤ n ∧ j = .int .i64 (k : Int) ∧ Hid (∀ y ∈ l.take k, p y = false) ∧ Below w.heap.size w wr ∧ Keep wr) (fun j _ => n - (intOf j).toNat)
 case atStart => exact ⟨0, Nat.zero_le _, rfl, (show ∀ y ∈ _, _ by simp), Below.refl _ _, hk0⟩
 case round =>
  obtain ⟨k, hk, rfl, hno, hbw, hkw⟩ := hrel
  by_cases hlt : k < n
  ·have hki : (k : Int) < (n : Int) := by omega
   have hkl : k < l.length := by have := HN.out; omega
   obtain ⟨ad, rfl, _, c0, c1, c2, c3, c4⟩ := (hr.below (hbw.mono hB)).el5 HN.out hlt
   obtain ⟨x, hx⟩ : ∃ x, x = l[k]'hkl := ⟨_, rfl⟩
   rw [← hx] at c0 c1 c2 c3 c4
   have htk := List.take_succ_eq_append_getElem hkl
   rw [← hx] at htk
   have HTK := Lib.hid htk
   have HX := Lib.hid (show l[k]? = some x by rw [hx]; exact List.getElem?_eq_getElem _)
   have hc := HP.out.call x wr (List.mem_of_getElem? HX.out) hkw
   obtain ⟨b, hb⟩ : ∃ b, b = p x := ⟨_, rfl⟩
   rw [← hb] at hc
   have HBX := Lib.hid hb
   simp only [List.append_toArray, List.cons_append, List.nil_append] at hc
   clear hx htk hr hb
   go_wp2_with fail
   refine hc.mono ?_
   clear hc
   rintro e w1 ⟨rfl, hb1⟩
   have hkw1 := HP.out.below wr w1 hkw hb1
   have hbw1 := hbw.trans (hb1.mono hbw.size)
   cases b with
   | true =>
    go_wp2_with fail
    go_ret
    have hf := firstP_eq p l k x hno.out HX.out HBX.out.symm
    exact ⟨by unfold firstI; rw [hf, if_pos hkl]; rfl, hbw1⟩
   | false =>
    go_wp2_with fail
    go_roundw
    case rel =>
     refine ⟨k + 1, by omega, by go_num, ?_, hbw1, hkw1⟩
     show ∀ y ∈ l.take (k + 1), p y = false
     intro y hy
     rw [HTK.out] at hy
     rcases List.mem_append.1 hy with hy | hy
     ·exact hno.out y hy
     ·simp at hy; subst hy; exact HBX.out.symm
    case measure => simp [intOf]; omega
  ·have hkn : k = n := by omega
   have HF : Hid (firstI p l = -1) := by
    show _ = _
    unfold firstI
    rw [firstP_none p l (fun y hy => hno.out y (by rw [List.take_of_length_le (by rw [hkn, HN.out]; exact Nat.le_refl _)]; exact hy)), if_neg (Nat.lt_irrefl _)]
   clear hr hkn
   go_wp2_with fail
   go_ret
   exact ⟨by rw [HF.out]; rfl, hbw⟩
set_option maxRecDepth 100000 in
theorem findC_any (s : BS) (v1 v2 v3 v4 : Value) (p : BS) (pb : Nat) (w : World) (hpb : pb < w.heap.size) (hk : w.cell? ⟨pb, 0, none⟩ = some (.string ⟨p.toArray⟩)) :
  Calls Tryz.prog 73 #[.agg #[.string ⟨s.toArray⟩, v1, v2, v3, v4], .pointer (some ⟨pb, 0, none⟩)] w fun e w' => e = .returned (.bool (s == p)) ∧ Below w.heap.size w w' := by
 have hk1 := (World.cell?_alloc_lt w (.cells #[.string ⟨s.toArray⟩, v1, v2, v3, v4] 63) ⟨pb, 0, none⟩ hpb).trans hk
 have hb := (Below.refl w.heap.size w).alloc (Nat.le_refl _) (.cells #[.string ⟨s.toArray⟩, v1, v2, v3, v4] 63)
 go_enter Tryz.func73, Tryz.ntmps73
 go_wp2_with fail
 all_goals go_ret
 all_goals refine ⟨congrArg Ending.returned (congrArg Value.bool ?_), hb⟩
 all_goals simp_all
set_option maxRecDepth 100000 in
theorem snapC_any (s : BS) (v1 v2 v3 v4 : Value) (p : BS) (pb : Nat) (w : World) (hpb : pb < w.heap.size) (hk : w.cell? ⟨pb, 0, none⟩ = some (.string ⟨p.toArray⟩)) :
  Calls Tryz.prog 179 #[.agg #[.string ⟨s.toArray⟩, v1, v2, v3, v4], .pointer (some ⟨pb, 0, none⟩)] w fun e w' => e = .returned (.bool (s == p)) ∧ Below w.heap.size w w' := by
 have hk1 := (World.cell?_alloc_lt w (.cells #[.string ⟨s.toArray⟩, v1, v2, v3, v4] 75) ⟨pb, 0, none⟩ hpb).trans hk
 have hb := (Below.refl w.heap.size w).alloc (Nat.le_refl _) (.cells #[.string ⟨s.toArray⟩, v1, v2, v3, v4] 75)
 go_enter Tryz.func179, Tryz.ntmps179
 go_wp2_with fail
 all_goals go_ret
 all_goals refine ⟨congrArg Ending.returned (congrArg Value.bool ?_), hb⟩
 all_goals simp_all
set_option maxRecDepth 100000 in
set_option maxHeartbeats 1000000 in
theorem find_any (v0 v1 v2 v4 v5 v6 : Value) (l : List SetR) (n : Nat) (hnl : n = l.length) (A : Option Addr) (c : Nat) (p : BS) (w : World) (B : Nat) (hr : Reads w B 5 A n (cellsK encSet l)) (hB : B ≤ w.heap.size) (hn : n ≤ 5000000000000) :
  Calls Tryz.prog 26 #[.agg #[v0, v1, v2, .slice A n c, v4, v5, v6], .string ⟨p.toArray⟩] w fun e w' => e = .returned (.int .i64 (findS l p)) ∧ Below w.heap.size w w' := by
 have hb1 := (Below.refl w.heap.size w).alloc (Nat.le_refl _) (.cells #[v0, v1, v2, .slice A n c, v4, v5, v6] 27)
 have hb2 := hb1.alloc hb1.size (.cells #[.string ⟨p.toArray⟩] 9)
 obtain ⟨W2, hW2⟩ : ∃ W, W = (w.alloc (.cells #[v0, v1, v2, .slice A n c, v4, v5, v6] 27)).alloc (.cells #[.string ⟨p.toArray⟩] 9) := ⟨_, rfl⟩
 have hsz : W2.heap.size = w.heap.size + 2 := by rw [hW2]; simp
 have hk : W2.cell? ⟨w.heap.size + 1, 0, none⟩ = some (.string ⟨p.toArray⟩) := by
  rw [hW2]
  have := (Blk.new (w.alloc (.cells #[v0, v1, v2, .slice A n c, v4, v5, v6] 27)) 9 #[.string ⟨p.toArray⟩]).cell 0
  rw [show (w.alloc (.cells #[v0, v1, v2, .slice A n c, v4, v5, v6] 27)).heap.size = w.heap.size + 1 by simp] at this
  exact this
 rw [← hW2] at hb2
 have HC := Lib.hid (fiSet_index (fun x => .string ⟨x.path.toArray⟩) (fun x => .string ⟨x.org.toArray⟩) (fun x => .slice x.body.A x.body.n x.body.c) (fun x => .slice x.snaps.A x.snaps.n x.snaps.c) (fun x => .slice x.own.A x.own.n x.own.c) (fun x => x.path == p) l n hnl A c ⟨w.heap.size + 1, 0, none⟩ (fun W => W.cell? ⟨w.heap.size + 1, 0, none⟩ = some (.string ⟨p.toArray⟩) ∧ w.heap.size + 1 < W.heap.size) W2 B (hr.below (hb2.mono hB)) (by omega) hn
  ⟨fun x W _ hK => findC_any x.path _ _ _ _ p _ W hK.2 hK.1, fun W W' hK hb => ⟨(hb.cell (p := ⟨w.heap.size + 1, 0, none⟩) hK.2).trans hK.1, Nat.lt_of_lt_of_le hK.2 hb.size⟩⟩ ⟨hk, by omega⟩)
 have HB := Lib.hid hb2
 have HSZ := Lib.hid hsz
 clear hnl hr hk hsz hb1 hb2
 go_enter Tryz.func26, Tryz.ntmps26
 go_wp2_with fail
 rw [← hW2]
 refine HC.out.mono ?_
 rintro e w1 ⟨rfl, hb3⟩
 go_wp2_with fail
 go_ret
 exact ⟨rfl, HB.out.trans (hb3.mono (by have := HSZ.out; omega))⟩
set_option maxRecDepth 100000 in
set_option maxHeartbeats 1000000 in
theorem snapAt_any (v0 v1 v2 v4 : Value) (l : List SnapR) (n : Nat) (hnl : n = l.length) (A : Option Addr) (c : Nat) (p : BS) (w : World) (B : Nat) (hr : Reads w B 5 A n (cellsK encSnap l)) (hB : B ≤ w.heap.size) (hn : n ≤ 5000000000000) :
  Calls Tryz.prog 165 #[.agg #[v0, v1, v2, .slice A n c, v4], .string ⟨p.toArray⟩] w fun e w' => e = .returned (.int .i64 (findN l p)) ∧ Below w.heap.size w w' := by
 have hb1 := (Below.refl w.heap.size w).alloc (Nat.le_refl _) (.cells #[v0, v1, v2, .slice A n c, v4] 63)
 have hb2 := hb1.alloc hb1.size (.cells #[.string ⟨p.toArray⟩] 9)
 obtain ⟨W2, hW2⟩ : ∃ W, W = (w.alloc (.cells #[v0, v1, v2, .slice A n c, v4] 63)).alloc (.cells #[.string ⟨p.toArray⟩] 9) := ⟨_, rfl⟩
 have hsz : W2.heap.size = w.heap.size + 2 := by rw [hW2]; simp
 have hk : W2.cell? ⟨w.heap.size + 1, 0, none⟩ = some (.string ⟨p.toArray⟩) := by
  rw [hW2]
  have := (Blk.new (w.alloc (.cells #[v0, v1, v2, .slice A n c, v4] 63)) 9 #[.string ⟨p.toArray⟩]).cell 0
  rw [show (w.alloc (.cells #[v0, v1, v2, .slice A n c, v4] 63)).heap.size = w.heap.size + 1 by simp] at this
  exact this
 rw [← hW2] at hb2
 have HC := Lib.hid (fiSnap_index (fun x => .string ⟨x.nm.toArray⟩) (fun x => .int .i64 x.gd) (fun x => .slice x.body.A x.body.n x.body.c) (fun x => .slice x.tags.A x.tags.n x.tags.c) (fun x => .slice x.own.A x.own.n x.own.c) (fun x => x.nm == p) l n hnl A c ⟨w.heap.size + 1, 0, none⟩ (fun W => W.cell? ⟨w.heap.size + 1, 0, none⟩ = some (.string ⟨p.toArray⟩) ∧ w.heap.size + 1 < W.heap.size) W2 B (hr.below (hb2.mono hB)) (by omega) hn
  ⟨fun x W _ hK => snapC_any x.nm _ _ _ _ p _ W hK.2 hK.1, fun W W' hK hb => ⟨(hb.cell (p := ⟨w.heap.size + 1, 0, none⟩) hK.2).trans hK.1, Nat.lt_of_lt_of_le hK.2 hb.size⟩⟩ ⟨hk, by omega⟩)
 have HB := Lib.hid hb2
 have HSZ := Lib.hid hsz
 clear hnl hr hk hsz hb1 hb2
 go_enter Tryz.func165, Tryz.ntmps165
 go_wp2_with fail
 rw [← hW2]
 refine HC.out.mono ?_
 rintro e w1 ⟨rfl, hb3⟩
 go_wp2_with fail
 go_ret
 exact ⟨rfl, HB.out.trans (hb3.mono (by have := HSZ.out; omega))⟩
end Go.Proofs.YteafdncnnamakaaGreatDoor
