/-
  The walk of the law TreeKids.
-/
import Derived.Test.YtodikfhaghpkhaaDoorTrKids
namespace Go.Proofs.YtodikfhaghpkhaaDoor
open Go.RowKit

theorem kids_le (l : List SetR) (p : BS) : (kidsL l p).length ≤ l.length := by
  unfold kidsL
  rw [List.length_map]
  exact List.length_filter_le _ _
def sumK (l : List SetR) (k : Nat) : Nat := 1 + (((l.take k).map (·.path)).map fun q => (kidsL l q).length).sum
theorem sumK_succ (l : List SetR) (k : Nat) (h : k < l.length) : sumK l (k + 1) = sumK l k + (kidsL l (l[k]'h).path).length := by
  unfold sumK
  rw [List.take_succ_eq_append_getElem h, List.map_append, List.map_append, List.sum_append]
  simp
  omega
theorem sumK_all (l : List SetR) (h : setsB l = true) : sumK l l.length = l.length := by
  unfold sumK
  rw [List.take_length]
  exact kids_law l h
theorem tenE_sets (t : TenR) (h : tenE t = 0) : setsB t.sets.l = true := by
  unfold tenE at h
  split at h
  · rename_i hb
    unfold tenB at hb
    simp only [Bool.and_eq_true] at hb
    exact hb.1.1.1.2
  · cases h
theorem tenE_two (t : TenR) : tenE t = 0 ∨ tenE t = 9 := by unfold tenE; split <;> simp
set_option maxRecDepth 100000 in
set_option maxHeartbeats 4000000 in
theorem treeKids_any (t : TenR) (w : World) (hr : t.rd w w.heap.size) (hz : t.sz) (hmx : HasMax w) :
    Calls Tryd.prog 3 #[t.val] w fun e w' => e = .returned (.bool true) ∧ Below w.heap.size w w' := by
  have h2 := tenE_two t
  have hS := tenE_sets t
  obtain ⟨nm, quota, next, ⟨s1, s2, s3, sl⟩, ⟨ga, gb, gc, gl⟩, ⟨t1, t2, t3, tl⟩, ⟨l1, l2, l3, ll⟩⟩ := t
  show Calls Tryd.prog 3 #[.agg #[.string ⟨nm.toArray⟩, .int .i64 quota, .int .i64 next, .slice s1 s2 s3, .slice ga gb gc, .slice t1 t2 t3, .slice l1 l2 l3]] w _
  have hb1 := (Below.refl w.heap.size w).alloc (Nat.le_refl _) (.cells #[.string ⟨nm.toArray⟩, .int .i64 quota, .int .i64 next, .slice s1 s2 s3, .slice ga gb gc, .slice t1 t2 t3, .slice l1 l2 l3] 27)
  have kT := Blk.new w 27 #[.string ⟨nm.toArray⟩, .int .i64 quota, .int .i64 next, .slice s1 s2 s3, .slice ga gb gc, .slice t1 t2 t3, .slice l1 l2 l3]
  obtain ⟨W1, hW1⟩ : ∃ W, W = w.alloc (.cells #[.string ⟨nm.toArray⟩, .int .i64 quota, .int .i64 next, .slice s1 s2 s3, .slice ga gb gc, .slice t1 t2 t3, .slice l1 l2 l3] 27) := ⟨_, rfl⟩
  have hsz1 : W1.heap.size = w.heap.size + 1 := by rw [hW1]; simp
  rw [← hW1] at hb1 kT
  have hT := Lib.hid (fun (W' : World) (hB' : Below W1.heap.size W1 W') => (⟨(kT.below hB' (by omega)).cell 0, (kT.below hB' (by omega)).cell 1, (kT.below hB' (by omega)).cell 2, (kT.below hB' (by omega)).cell 3, (kT.below hB' (by omega)).cell 4, (kT.below hB' (by omega)).cell 5, (kT.below hB' (by omega)).cell 6⟩ : W'.cell? ⟨w.heap.size, 0, none⟩ = some (.string ⟨nm.toArray⟩) ∧ W'.cell? ⟨w.heap.size, 1, none⟩ = some (.int .i64 quota) ∧ W'.cell? ⟨w.heap.size, 2, none⟩ = some (.int .i64 next) ∧ W'.cell? ⟨w.heap.size, 3, none⟩ = some (.slice s1 s2 s3) ∧ W'.cell? ⟨w.heap.size, 4, none⟩ = some (.slice ga gb gc) ∧ W'.cell? ⟨w.heap.size, 5, none⟩ = some (.slice t1 t2 t3) ∧ W'.cell? ⟨w.heap.size, 6, none⟩ = some (.slice l1 l2 l3)))
  have hrw : Hid (∀ W', Below W1.heap.size W1 W' → TenR.rd W' w.heap.size ⟨nm, quota, next, ⟨s1, s2, s3, sl⟩, ⟨ga, gb, gc, gl⟩, ⟨t1, t2, t3, tl⟩, ⟨l1, l2, l3, ll⟩⟩ ∧ w.heap.size < W'.heap.size ∧ HasMax W') := fun W' hb => ⟨hr.below (hb1.trans (hb.mono (by omega))), by have := hb.size; omega, hmx.below (hb1.trans (hb.mono (by omega)))⟩
  have hRC : Hid (∀ W, Below W1.heap.size W1 W → Calls Tryd.prog 9 #[.agg #[.string ⟨nm.toArray⟩, .int .i64 quota, .int .i64 next, .slice s1 s2 s3, .slice ga gb gc, .slice t1 t2 t3, .slice l1 l2 l3]] W fun e W' => e = .returned (.int .i64 (tenE ⟨nm, quota, next, ⟨s1, s2, s3, sl⟩, ⟨ga, gb, gc, gl⟩, ⟨t1, t2, t3, tl⟩, ⟨l1, l2, l3, ll⟩⟩)) ∧ Below W.heap.size W W') := fun W hb =>
    rcheck14_any ⟨nm, quota, next, ⟨s1, s2, s3, sl⟩, ⟨ga, gb, gc, gl⟩, ⟨t1, t2, t3, tl⟩, ⟨l1, l2, l3, ll⟩⟩ W w.heap.size (hrw.out W hb).1 (by have := (hrw.out W hb).2.1; omega) hz
  have hTC : Hid (∀ W, Below W1.heap.size W1 W → Calls Tryd.prog 10 #[.agg #[.string ⟨nm.toArray⟩, .int .i64 quota, .int .i64 next, .slice s1 s2 s3, .slice ga gb gc, .slice t1 t2 t3, .slice l1 l2 l3]] W fun e W' => e = .returned (.int .i64 (tenE ⟨nm, quota, next, ⟨s1, s2, s3, sl⟩, ⟨ga, gb, gc, gl⟩, ⟨t1, t2, t3, tl⟩, ⟨l1, l2, l3, ll⟩⟩)) ∧ Below W.heap.size W W') := fun W hb =>
    tcheck_any ⟨nm, quota, next, ⟨s1, s2, s3, sl⟩, ⟨ga, gb, gc, gl⟩, ⟨t1, t2, t3, tl⟩, ⟨l1, l2, l3, ll⟩⟩ W w.heap.size (hrw.out W hb).1 (by have := (hrw.out W hb).2.1; omega) hz (hrw.out W hb).2.2
  have hKD : Hid (∀ p W, Below W1.heap.size W1 W → Calls Tryd.prog 11 #[.agg #[.string ⟨nm.toArray⟩, .int .i64 quota, .int .i64 next, .slice s1 s2 s3, .slice ga gb gc, .slice t1 t2 t3, .slice l1 l2 l3], .string ⟨p.toArray⟩] W fun e W' => ∃ A1 c1, e = .returned (.slice A1 (kidsL sl p).length c1) ∧ Below W.heap.size W W') := fun p W hb => by
    obtain ⟨r1, r2, r3⟩ := hrw.out W hb
    refine (kids_any _ _ _ _ _ _ sl s2 r1.sets.1 s1 s3 p W w.heap.size r1.sets.2.2 (by omega) hz.sets (fun y hy => (hz.eachS y hy).path) r3).mono ?_
    rintro e w' ⟨A1, c1, h1, -, h3⟩
    exact ⟨A1, c1, h1, h3⟩
  have HSL := Lib.hid (show s2 = sl.length from hr.sets.1)
  have hal := alive14_any W1 (hmx.below hb1)
  obtain ⟨E, hE⟩ : ∃ V, V = tenE ⟨nm, quota, next, ⟨s1, s2, s3, sl⟩, ⟨ga, gb, gc, gl⟩, ⟨t1, t2, t3, tl⟩, ⟨l1, l2, l3, ll⟩⟩ := ⟨_, rfl⟩
  rw [← hE] at h2 hS hRC hTC
  have HB1 := Lib.hid hb1
  have HSZ1 := Lib.hid hsz1
  clear hE hb1 hsz1 kT hr hz
  go_enter Tryd.func3, Tryd.ntmps3
  go_wp2_with fail
  rw [← hW1]
  clear hW1
  refine hal.mono ?_
  clear hal
  rintro e w2 ⟨rfl, hW2⟩
  obtain ⟨c0, c1, c2, c3, c4, c5, c6⟩ := hT.out _ hW2
  have hc := hRC.out _ hW2
  rcases h2 with rfl | rfl
  · have hsb : setsB sl = true := hS rfl
    have hs32 : s2 ≤ 32 := by
      have := hsb
      unfold setsB at this
      simp only [Bool.and_eq_true, decide_eq_true_eq] at this
      rw [HSL.out]
      exact this.1.1
    have HALL : Hid (sumK sl sl.length = sl.length) := sumK_all sl hsb
    clear hS hsb hTC hRC
    go_wp2_with fail
    refine hc.mono ?_
    clear hc c0 c1 c2 c3 c4 c5 c6
    rintro e w3 ⟨rfl, hb3⟩
    have hW3 := hW2.trans (hb3.mono hW2.size)
    clear hb3 hW2
    go_wp2_with fail
    go_loopw [3, 4] (fun a j wr => ∃ k S : Nat, k ≤ s2 ∧ S ≤ 1 + 32 * k ∧ a = .int .i64 (S : Int) ∧ j = .int .i64 (k : Int) ∧ Hid (S = sumK sl k) ∧ Below W1.heap.size W1 wr) (fun _ j _ => s2 - (intOf j).toNat)
    case atStart => exact ⟨0, 1, Nat.zero_le _, by omega, rfl, rfl, rfl, hW3⟩
    case round =>
      clear hW3
      obtain ⟨k, S, hk, hSk, rfl, rfl, hok, hWr⟩ := hrel
      obtain ⟨c0, c1, c2, c3, c4, c5, c6⟩ := hT.out _ hWr
      by_cases hlt : k < s2
      · obtain ⟨ad, hsa, hadB, -⟩ := set_at (hrw.out _ hWr).1.sets.2.2 HSL.out hlt
        simp only at hsa
        subst hsa
        have hki : (k : Int) < (s2 : Int) := by omega
        have hkl : k < sl.length := by have := HSL.out; omega
        have HSS := Lib.hid (sumK_succ sl k hkl)
        have hml := kids_le sl (sl[k]'hkl).path
        have hKd : Hid (∀ W, Below wr.heap.size wr W → Calls Tryd.prog 11 #[.agg #[.string ⟨nm.toArray⟩, .int .i64 quota, .int .i64 next, .slice (some ad) s2 s3, .slice ga gb gc, .slice t1 t2 t3, .slice l1 l2 l3], .string ⟨(sl[k]'hkl).path.toArray⟩] W fun e W' => ∃ A1 c1, e = .returned (.slice A1 (kidsL sl (sl[k]'hkl).path).length c1) ∧ Below W.heap.size W W') := fun W hb => hKD.out _ W (hWr.trans (hb.mono hWr.size))
        have hF : Hid (∀ W, Below wr.heap.size wr W → W.cell? ⟨w.heap.size, 0, none⟩ = some (.string ⟨nm.toArray⟩) ∧ W.cell? ⟨w.heap.size, 1, none⟩ = some (.int .i64 quota) ∧ W.cell? ⟨w.heap.size, 2, none⟩ = some (.int .i64 next) ∧ W.cell? ⟨w.heap.size, 3, none⟩ = some (.slice (some ad) s2 s3) ∧ W.cell? ⟨w.heap.size, 4, none⟩ = some (.slice ga gb gc) ∧ W.cell? ⟨w.heap.size, 5, none⟩ = some (.slice t1 t2 t3) ∧ W.cell? ⟨w.heap.size, 6, none⟩ = some (.slice l1 l2 l3) ∧ W.cell? (ad.add (k * 5)) = some (.string ⟨(sl[k]'hkl).path.toArray⟩)) := by
          show ∀ W, _ → _
          intro W hb
          have hb' := hWr.trans (hb.mono hWr.size)
          obtain ⟨c0, c1, c2, c3, c4, c5, c6⟩ := hT.out _ hb'
          obtain ⟨ad2, e2, -, p0, -⟩ := set_at (hrw.out _ hb').1.sets.2.2 HSL.out hlt
          injection e2 with e2
          subst e2
          exact ⟨c0, c1, c2, c3, c4, c5, c6, p0⟩
        obtain ⟨xp, hxp⟩ : ∃ x, x = (sl[k]'hkl).path := ⟨_, rfl⟩
        rw [← hxp] at hKd hF HSS hml
        obtain ⟨mq, hm⟩ : ∃ x, x = (kidsL sl xp).length := ⟨_, rfl⟩
        rw [← hm] at hKd HSS hml
        have hm32 : mq ≤ 32 := by have := HSL.out; omega
        have hadd : IntKind.i64.wrap ((S : Int) + (mq : Int)) = ((S + mq : Nat) : Int) := by
          rw [show (S : Int) + (mq : Int) = ((S + mq : Nat) : Int) by omega]
          exact IntWalk.i64_in _ (by omega)
        have HWR := Lib.hid hWr
        clear hxp hm hml hKD hrw hT hWr
        go_wp2_with fail
        clear c0 c1 c2 c3 c4 c5 c6
        refine wp_region_good2 (by kernel_rfl) (by kernel_rfl) [(fun v _ => v = .int .i64 (S : Int)),
    (fun v _ => v = .agg #[.string ⟨nm.toArray⟩, .int .i64 quota, .int .i64 next, .slice (some ad) s2 s3, .slice ga gb gc, .slice t1 t2 t3, .slice l1 l2 l3]),
    (fun v _ => v = .pointer (some ⟨w.heap.size, 3, none⟩)),
    (fun v _ => v = .slice (some ad) s2 s3),
    (fun v _ => v = .int .i64 (k : Int)),
    (fun v _ => v = .pointer (some (ad.add (k * 5)))),
    (fun v _ => v = .pointer (some (ad.add (k * 5)))),
    (fun v _ => v = .string ⟨xp.toArray⟩),
    (fun v _ => ∃ A c, v = Value.slice A mq c),
    (fun v _ => v = .int .i64 (mq : Int)),
    (fun v _ => v = .int .i64 ((S + mq : Nat) : Int)),
    (fun v _ => v = .int .i64 ((S + mq : Nat) : Int))] ?_ ?_ ?_
        · repeat' (first | exact stays_nil | refine stays_cons ?_ ?_ | exact Stays.pure | exact Stays.own _ _ _ _ _)
        · intro i oo ho m2 W hb0 hmi hcl hdeps AA KK hA hK
          rcases i with _ | _ | _ | _ | _ | _ | _ | _ | _ | _ | _ | _ | i
          · injection ho with ho
            subst ho
            have q10 := none_up hcl (j := 10) rfl (e := ⟨0, .data⟩) (by simp) rfl hmi
            have q11 := none_up hcl (j := 11) rfl (e := ⟨10, .data⟩) (by simp) rfl q10
            have ef3 : AA.tmps[3]?.getD undef = .int .i64 (S : Int) := by rw [hA]; exact tmps_pre2 (i := 11) (by kernel_rfl) q11
            clear q10 q11
            clear hA hdeps hcl hmi
            have hK0 : KK (AA.put (some 20) _) _ := hK (.int .i64 (S : Int)) _ (Below.refl _ _) (Eq.refl _)
            clear hK
            go_simp
            exact hK0
          · injection ho with ho
            subst ho
            have ef1 : AA.tmps[1]?.getD undef = .pointer (some ⟨w.heap.size, 0, none⟩) := by rw [hA]; exact tmps_free (by kernel_rfl)
            clear hA hdeps hcl hmi
            obtain ⟨c0, c1, c2, c3, c4, c5, c6, p0⟩ := hF.out W hb0
            have hK0 : KK (AA.put (some 21) _) _ := hK (.agg #[.string ⟨nm.toArray⟩, .int .i64 quota, .int .i64 next, .slice (some ad) s2 s3, .slice ga gb gc, .slice t1 t2 t3, .slice l1 l2 l3]) _ (Below.refl _ _) (Eq.refl _)
            clear hK
            go_simp
            exact hK0
          · injection ho with ho
            subst ho
            have ef1 : AA.tmps[1]?.getD undef = .pointer (some ⟨w.heap.size, 0, none⟩) := by rw [hA]; exact tmps_free (by kernel_rfl)
            clear hA hdeps hcl hmi
            have hK0 : KK (AA.put (some 22) _) _ := hK (.pointer (some ⟨w.heap.size, 3, none⟩)) _ (Below.refl _ _) (Eq.refl _)
            clear hK
            go_simp
            exact hK0
          · injection ho with ho
            subst ho
            obtain ⟨x2, hx2, hg2⟩ := hdeps ⟨2, .data⟩ (by simp) rfl
            have hg2 : x2 = .pointer (some ⟨w.heap.size, 3, none⟩) := hg2
            subst hg2
            have e2 : AA.tmps[22]?.getD undef = .pointer (some ⟨w.heap.size, 3, none⟩) := by rw [hA]; exact tmps_own (by kernel_rfl) hx2 (of_decide_eq_true (by kernel_rfl))
            clear hA hdeps hcl hmi hx2
            obtain ⟨c0, c1, c2, c3, c4, c5, c6, p0⟩ := hF.out W hb0
            have hK0 : KK (AA.put (some 23) _) _ := hK (.slice (some ad) s2 s3) _ (Below.refl _ _) (Eq.refl _)
            clear hK
            go_simp
            exact hK0
          · injection ho with ho
            subst ho
            have ef4 : AA.tmps[4]?.getD undef = .int .i64 (k : Int) := by rw [hA]; exact tmps_free (by kernel_rfl)
            clear hA hdeps hcl hmi
            have hK0 : KK (AA.put (some 24) _) _ := hK (.int .i64 (k : Int)) _ (Below.refl _ _) (Eq.refl _)
            clear hK
            go_simp
            exact hK0
          · injection ho with ho
            subst ho
            obtain ⟨x3, hx3, hg3⟩ := hdeps ⟨3, .data⟩ (by simp) rfl
            have hg3 : x3 = .slice (some ad) s2 s3 := hg3
            subst hg3
            have e3 : AA.tmps[23]?.getD undef = .slice (some ad) s2 s3 := by rw [hA]; exact tmps_own (by kernel_rfl) hx3 (of_decide_eq_true (by kernel_rfl))
            obtain ⟨x4, hx4, hg4⟩ := hdeps ⟨4, .data⟩ (by simp) rfl
            have hg4 : x4 = .int .i64 (k : Int) := hg4
            subst hg4
            have e4 : AA.tmps[24]?.getD undef = .int .i64 (k : Int) := by rw [hA]; exact tmps_own (by kernel_rfl) hx4 (of_decide_eq_true (by kernel_rfl))
            clear hA hdeps hcl hmi hx3 hx4
            have hK0 : KK (AA.put (some 25) _) _ := hK (.pointer (some (ad.add (k * 5)))) _ (Below.refl _ _) (Eq.refl _)
            clear hK
            go_simp
            exact hK0
          · injection ho with ho
            subst ho
            obtain ⟨x5, hx5, hg5⟩ := hdeps ⟨5, .data⟩ (by simp) rfl
            have hg5 : x5 = .pointer (some (ad.add (k * 5))) := hg5
            subst hg5
            have e5 : AA.tmps[25]?.getD undef = .pointer (some (ad.add (k * 5))) := by rw [hA]; exact tmps_own (by kernel_rfl) hx5 (of_decide_eq_true (by kernel_rfl))
            clear hA hdeps hcl hmi hx5
            have hK0 : KK (AA.put (some 26) _) _ := hK (.pointer (some (ad.add (k * 5)))) _ (Below.refl _ _) (Eq.refl _)
            clear hK
            go_simp
            exact hK0
          · injection ho with ho
            subst ho
            obtain ⟨x6, hx6, hg6⟩ := hdeps ⟨6, .data⟩ (by simp) rfl
            have hg6 : x6 = .pointer (some (ad.add (k * 5))) := hg6
            subst hg6
            have e6 : AA.tmps[26]?.getD undef = .pointer (some (ad.add (k * 5))) := by rw [hA]; exact tmps_own (by kernel_rfl) hx6 (of_decide_eq_true (by kernel_rfl))
            clear hA hdeps hcl hmi hx6
            obtain ⟨c0, c1, c2, c3, c4, c5, c6, p0⟩ := hF.out W hb0
            have hK0 : KK (AA.put (some 27) _) _ := hK (.string ⟨xp.toArray⟩) _ (Below.refl _ _) (Eq.refl _)
            clear hK
            go_simp
            exact hK0
          · injection ho with ho
            subst ho
            obtain ⟨x1, hx1, hg1⟩ := hdeps ⟨1, .data⟩ (by simp) rfl
            have hg1 : x1 = .agg #[.string ⟨nm.toArray⟩, .int .i64 quota, .int .i64 next, .slice (some ad) s2 s3, .slice ga gb gc, .slice t1 t2 t3, .slice l1 l2 l3] := hg1
            subst hg1
            have e1 : AA.tmps[21]?.getD undef = .agg #[.string ⟨nm.toArray⟩, .int .i64 quota, .int .i64 next, .slice (some ad) s2 s3, .slice ga gb gc, .slice t1 t2 t3, .slice l1 l2 l3] := by rw [hA]; exact tmps_own (by kernel_rfl) hx1 (of_decide_eq_true (by kernel_rfl))
            obtain ⟨x7, hx7, hg7⟩ := hdeps ⟨7, .data⟩ (by simp) rfl
            have hg7 : x7 = .string ⟨xp.toArray⟩ := hg7
            subst hg7
            have e7 : AA.tmps[27]?.getD undef = .string ⟨xp.toArray⟩ := by rw [hA]; exact tmps_own (by kernel_rfl) hx7 (of_decide_eq_true (by kernel_rfl))
            clear hA hdeps hcl hmi hx1 hx7
            have hKK := Lib.hid hK
            clear hK
            go_simp
            refine (hKd.out W hb0).mono ?_
            rintro e w5 ⟨A5, c5, rfl, hb5⟩
            exact hKK.out _ _ hb5 ⟨A5, c5, rfl⟩
          · injection ho with ho
            subst ho
            obtain ⟨x8, hx8, hg8⟩ := hdeps ⟨8, .data⟩ (by simp) rfl
            have hg8 : ∃ A c, x8 = Value.slice A mq c := hg8
            have hk8 := hg8
            obtain ⟨A8, c8, rfl⟩ := hg8
            have e8 : AA.tmps[28]?.getD undef = .slice A8 mq c8 := by rw [hA]; exact tmps_own (by kernel_rfl) hx8 (of_decide_eq_true (by kernel_rfl))
            clear hA hdeps hcl hmi hx8
            have hK0 : KK (AA.put (some 29) _) _ := hK (.int .i64 (mq : Int)) _ (Below.refl _ _) (Eq.refl _)
            clear hK
            go_simp
            exact hK0
          · injection ho with ho
            subst ho
            obtain ⟨x0, hx0, hg0⟩ := hdeps ⟨0, .data⟩ (by simp) rfl
            have hg0 : x0 = .int .i64 (S : Int) := hg0
            subst hg0
            have e0 : AA.tmps[20]?.getD undef = .int .i64 (S : Int) := by rw [hA]; exact tmps_own (by kernel_rfl) hx0 (of_decide_eq_true (by kernel_rfl))
            obtain ⟨x9, hx9, hg9⟩ := hdeps ⟨9, .data⟩ (by simp) rfl
            have hg9 : x9 = .int .i64 (mq : Int) := hg9
            subst hg9
            have e9 : AA.tmps[29]?.getD undef = .int .i64 (mq : Int) := by rw [hA]; exact tmps_own (by kernel_rfl) hx9 (of_decide_eq_true (by kernel_rfl))
            clear hA hdeps hcl hmi hx0 hx9
            have hK0 : KK (AA.put (some 30) _) _ := hK (.int .i64 ((S + mq : Nat) : Int)) _ (Below.refl _ _) (Eq.refl _)
            clear hK
            go_simp
            exact hK0
          · injection ho with ho
            subst ho
            obtain ⟨x10, hx10, hg10⟩ := hdeps ⟨10, .data⟩ (by simp) rfl
            have hg10 : x10 = .int .i64 ((S + mq : Nat) : Int) := hg10
            subst hg10
            have e10 : AA.tmps[30]?.getD undef = .int .i64 ((S + mq : Nat) : Int) := by rw [hA]; exact tmps_own (by kernel_rfl) hx10 (of_decide_eq_true (by kernel_rfl))
            clear hA hdeps hcl hmi hx10
            have hK0 : KK (AA.put (some 3) _) _ := hK (.int .i64 ((S + mq : Nat) : Int)) _ (Below.refl _ _) (Eq.refl _)
            clear hK
            go_simp
            exact hK0
          · simp at ho
        · intro m W hbx hall
          obtain ⟨x0, m0, g0⟩ := hall 0 (by simp)
          replace g0 : x0 = .int .i64 (S : Int) := g0
          subst g0
          obtain ⟨x1, m1, g1⟩ := hall 1 (by simp)
          replace g1 : x1 = .agg #[.string ⟨nm.toArray⟩, .int .i64 quota, .int .i64 next, .slice (some ad) s2 s3, .slice ga gb gc, .slice t1 t2 t3, .slice l1 l2 l3] := g1
          subst g1
          obtain ⟨x2, m2, g2⟩ := hall 2 (by simp)
          replace g2 : x2 = .pointer (some ⟨w.heap.size, 3, none⟩) := g2
          subst g2
          obtain ⟨x3, m3, g3⟩ := hall 3 (by simp)
          replace g3 : x3 = .slice (some ad) s2 s3 := g3
          subst g3
          obtain ⟨x4, m4, g4⟩ := hall 4 (by simp)
          replace g4 : x4 = .int .i64 (k : Int) := g4
          subst g4
          obtain ⟨x5, m5, g5⟩ := hall 5 (by simp)
          replace g5 : x5 = .pointer (some (ad.add (k * 5))) := g5
          subst g5
          obtain ⟨x6, m6, g6⟩ := hall 6 (by simp)
          replace g6 : x6 = .pointer (some (ad.add (k * 5))) := g6
          subst g6
          obtain ⟨x7, m7, g7⟩ := hall 7 (by simp)
          replace g7 : x7 = .string ⟨xp.toArray⟩ := g7
          subst g7
          obtain ⟨x8, m8, g8⟩ := hall 8 (by simp)
          replace g8 : ∃ A c, x8 = Value.slice A mq c := g8
          obtain ⟨x9, m9, g9⟩ := hall 9 (by simp)
          replace g9 : x9 = .int .i64 (mq : Int) := g9
          subst g9
          obtain ⟨x10, m10, g10⟩ := hall 10 (by simp)
          replace g10 : x10 = .int .i64 ((S + mq : Nat) : Int) := g10
          subst g10
          obtain ⟨x11, m11, g11⟩ := hall 11 (by simp)
          replace g11 : x11 = .int .i64 ((S + mq : Nat) : Int) := g11
          subst g11
          rw [frameM_all (by kernel_rfl) [.int .i64 (S : Int), .agg #[.string ⟨nm.toArray⟩, .int .i64 quota, .int .i64 next, .slice (some ad) s2 s3, .slice ga gb gc, .slice t1 t2 t3, .slice l1 l2 l3], .pointer (some ⟨w.heap.size, 3, none⟩), .slice (some ad) s2 s3, .int .i64 (k : Int), .pointer (some (ad.add (k * 5))), .pointer (some (ad.add (k * 5))), .string ⟨xp.toArray⟩, x8, .int .i64 (mq : Int), .int .i64 ((S + mq : Nat) : Int), .int .i64 ((S + mq : Nat) : Int)] rfl (fun i hi => by
              rcases i with _ | _ | _ | _ | _ | _ | _ | _ | _ | _ | _ | _ | i
              · exact m0
              · exact m1
              · exact m2
              · exact m3
              · exact m4
              · exact m5
              · exact m6
              · exact m7
              · exact m8
              · exact m9
              · exact m10
              · exact m11
              · simp at hi; omega)]
          clear hall m0 m1 m2 m3 m4 m5 m6 m7 m8 m9 m10 m11
          simp only [putAll, Act.put, List.setIfInBounds_toArray, List.set_cons_succ, List.set_cons_zero]
          have hbf := HWR.out.trans (hbx.mono HWR.out.size)
          go_wp2_with fail
          go_roundw
          case rel => exact ⟨k + 1, S + mq, by omega, by omega, rfl, by go_num, by show _ = _; rw [HSS.out, hok.out], hbf⟩
          case measure => simp [intOf]; omega
      · have hks : k = s2 := by omega
        have HF : Hid (S = s2) := by
          show _ = _
          rw [hok.out, hks]
          have := HALL.out
          rwa [← HSL.out] at this
        have hSi : (S : Int) = (s2 : Int) := by rw [HF.out]
        clear hks
        go_wp2_with fail
        go_ret
        exact ⟨by first | rfl | simp [hSi], HB1.out.trans (hWr.mono (by have := HSZ1.out; omega))⟩
  · clear hS
    go_wp2_with fail
    refine hc.mono ?_
    clear hc c0 c1 c2 c3 c4 c5 c6
    rintro e w3 ⟨rfl, hb3⟩
    have hW3 := hW2.trans (hb3.mono hW2.size)
    obtain ⟨c0, c1, c2, c3, c4, c5, c6⟩ := hT.out _ hW3
    have hc := hTC.out _ hW3
    go_wp2_with fail
    refine hc.mono ?_
    clear hc c0 c1 c2 c3 c4 c5 c6
    rintro e w4 ⟨rfl, hb4⟩
    have hW4 := hW3.trans (hb4.mono hW3.size)
    go_wp2_with fail
    go_ret
    exact ⟨rfl, HB1.out.trans (hW4.mono (by have := HSZ1.out; omega))⟩
end Go.Proofs.YtodikfhaghpkhaaDoor
