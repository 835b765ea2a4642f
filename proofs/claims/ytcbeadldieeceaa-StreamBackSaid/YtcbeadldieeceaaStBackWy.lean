/-
  The law StreamBack, walked. (mkstback.py)
-/
import Derived.Test.YtcbeadldieeceaaZ24
import Derived.Test.YtcbeadldieeceaaStMkAy
import Derived.Test.YtcbeadldieeceaaStAppy
import Derived.Test.YtcbeadldieeceaaZ7
namespace Go.Proofs.Ytcbeadldieeceaa
open Go.RowKit

theorem apR_of (l : BL) (r : RE) (h : ValidR r) : apR l (rcOf r) = apStep l r := by
  unfold apR apStep rcOf
  rcases h with ⟨h1, _⟩ | ⟨h1, _⟩
  · rw [if_pos h1, if_pos h1]
  · rw [if_neg (by simp only; omega), if_pos h1, if_neg (by omega)]
theorem apAll_of (o : RL) : ∀ l : BL, (∀ r ∈ o, ValidR r) → apAll l (o.map rcOf) = o.foldl apStep l := by
  induction o with
  | nil => intro l _; rfl
  | cons r o ih =>
    intro l h
    show apAll (apR l (rcOf r)) (o.map rcOf) = _
    rw [apR_of l r (h r (by simp)), ih _ (fun q hq => h q (by simp [hq]))]
    rfl
/-- the stream's records done to the base make the snapshot -/
theorem apply_back (a b : BL) (r0 : Rc) (ok : Bool) (hk : r0.kind = 1) (hm : makeE a b r0 ok = 0) : okL a = true ∧ apAll a (recsL a b r0 ++ [rcEnd (sumS Sm0 (recsL a b r0))]) = b := by
  have hd0 : diffE a b = 0 := by
    unfold makeE at hm
    split at hm
    · rename_i h; exact absurd hm h
    · rename_i h; exact Classical.not_not.1 h
  obtain ⟨ha, hb⟩ := (diffE_ok a b).1 hd0
  have ho : diffO a b = (diffGo a b ([], -2)).1 := by unfold diffO; rw [if_pos hd0]
  have hap := apply_law a b ha hb
  refine ⟨ha, ?_⟩
  rw [apAll_snoc]
  have h0 : apR a r0 = a := by unfold apR; rw [if_neg (by omega), if_neg (by omega)]
  have h1 : apAll a (recsL a b r0) = b := by
    show apAll (apR a r0) ((diffO a b).map rcOf) = b
    rw [h0, apAll_of _ _ (by rw [ho]; exact hap.1), ho]
    exact hap.2.2.1
  rw [h1]
  unfold apR
  rw [if_neg (by simp [rcEnd]), if_neg (by simp [rcEnd])]
set_option maxRecDepth 100000 in
set_option maxHeartbeats 8000000 in
theorem back_full (fn tn : BS) (fg tg : Int) (a b : BL) (o p : PL) (ft tt : Value) (n1 n2 n3 n4 c1 c2 c3 c4 : Nat) (A1 A2 A3 A4 : Option Addr) (w : World) (hx : (SpR.mk fn fg ⟨A1, n1, c1, a⟩ ft ⟨A3, n3, c3, o⟩).rd w w.heap.size) (hy : (SpR.mk tn tg ⟨A2, n2, c2, b⟩ tt ⟨A4, n4, c4, p⟩).rd w w.heap.size) (sx : (SpR.mk fn fg ⟨A1, n1, c1, a⟩ ft ⟨A3, n3, c3, o⟩).sz) (sy : (SpR.mk tn tg ⟨A2, n2, c2, b⟩ tt ⟨A4, n4, c4, p⟩).sz) :
    Calls Try.prog 6 #[.agg #[.string ⟨fn.toArray⟩, .int .i64 fg, .slice A1 n1 c1, ft, .slice A3 n3 c3], .agg #[.string ⟨tn.toArray⟩, .int .i64 tg, .slice A2 n2 c2, tt, .slice A4 n4 c4], .bool true] w fun e w' => e = .returned (.bool true) ∧ Below w.heap.size w w' := by
  have hmk := fun W (hb : Below w.heap.size w W) => make_any _ _ true W (hx.below hb) (hy.below hb) sx sy
  obtain ⟨r0, hr0⟩ : ∃ r, r = (⟨1, tn, 0, tg, p, 0, 0, [], Sm0⟩ : Rc) := ⟨_, rfl⟩
  have HMK : Hid (∀ W, Below w.heap.size w W → Calls Try.prog 7 #[.agg #[.string ⟨fn.toArray⟩, .int .i64 fg, .slice A1 n1 c1, ft, .slice A3 n3 c3], .agg #[.string ⟨tn.toArray⟩, .int .i64 tg, .slice A2 n2 c2, tt, .slice A4 n4 c4], .bool true] W (MakePost W [] b r0 true)) := by rw [hr0]; exact hmk
  have hbk := back_law [] b r0 true (by rw [hr0])
  have hap := apply_back [] b r0 true (by rw [hr0])
  have HR1 := Lib.hid hx.body
  have HR2 := Lib.hid hy.body
  have HR4 := Lib.hid hy.own
  have HN1 := Lib.hid hx.bn
  have HN2 := Lib.hid hy.bn
  have HN4 := Lib.hid hy.on
  have hs2 := sy.body
  have hs4 := sy.own
  simp only at HR1 HR2 HR4 HN1 HN2 HN4 hs2 hs4
  obtain ⟨S, hS⟩ : ∃ S, S = makeS [] b r0 := ⟨_, rfl⟩
  obtain ⟨E, hE⟩ : ∃ E, E = makeE [] b r0 true := ⟨_, rfl⟩
  unfold MakePost at HMK
  rw [← hS, ← hE] at HMK
  rw [← hS, ← hE] at hbk
  rw [← hE] at hap
  have HBK := Lib.hid hbk
  have HAP := Lib.hid hap
  have HR0 := Lib.hid hr0
  clear hmk hbk hap hS hE hr0 hx hy sx sy
  obtain ⟨g, hg⟩ : ∃ g, g = w.heap.size := ⟨_, rfl⟩
  obtain ⟨W0, hW0⟩ : ∃ W, W = ((w.alloc (.cells #[.string ⟨fn.toArray⟩, .int .i64 fg, .slice A1 n1 c1, ft, .slice A3 n3 c3] 26)).alloc (.cells #[.string ⟨tn.toArray⟩, .int .i64 tg, .slice A2 n2 c2, tt, .slice A4 n4 c4] 26)) := ⟨_, rfl⟩
  have kF : Blk W0 g 26 #[.string ⟨fn.toArray⟩, .int .i64 fg, .slice A1 n1 c1, ft, .slice A3 n3 c3] := by rw [hW0, hg]; exact (Blk.new w _ _).alloc _
  have kT : Blk W0 (g + 1) 26 #[.string ⟨tn.toArray⟩, .int .i64 tg, .slice A2 n2 c2, tt, .slice A4 n4 c4] := by
    rw [hW0, hg]
    have := Blk.new (w.alloc (.cells #[.string ⟨fn.toArray⟩, .int .i64 fg, .slice A1 n1 c1, ft, .slice A3 n3 c3] 26)) 26 #[.string ⟨tn.toArray⟩, .int .i64 tg, .slice A2 n2 c2, tt, .slice A4 n4 c4]
    simp at this
    exact this
  have hb0 : Below w.heap.size w W0 := by rw [hW0]; exact ((Below.refl _ _).alloc (Nat.le_refl _) _).alloc (by simp) _
  have HB := Lib.hid hb0
  have HKF := Lib.hid kF
  have HKT := Lib.hid kT
  clear kF kT hb0
  go_enter Try.func6, Try.ntmps6
  go_upto_region 1 with (fail)
  rw [← hg, ← hW0]
  clear hW0 hg
  go_wp2_with fail
  refine (alive_any W0).mono ?_
  rintro e w1 ⟨rfl, hb1⟩
  have HKF1 := Lib.hid (HKF.out.below hb1 HKF.out.lt)
  have HKT1 := Lib.hid (HKT.out.below hb1 HKT.out.lt)
  have HB1 := Lib.hid (HB.out.trans (hb1.mono HB.out.size))
  clear hb1 HKF HKT HB
  obtain ⟨f0, f1, f2, f3, f4⟩ := blk5 HKF1.out
  obtain ⟨t0, t1, t2, t3, t4⟩ := blk5 HKT1.out
  go_wp2_with fail
  refine (HMK.out w1 HB1.out).mono ?_
  clear HMK f0 f1 f2 f3 f4 t0 t1 t2 t3 t4
  rintro e w2 ⟨v, rfl, hv, hb2⟩
  have HKF2 := Lib.hid (HKF1.out.below hb2 HKF1.out.lt)
  have HKT2 := Lib.hid (HKT1.out.below hb2 HKT1.out.lt)
  have HB2 := Lib.hid (HB1.out.trans (hb2.mono HB1.out.size))
  clear hb2 HKF1 HKT1 HB1
  by_cases hE0 : E ≠ 0
  · have hne : (E != 0) = true := by simpa using hE0
    rw [if_neg hE0] at hv
    subst hv
    clear hE0
    go_wp2_with fail
    refine (num_any _ _).mono ?_
    rintro e w5 ⟨rfl, hw5⟩
    rw [hw5]
    clear hw5 w5
    go_wp2_with fail
    go_ret
    exact ⟨rfl, HB2.out⟩
  obtain rfl : E = 0 := Classical.not_not.1 hE0
  clear hE0
  rw [if_pos rfl] at hv
  obtain ⟨n5, hn5⟩ : ∃ z, z = S.length := ⟨_, rfl⟩
  rw [← hn5] at hv
  obtain ⟨A5, c5, rfl, hc5, hm5, hr5⟩ := own_form hv
  have hbk := HBK.out rfl
  rw [← hn5] at hbk
  obtain ⟨hokb, hall⟩ := HAP.out rfl
  have HALL := Lib.hid hall
  have HRC := Lib.hid (recs_any S n5 hn5 A5 c5 w2 hr5 hc5 (by unfold maxLen at hm5; exact hm5))
  have HBK2 := Lib.hid hbk
  have HOKB := Lib.hid hokb
  clear hv hr5 hbk hall hn5 hokb HBK HAP
  go_wp2_with fail
  refine (num_any _ _).mono ?_
  rintro e w5 ⟨rfl, hw5⟩
  rw [hw5]
  clear hw5 w5
  go_wp2_with fail
  refine HRC.out.mono ?_
  clear HRC
  rintro e w3 ⟨ys, A6, k, c6, rfl, hys, hk, hor, hown, hb3⟩
  rw [HBK2.out] at hys ⊢
  simp only at hys ⊢
  have HKF3 := Lib.hid (HKF2.out.below hb3 HKF2.out.lt)
  have HKT3 := Lib.hid (HKT2.out.below hb3 HKT2.out.lt)
  have HB3 := Lib.hid (HB2.out.trans (hb3.mono HB2.out.size))
  obtain ⟨A6', c6', hv6, _, _, hr6⟩ := own_form hor
  have h6 : A6' = A6 := by injection hv6 with h1 _ h2; exact h1.symm
  rw [h6] at hr6
  clear h6
  have hkl : k = (recsL [] b r0).length + 1 := by
    have := congrArg List.length hys
    rw [List.length_map, List.length_append] at this
    rw [hk, this]; rfl
  have hk1 : k ≤ 100000 := by
    rw [hkl]
    unfold recsL
    have := diffO_len [] b
    rw [List.length_cons, List.length_map]
    omega
  have hk0 : 0 < k := by omega
  have HYS := Lib.hid hys
  have HKY := Lib.hid hk
  have HR6 := Lib.hid hr6
  have HOR := Lib.hid hown
  clear hys hk hor hown hb3 hv6 hr6 hkl HKF2 HKT2 HB2 HBK2
  obtain ⟨f0, f1, f2, f3, f4⟩ := blk5 HKF3.out
  have happ := apply_any [] HOKB.out 0 rfl none 0 ys k HKY.out A6 c6 w3 Reads.none_ HR6.out hk1 (fun y hy => ⟨(HOR.out y hy).1, Reads.of_own (HOR.out y hy).2.1⟩) (fun y hy => (HOR.out y hy).2.2.1)
  rw [HYS.out, HALL.out] at happ
  have HAPP := Lib.hid happ
  clear happ HALL
  go_wp2_with fail
  refine (num_any _ _).mono ?_
  rintro e w5 ⟨rfl, hw5⟩
  rw [hw5]
  clear hw5 w5
  go_wp2_with fail
  refine HAPP.out.mono ?_
  clear HAPP f0 f1 f2 f3 f4
  rintro e w4 ⟨A7, k7, c7, rfl, hk7, hr7, hb4⟩
  have HKF4 := Lib.hid (HKF3.out.below hb4 HKF3.out.lt)
  have HKT4 := Lib.hid (HKT3.out.below hb4 HKT3.out.lt)
  have HB4 := Lib.hid (HB3.out.trans (hb4.mono HB3.out.size))
  obtain ⟨ad, rfl, _, hel⟩ := Reads.elAll (enc := RcR.cs) (k := 12) RcR.cs_len (HR6.out.below hb4) HKY.out hk0
  have hyl : 0 < ys.length := by have := HKY.out; omega
  have hy0 := HOR.out _ (List.getElem_mem hyl)
  have hyr : (ys[0]'hyl).r = r0 := by
    have h1 := HYS.out
    have h2 : (ys.map RcR.r)[0]? = some r0 := by rw [h1]; rfl
    rw [List.getElem?_map, List.getElem?_eq_getElem hyl] at h2
    simpa using h2
  obtain ⟨y0, hyy⟩ : ∃ z, z = ys[0]'hyl := ⟨_, rfl⟩
  rw [← hyy] at hel hy0 hyr
  obtain ⟨yr, B1, m1, d1⟩ := y0
  simp only at hyr hy0
  obtain rfl := hyr
  obtain ⟨cs, hcs⟩ : ∃ cs, cs = RcR.cs ⟨yr, B1, m1, d1⟩ := ⟨_, rfl⟩
  have hcl : cs.length = 12 := by rw [hcs]; rfl
  have hc1 : ∀ u ∈ cs, u.oneCell' = true := by rw [hcs]; exact RcR.cs_one _
  have hyr0 := HR0.out
  have t1' : cs.toArray[1]? = some (.string ⟨tn.toArray⟩) := by rw [hcs, hyr0]; rfl
  have t2' : cs.toArray[2]? = some (.int .i64 0) := by rw [hcs, hyr0]; rfl
  have t3' : cs.toArray[3]? = some (.int .i64 tg) := by rw [hcs, hyr0]; rfl
  have t4' : cs.toArray[4]? = some (.slice B1 m1 d1) := by rw [hcs]; rfl
  rw [← hcs] at hel
  have hm1 : m1 = p.length := by rw [hy0.1, hyr0]
  have hrm : Reads w4 w4.heap.size 2 B1 m1 (pcells p) := by
    have := Reads.of_own (own_below hy0.2.1 hb4)
    rw [hyr0] at this
    exact this
  obtain ⟨q, hq⟩ : ∃ z, z = w4.heap.size := ⟨_, rfl⟩
  obtain ⟨W8, hW8⟩ : ∃ W, W = w4.alloc (.cells cs.toArray 47) := ⟨_, rfl⟩
  have hb8 : Below w4.heap.size w4 W8 := by rw [hW8]; exact (Below.refl _ _).alloc (Nat.le_refl _) _
  have hbk8 : Blk W8 q 47 cs.toArray := by rw [hW8, hq]; exact Blk.new _ _ _
  have e1 := hbk8.cell 1
  have e2 := hbk8.cell 2
  have e3 := hbk8.cell 3
  have e4 := hbk8.cell 4
  rw [t1'] at e1
  rw [t2'] at e2
  rw [t3'] at e3
  rw [t4'] at e4
  obtain ⟨f0, f1, f2, f3, f4⟩ := blk5 (HKF4.out.below hb8 HKF4.out.lt)
  obtain ⟨t0, t1, t2, t3, t4⟩ := blk5 (HKT4.out.below hb8 HKT4.out.lt)
  have HB8 := Lib.hid (HB4.out.trans (hb8.mono HB4.out.size))
  have HSM := Lib.hid (bksame_any b b k7 n2 hk7 HN2.out A7 A2 c7 c2 W8 _ _ (hr7.below hb8) (HR2.out.below HB8.out) (by rw [hk7, ← HN2.out]; omega))
  have HEL := Lib.hid hel
  have HSP := Lib.hid (fun (i : Nat) => sameProps_any p p m1 n4 hm1 HN4.out B1 A4 d1 c4 (W8.drewN i) _ _ ((hrm.below hb8).drewN i) ((HR4.out.below HB8.out).drewN i) (by rw [hm1, ← HN4.out]; omega) hs4)
  clear hel hb8 hbk8 t1' t2' t3' t4' hcs hyy hyr0 hm1 hrm hr7 hk7 hb4 hy0
  go_upto_region 14 with (first | (refine wpList_load_at rfl 47 (.tmp 56) rfl ad rfl cs _ (fun j v hv => by have := HEL.out j v hv; rwa [Nat.zero_mul, add_zero] at this) Try.underlying47 rfl (by rw [hcl]; kernel_rfl) ?_) | (refine wpList_store_new w4 rfl 47 (.tmp 15) (.tmp 57) rfl 47 _ cs rfl rfl (by rw [hcl]; rfl) (by rw [hcl]; kernel_rfl) hc1 ?_))
  rw [← hW8, ← hq]
  clear hW8 hq
  go_wp2_with fail
  refine (num_any _ _).mono ?_
  rintro e w5 ⟨rfl, hw5⟩
  rw [hw5]
  clear hw5 w5
  go_wp2_with fail
  refine HSM.out.mono ?_
  clear HSM
  rintro e w5 ⟨rfl, i5, hw5⟩
  rw [hw5, beq_self_eq_true]
  clear hw5 w5
  go_wp2_with fail
  refine (HSP.out i5).mono ?_
  clear HSP
  rintro e w5 ⟨rfl, i6, hw5⟩
  rw [hw5]
  simp only [decide_true]
  clear hw5 w5
  go_wp2_with fail
  go_ret
  exact ⟨rfl, below_drewN HB8.out _⟩
set_option maxRecDepth 100000 in
set_option maxHeartbeats 8000000 in
theorem back_from (fn tn : BS) (fg tg : Int) (a b : BL) (o p : PL) (ft tt : Value) (n1 n2 n3 n4 c1 c2 c3 c4 : Nat) (A1 A2 A3 A4 : Option Addr) (w : World) (hx : (SpR.mk fn fg ⟨A1, n1, c1, a⟩ ft ⟨A3, n3, c3, o⟩).rd w w.heap.size) (hy : (SpR.mk tn tg ⟨A2, n2, c2, b⟩ tt ⟨A4, n4, c4, p⟩).rd w w.heap.size) (sx : (SpR.mk fn fg ⟨A1, n1, c1, a⟩ ft ⟨A3, n3, c3, o⟩).sz) (sy : (SpR.mk tn tg ⟨A2, n2, c2, b⟩ tt ⟨A4, n4, c4, p⟩).sz) :
    Calls Try.prog 6 #[.agg #[.string ⟨fn.toArray⟩, .int .i64 fg, .slice A1 n1 c1, ft, .slice A3 n3 c3], .agg #[.string ⟨tn.toArray⟩, .int .i64 tg, .slice A2 n2 c2, tt, .slice A4 n4 c4], .bool false] w fun e w' => e = .returned (.bool true) ∧ Below w.heap.size w w' := by
  have hmk := fun W (hb : Below w.heap.size w W) => make_any _ _ false W (hx.below hb) (hy.below hb) sx sy
  obtain ⟨r0, hr0⟩ : ∃ r, r = (⟨1, tn, fg, tg, p, 0, 0, [], Sm0⟩ : Rc) := ⟨_, rfl⟩
  have HMK : Hid (∀ W, Below w.heap.size w W → Calls Try.prog 7 #[.agg #[.string ⟨fn.toArray⟩, .int .i64 fg, .slice A1 n1 c1, ft, .slice A3 n3 c3], .agg #[.string ⟨tn.toArray⟩, .int .i64 tg, .slice A2 n2 c2, tt, .slice A4 n4 c4], .bool false] W (MakePost W a b r0 (decide (fg < tg)))) := by rw [hr0]; exact hmk
  have hbk := back_law a b r0 (decide (fg < tg)) (by rw [hr0])
  have hap := apply_back a b r0 (decide (fg < tg)) (by rw [hr0])
  have HR1 := Lib.hid hx.body
  have HR2 := Lib.hid hy.body
  have HR4 := Lib.hid hy.own
  have HN1 := Lib.hid hx.bn
  have HN2 := Lib.hid hy.bn
  have HN4 := Lib.hid hy.on
  have hs2 := sy.body
  have hs4 := sy.own
  simp only at HR1 HR2 HR4 HN1 HN2 HN4 hs2 hs4
  obtain ⟨S, hS⟩ : ∃ S, S = makeS a b r0 := ⟨_, rfl⟩
  obtain ⟨E, hE⟩ : ∃ E, E = makeE a b r0 (decide (fg < tg)) := ⟨_, rfl⟩
  unfold MakePost at HMK
  rw [← hS, ← hE] at HMK
  rw [← hS, ← hE] at hbk
  rw [← hE] at hap
  have HBK := Lib.hid hbk
  have HAP := Lib.hid hap
  have HR0 := Lib.hid hr0
  clear hmk hbk hap hS hE hr0 hx hy sx sy
  obtain ⟨g, hg⟩ : ∃ g, g = w.heap.size := ⟨_, rfl⟩
  obtain ⟨W0, hW0⟩ : ∃ W, W = ((w.alloc (.cells #[.string ⟨fn.toArray⟩, .int .i64 fg, .slice A1 n1 c1, ft, .slice A3 n3 c3] 26)).alloc (.cells #[.string ⟨tn.toArray⟩, .int .i64 tg, .slice A2 n2 c2, tt, .slice A4 n4 c4] 26)) := ⟨_, rfl⟩
  have kF : Blk W0 g 26 #[.string ⟨fn.toArray⟩, .int .i64 fg, .slice A1 n1 c1, ft, .slice A3 n3 c3] := by rw [hW0, hg]; exact (Blk.new w _ _).alloc _
  have kT : Blk W0 (g + 1) 26 #[.string ⟨tn.toArray⟩, .int .i64 tg, .slice A2 n2 c2, tt, .slice A4 n4 c4] := by
    rw [hW0, hg]
    have := Blk.new (w.alloc (.cells #[.string ⟨fn.toArray⟩, .int .i64 fg, .slice A1 n1 c1, ft, .slice A3 n3 c3] 26)) 26 #[.string ⟨tn.toArray⟩, .int .i64 tg, .slice A2 n2 c2, tt, .slice A4 n4 c4]
    simp at this
    exact this
  have hb0 : Below w.heap.size w W0 := by rw [hW0]; exact ((Below.refl _ _).alloc (Nat.le_refl _) _).alloc (by simp) _
  have HB := Lib.hid hb0
  have HKF := Lib.hid kF
  have HKT := Lib.hid kT
  clear kF kT hb0
  go_enter Try.func6, Try.ntmps6
  go_upto_region 1 with (fail)
  rw [← hg, ← hW0]
  clear hW0 hg
  go_wp2_with fail
  refine (alive_any W0).mono ?_
  rintro e w1 ⟨rfl, hb1⟩
  have HKF1 := Lib.hid (HKF.out.below hb1 HKF.out.lt)
  have HKT1 := Lib.hid (HKT.out.below hb1 HKT.out.lt)
  have HB1 := Lib.hid (HB.out.trans (hb1.mono HB.out.size))
  clear hb1 HKF HKT HB
  obtain ⟨f0, f1, f2, f3, f4⟩ := blk5 HKF1.out
  obtain ⟨t0, t1, t2, t3, t4⟩ := blk5 HKT1.out
  go_wp2_with fail
  refine (HMK.out w1 HB1.out).mono ?_
  clear HMK f0 f1 f2 f3 f4 t0 t1 t2 t3 t4
  rintro e w2 ⟨v, rfl, hv, hb2⟩
  have HKF2 := Lib.hid (HKF1.out.below hb2 HKF1.out.lt)
  have HKT2 := Lib.hid (HKT1.out.below hb2 HKT1.out.lt)
  have HB2 := Lib.hid (HB1.out.trans (hb2.mono HB1.out.size))
  clear hb2 HKF1 HKT1 HB1
  by_cases hE0 : E ≠ 0
  · have hne : (E != 0) = true := by simpa using hE0
    rw [if_neg hE0] at hv
    subst hv
    clear hE0
    go_wp2_with fail
    refine (num_any _ _).mono ?_
    rintro e w5 ⟨rfl, hw5⟩
    rw [hw5]
    clear hw5 w5
    go_wp2_with fail
    go_ret
    exact ⟨rfl, HB2.out⟩
  obtain rfl : E = 0 := Classical.not_not.1 hE0
  clear hE0
  rw [if_pos rfl] at hv
  obtain ⟨n5, hn5⟩ : ∃ z, z = S.length := ⟨_, rfl⟩
  rw [← hn5] at hv
  obtain ⟨A5, c5, rfl, hc5, hm5, hr5⟩ := own_form hv
  have hbk := HBK.out rfl
  rw [← hn5] at hbk
  obtain ⟨hokb, hall⟩ := HAP.out rfl
  have HALL := Lib.hid hall
  have HRC := Lib.hid (recs_any S n5 hn5 A5 c5 w2 hr5 hc5 (by unfold maxLen at hm5; exact hm5))
  have HBK2 := Lib.hid hbk
  have HOKB := Lib.hid hokb
  clear hv hr5 hbk hall hn5 hokb HBK HAP
  go_wp2_with fail
  refine (num_any _ _).mono ?_
  rintro e w5 ⟨rfl, hw5⟩
  rw [hw5]
  clear hw5 w5
  go_wp2_with fail
  refine HRC.out.mono ?_
  clear HRC
  rintro e w3 ⟨ys, A6, k, c6, rfl, hys, hk, hor, hown, hb3⟩
  rw [HBK2.out] at hys ⊢
  simp only at hys ⊢
  have HKF3 := Lib.hid (HKF2.out.below hb3 HKF2.out.lt)
  have HKT3 := Lib.hid (HKT2.out.below hb3 HKT2.out.lt)
  have HB3 := Lib.hid (HB2.out.trans (hb3.mono HB2.out.size))
  obtain ⟨A6', c6', hv6, _, _, hr6⟩ := own_form hor
  have h6 : A6' = A6 := by injection hv6 with h1 _ h2; exact h1.symm
  rw [h6] at hr6
  clear h6
  have hkl : k = (recsL a b r0).length + 1 := by
    have := congrArg List.length hys
    rw [List.length_map, List.length_append] at this
    rw [hk, this]; rfl
  have hk1 : k ≤ 100000 := by
    rw [hkl]
    unfold recsL
    have := diffO_len a b
    rw [List.length_cons, List.length_map]
    omega
  have hk0 : 0 < k := by omega
  have HYS := Lib.hid hys
  have HKY := Lib.hid hk
  have HR6 := Lib.hid hr6
  have HOR := Lib.hid hown
  clear hys hk hor hown hb3 hv6 hr6 hkl HKF2 HKT2 HB2 HBK2
  obtain ⟨f0, f1, f2, f3, f4⟩ := blk5 HKF3.out
  have happ := apply_any a HOKB.out n1 HN1.out A1 c1 ys k HKY.out A6 c6 w3 ((HR1.out.below HB3.out).more HB3.out.size) HR6.out hk1 (fun y hy => ⟨(HOR.out y hy).1, Reads.of_own (HOR.out y hy).2.1⟩) (fun y hy => (HOR.out y hy).2.2.1)
  rw [HYS.out, HALL.out] at happ
  have HAPP := Lib.hid happ
  clear happ HALL
  go_wp2_with fail
  refine (num_any _ _).mono ?_
  rintro e w5 ⟨rfl, hw5⟩
  rw [hw5]
  clear hw5 w5
  go_wp2_with fail
  refine HAPP.out.mono ?_
  clear HAPP f0 f1 f2 f3 f4
  rintro e w4 ⟨A7, k7, c7, rfl, hk7, hr7, hb4⟩
  have HKF4 := Lib.hid (HKF3.out.below hb4 HKF3.out.lt)
  have HKT4 := Lib.hid (HKT3.out.below hb4 HKT3.out.lt)
  have HB4 := Lib.hid (HB3.out.trans (hb4.mono HB3.out.size))
  obtain ⟨ad, rfl, _, hel⟩ := Reads.elAll (enc := RcR.cs) (k := 12) RcR.cs_len (HR6.out.below hb4) HKY.out hk0
  have hyl : 0 < ys.length := by have := HKY.out; omega
  have hy0 := HOR.out _ (List.getElem_mem hyl)
  have hyr : (ys[0]'hyl).r = r0 := by
    have h1 := HYS.out
    have h2 : (ys.map RcR.r)[0]? = some r0 := by rw [h1]; rfl
    rw [List.getElem?_map, List.getElem?_eq_getElem hyl] at h2
    simpa using h2
  obtain ⟨y0, hyy⟩ : ∃ z, z = ys[0]'hyl := ⟨_, rfl⟩
  rw [← hyy] at hel hy0 hyr
  obtain ⟨yr, B1, m1, d1⟩ := y0
  simp only at hyr hy0
  obtain rfl := hyr
  obtain ⟨cs, hcs⟩ : ∃ cs, cs = RcR.cs ⟨yr, B1, m1, d1⟩ := ⟨_, rfl⟩
  have hcl : cs.length = 12 := by rw [hcs]; rfl
  have hc1 : ∀ u ∈ cs, u.oneCell' = true := by rw [hcs]; exact RcR.cs_one _
  have hyr0 := HR0.out
  have t1' : cs.toArray[1]? = some (.string ⟨tn.toArray⟩) := by rw [hcs, hyr0]; rfl
  have t2' : cs.toArray[2]? = some (.int .i64 fg) := by rw [hcs, hyr0]; rfl
  have t3' : cs.toArray[3]? = some (.int .i64 tg) := by rw [hcs, hyr0]; rfl
  have t4' : cs.toArray[4]? = some (.slice B1 m1 d1) := by rw [hcs]; rfl
  rw [← hcs] at hel
  have hm1 : m1 = p.length := by rw [hy0.1, hyr0]
  have hrm : Reads w4 w4.heap.size 2 B1 m1 (pcells p) := by
    have := Reads.of_own (own_below hy0.2.1 hb4)
    rw [hyr0] at this
    exact this
  obtain ⟨q, hq⟩ : ∃ z, z = w4.heap.size := ⟨_, rfl⟩
  obtain ⟨W8, hW8⟩ : ∃ W, W = w4.alloc (.cells cs.toArray 47) := ⟨_, rfl⟩
  have hb8 : Below w4.heap.size w4 W8 := by rw [hW8]; exact (Below.refl _ _).alloc (Nat.le_refl _) _
  have hbk8 : Blk W8 q 47 cs.toArray := by rw [hW8, hq]; exact Blk.new _ _ _
  have e1 := hbk8.cell 1
  have e2 := hbk8.cell 2
  have e3 := hbk8.cell 3
  have e4 := hbk8.cell 4
  rw [t1'] at e1
  rw [t2'] at e2
  rw [t3'] at e3
  rw [t4'] at e4
  obtain ⟨f0, f1, f2, f3, f4⟩ := blk5 (HKF4.out.below hb8 HKF4.out.lt)
  obtain ⟨t0, t1, t2, t3, t4⟩ := blk5 (HKT4.out.below hb8 HKT4.out.lt)
  have HB8 := Lib.hid (HB4.out.trans (hb8.mono HB4.out.size))
  have HSM := Lib.hid (bksame_any b b k7 n2 hk7 HN2.out A7 A2 c7 c2 W8 _ _ (hr7.below hb8) (HR2.out.below HB8.out) (by rw [hk7, ← HN2.out]; omega))
  have HEL := Lib.hid hel
  have HSP := Lib.hid (fun (i : Nat) => sameProps_any p p m1 n4 hm1 HN4.out B1 A4 d1 c4 (W8.drewN i) _ _ ((hrm.below hb8).drewN i) ((HR4.out.below HB8.out).drewN i) (by rw [hm1, ← HN4.out]; omega) hs4)
  clear hel hb8 hbk8 t1' t2' t3' t4' hcs hyy hyr0 hm1 hrm hr7 hk7 hb4 hy0
  go_upto_region 14 with (first | (refine wpList_load_at rfl 47 (.tmp 56) rfl ad rfl cs _ (fun j v hv => by have := HEL.out j v hv; rwa [Nat.zero_mul, add_zero] at this) Try.underlying47 rfl (by rw [hcl]; kernel_rfl) ?_) | (refine wpList_store_new w4 rfl 47 (.tmp 15) (.tmp 57) rfl 47 _ cs rfl rfl (by rw [hcl]; rfl) (by rw [hcl]; kernel_rfl) hc1 ?_))
  rw [← hW8, ← hq]
  clear hW8 hq
  go_wp2_with fail
  refine (num_any _ _).mono ?_
  rintro e w5 ⟨rfl, hw5⟩
  rw [hw5]
  clear hw5 w5
  go_wp2_with fail
  refine HSM.out.mono ?_
  clear HSM
  rintro e w5 ⟨rfl, i5, hw5⟩
  rw [hw5, beq_self_eq_true]
  clear hw5 w5
  go_wp2_with fail
  refine (HSP.out i5).mono ?_
  clear HSP
  rintro e w5 ⟨rfl, i6, hw5⟩
  rw [hw5]
  simp only [decide_true]
  clear hw5 w5
  go_wp2_with fail
  go_ret
  exact ⟨rfl, below_drewN HB8.out _⟩
theorem streamBack_any (x y : SpR) (full : Bool) (w : World) (hx : x.rd w w.heap.size) (hy : y.rd w w.heap.size) (sx : x.sz) (sy : y.sz) :
    LawCalls Try.prog 6 #[.agg x.cells, .agg y.cells, .bool full] w := by
  obtain ⟨fn, fg, ⟨A1, n1, c1, a⟩, ft, ⟨A3, n3, c3, o⟩⟩ := x
  obtain ⟨tn, tg, ⟨A2, n2, c2, b⟩, tt, ⟨A4, n4, c4, p⟩⟩ := y
  cases full with
  | true => exact back_full fn tn fg tg a b o p ft tt n1 n2 n3 n4 c1 c2 c3 c4 A1 A2 A3 A4 w hx hy sx sy
  | false => exact back_from fn tn fg tg a b o p ft tt n1 n2 n3 n4 c1 c2 c3 c4 A1 A2 A3 A4 w hx hy sx sy
end Go.Proofs.Ytcbeadldieeceaa
