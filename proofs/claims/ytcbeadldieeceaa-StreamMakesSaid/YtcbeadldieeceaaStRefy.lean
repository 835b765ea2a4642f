/-
  godownref19.Make, by its contract. (mkstref.py)
-/
import Derived.WalkSmall
import Derived.Test.YtcbeadldieeceaaZ17
import Derived.Test.YtcbeadldieeceaaStRef0y
import Derived.Test.YtcbeadldieeceaaZ24
namespace Go.Proofs.Ytcbeadldieeceaa
open Go.RowKit

set_option maxRecDepth 100000 in
set_option maxHeartbeats 8000000 in
theorem refmake_full (fn tn : BS) (fg tg : Int) (a b : BL) (p : PL) (ft tt : Value) (n1 n2 n3 n4 c1 c2 c3 c4 : Nat) (A1 A2 A3 A4 : Option Addr) (h1 : n1 = a.length) (h2 : n2 = b.length) (h4 : n4 = p.length)
    (hs2 : n2 ≤ 6000000000000) (hs4 : n4 ≤ 5000000000000) (hps : strOk p) (htn : tn.length ≤ 140737488351232) (w : World) (hr1 : Reads w w.heap.size 2 A1 n1 (bcells a)) (hr2 : Reads w w.heap.size 2 A2 n2 (bcells b)) (hr4 : Reads w w.heap.size 2 A4 n4 (pcells p)) :
    Calls Try.prog 8 #[.agg #[.string ⟨fn.toArray⟩, .int .i64 fg, .slice A1 n1 c1, ft, .slice A3 n3 c3], .agg #[.string ⟨tn.toArray⟩, .int .i64 tg, .slice A2 n2 c2, tt, .slice A4 n4 c4], .bool true] w (MakePost w [] b ⟨1, tn, 0, tg, p, 0, 0, [], Sm0⟩ true) := by
  obtain ⟨i0, hi0, hz0, hz1, hz2⟩ := info_parts Try.refB
  obtain ⟨r0, hr0⟩ : ∃ r, r = (⟨1, tn, 0, tg, p, 0, 0, [], Sm0⟩ : Rc) := ⟨_, rfl⟩
  rw [← hr0]
  have HRV : Hid (rcV r0 (.slice A4 n4 c4) = .agg #[.int .i64 1, .string ⟨tn.toArray⟩, .int .i64 0, .int .i64 tg, .slice A4 n4 c4, .int .i64 0, .int .i64 0, .string ⟨#[]⟩, .int .u64 0, .int .u64 0, .int .u64 0, .int .u64 0]) := by show _ = _; rw [hr0]; rfl
  have HRO : Hid (r0.own = p ∧ r0.nm = tn ∧ r0.sm = Sm0) := by show _ ∧ _ ∧ _; rw [hr0]; exact ⟨rfl, rfl, rfl⟩
  have HR1 := Lib.hid hr1
  have HR2 := Lib.hid hr2
  have HR4 := Lib.hid hr4
  have HN1 := Lib.hid h1
  have HN2 := Lib.hid h2
  have HN4 := Lib.hid h4
  have HPS := Lib.hid hps
  have HTN := Lib.hid htn
  obtain ⟨g, hg⟩ : ∃ g, g = w.heap.size := ⟨_, rfl⟩
  have HG := Lib.hid hg
  obtain ⟨W0, hW0⟩ : ∃ W, W = ((w.alloc (.cells #[.string ⟨fn.toArray⟩, .int .i64 fg, .slice A1 n1 c1, ft, .slice A3 n3 c3] 26)).alloc (.cells #[.string ⟨tn.toArray⟩, .int .i64 tg, .slice A2 n2 c2, tt, .slice A4 n4 c4] 26)).alloc (.cells #[.int .i64 1, .string ⟨tn.toArray⟩, .int .i64 0, .int .i64 tg, .slice A4 n4 c4, .int .i64 0, .int .i64 0, .string ⟨#[]⟩, .int .u64 0, .int .u64 0, .int .u64 0, .int .u64 0] 47) := ⟨_, rfl⟩
  have kF : Blk W0 g 26 #[.string ⟨fn.toArray⟩, .int .i64 fg, .slice A1 n1 c1, ft, .slice A3 n3 c3] := by rw [hW0, hg]; exact ((Blk.new w _ _).alloc _).alloc _
  have kT : Blk W0 (g + 1) 26 #[.string ⟨tn.toArray⟩, .int .i64 tg, .slice A2 n2 c2, tt, .slice A4 n4 c4] := by
    rw [hW0, hg]
    have := Blk.new (w.alloc (.cells #[.string ⟨fn.toArray⟩, .int .i64 fg, .slice A1 n1 c1, ft, .slice A3 n3 c3] 26)) 26 #[.string ⟨tn.toArray⟩, .int .i64 tg, .slice A2 n2 c2, tt, .slice A4 n4 c4]
    simp at this
    exact this.alloc _
  have kR : Blk W0 (g + 1 + 1) 47 #[.int .i64 1, .string ⟨tn.toArray⟩, .int .i64 0, .int .i64 tg, .slice A4 n4 c4, .int .i64 0, .int .i64 0, .string ⟨#[]⟩, .int .u64 0, .int .u64 0, .int .u64 0, .int .u64 0] := by
    rw [hW0, hg]
    have := Blk.new ((w.alloc (.cells #[.string ⟨fn.toArray⟩, .int .i64 fg, .slice A1 n1 c1, ft, .slice A3 n3 c3] 26)).alloc (.cells #[.string ⟨tn.toArray⟩, .int .i64 tg, .slice A2 n2 c2, tt, .slice A4 n4 c4] 26)) 47 #[.int .i64 1, .string ⟨tn.toArray⟩, .int .i64 0, .int .i64 tg, .slice A4 n4 c4, .int .i64 0, .int .i64 0, .string ⟨#[]⟩, .int .u64 0, .int .u64 0, .int .u64 0, .int .u64 0]
    simp at this
    exact this
  have hb0 : Below w.heap.size w W0 := by rw [hW0]; exact (((Below.refl _ _).alloc (Nat.le_refl _) _).alloc (by simp) _).alloc (by simp; omega) _
  have HKF := Lib.hid kF
  have HKT := Lib.hid kT
  have HKR := Lib.hid kR
  have HB := Lib.hid hb0
  clear kF kT kR hb0 hr0 hr1 hr2 hr4 h1 h2 h4 hps htn
  go_enter Try.func8, Try.ntmps8
  go_upto_region 6 with (fail)
  rw [← hg, ← hW0]
  clear hW0 hg
  obtain ⟨f0, f1, f2, f3, f4⟩ := blk5 HKF.out
  obtain ⟨t0, t1, t2, t3, t4⟩ := blk5 HKT.out
  go_wp2_with fail
  clear f0 f1 f2 f3 f4 t0 t1 t2 t3 t4
  refine (rdiff_any [] b 0 n2 rfl HN2.out none A2 0 c2 W0 Reads.none_ ((HR2.out.below HB.out).more HB.out.size) (by omega) hs2).mono ?_
  rintro e w2 ⟨v, rfl, hown, hb2⟩
  replace HKF := Lib.hid (HKF.out.below hb2 HKF.out.lt)
  replace HKT := Lib.hid (HKT.out.below hb2 HKT.out.lt)
  replace HKR := Lib.hid (HKR.out.below hb2 HKR.out.lt)
  replace HB := Lib.hid (HB.out.trans (hb2.mono HB.out.size))
  have HO := Lib.hid hown
  clear hown hb2
  obtain ⟨E, hE⟩ : ∃ E, E = diffE [] b := ⟨_, rfl⟩
  rw [← hE]
  have HE := Lib.hid hE
  clear hE
  by_cases hE0 : E ≠ 0
  · have hE1 : (E != 0) = true := by simpa using hE0
    have hme : makeE [] b r0 true = E := by unfold makeE; rw [if_pos (by rw [← HE.out]; exact hE0), ← HE.out]
    have HME := Lib.hid hme
    have HE0 := Lib.hid hE0
    clear hE0 hme
    go_wp2_with fail
    go_ret2
    exact ⟨.slice none 0 0, by rw [HME.out]; rfl, by rw [HME.out, if_neg HE0.out], HB.out⟩
  obtain rfl : E = 0 := by omega
  clear hE0
  obtain ⟨A5, c5, rfl, hc5, _, hr5⟩ := own_form HO.out
  obtain ⟨o, ho⟩ : ∃ o, o = diffO [] b := ⟨_, rfl⟩
  have HOK : Hid (∀ r ∈ o, recE (rcOf r) = 0) := by show ∀ r ∈ o, _; rw [ho]; exact diffO_ok _ _
  have HOL : Hid (o.length ≤ 1024) := by show _ ≤ _; rw [ho]; exact diffO_len _ _
  have HRL : Hid (recsL [] b r0 = r0 :: o.map rcOf) := by show _ = _; rw [ho]; rfl
  rw [← ho] at hr5 ⊢
  obtain ⟨n5, hn5⟩ : ∃ n, n = o.length := ⟨_, rfl⟩
  rw [← hn5] at hr5 ⊢
  have HN5 := Lib.hid hn5
  obtain ⟨q, hq⟩ : ∃ q, q = w2.heap.size := ⟨_, rfl⟩
  rw [← hq] at hr5
  have HR5 := Lib.hid hr5
  have HQ := Lib.hid hq
  have hpe := penc_any r0 n4 (by rw [HRO.out.1]; exact HN4.out) A4 c4 w2 w.heap.size HB.out.size (by rw [HRO.out.1]; exact HR4.out.below HB.out) hs4 (by rw [HRO.out.1]; exact HPS.out) (by rw [HRO.out.2.1]; exact HTN.out) (by rw [HRO.out.2.2]; exact ⟨by decide, by decide, by decide, by decide⟩)
  rw [HRV.out] at hpe
  unfold EncPost at hpe
  rw [← hq] at hpe
  have HPE := Lib.hid hpe
  clear hpe hr5 hq hn5 ho HO
  obtain ⟨a0, a1, a2, a3, a4, a5, a6, a7, a8, a9, a10, a11⟩ := blk12 HKR.out
  go_wp2_with fail
  refine HPE.out.mono ?_
  clear HPE a0 a1 a2 a3 a4 a5 a6 a7 a8 a9 a10 a11
  rintro e w6 ⟨v, rfl, hv, hb6⟩
  have HKF6 := Lib.hid (HKF.out.below hb6 (by have := HKF.out.lt; have := HQ.out; omega))
  have HKT6 := Lib.hid (HKT.out.below hb6 (by have := HKT.out.lt; have := HQ.out; omega))
  have HB6 := Lib.hid (HB.out.trans (hb6.mono (by have := HB.out.size; have := HQ.out; omega)))
  have HR56 := Lib.hid (HR5.out.below hb6)
  have hq6 : q ≤ w6.heap.size := by have := HQ.out; have := hb6.size; omega
  have hgq : g + 1 + 1 < q := by have := HKR.out.lt; have := HQ.out; omega
  have hwq : w.heap.size ≤ q := by have := HG.out; omega
  clear hb6
  by_cases hrE : recE r0 ≠ 0
  · have hme : makeE [] b r0 true = recE r0 := by unfold makeE; rw [if_neg (by rw [← HE.out]; simp), if_pos hrE]
    rw [if_neg hrE] at hv
    subst hv
    obtain ⟨E9, hE9⟩ : ∃ x, x = recE r0 := ⟨_, rfl⟩
    rw [← hE9] at hme hrE ⊢
    have hne : (E9 != 0) = true := by simpa using hrE
    have HME := Lib.hid hme
    have HRN := Lib.hid hrE
    clear hme hrE hE9
    go_wp2_with fail
    go_ret2
    exact ⟨.slice none 0 0, by rw [HME.out]; rfl, by rw [HME.out, if_neg HRN.out], HB6.out⟩
  have hr00 : recE r0 = 0 := by simpa using hrE
  have HR00 := Lib.hid hr00
  rw [if_pos hr00] at hv
  rw [hr00]
  obtain ⟨b0, hb0⟩ : ∃ x, x = encL r0 := ⟨_, rfl⟩
  rw [← hb0] at hv
  obtain ⟨m0, hm0⟩ : ∃ x, x = b0.length := ⟨_, rfl⟩
  rw [← hm0] at hv
  have hml : m0 ≤ 703 := by rw [hm0, hb0]; exact (encL_len r0 hr00).1
  have HV := Lib.hid hv
  have HM0 := Lib.hid hm0
  have HBB := Lib.hid hb0
  clear hrE hr00 hv hb0 hm0
  obtain ⟨f0, f1, f2, f3, f4⟩ := blk5 HKF6.out
  obtain ⟨t0, t1, t2, t3, t4⟩ := blk5 HKT6.out
  obtain ⟨A6, c6, rfl, hc6, _, hr6⟩ := own_form HV.out
  have HFE := Lib.hid (rfeed_n Sm0 b0 m0 HM0.out A6 c6 w6 w6.heap.size hr6 (Nat.le_refl _) (by omega))
  clear hr6
  go_wp2_with fail
  refine HFE.out.mono ?_
  clear HFE f0 f1 f2 f3 f4 t0 t1 t2 t3 t4
  rintro e w7 ⟨rfl, hb7⟩
  obtain ⟨gS, hgS⟩ : ∃ x, x = w7.heap.size := ⟨_, rfl⟩
  obtain ⟨s7, hs7⟩ : ∃ s, s = feedL Sm0 (words b0) := ⟨_, rfl⟩
  rw [← hs7]
  obtain ⟨W8, hW8⟩ : ∃ W, W = w7.alloc (.cells #[.int .u64 s7.a, .int .u64 s7.b, .int .u64 s7.c, .int .u64 s7.d] 42) := ⟨_, rfl⟩
  have k8 : Blk W8 gS 42 #[.int .u64 s7.a, .int .u64 s7.b, .int .u64 s7.c, .int .u64 s7.d] := by rw [hW8, hgS]; exact Blk.new _ _ _
  have hb8 : Below w6.heap.size w6 W8 := by rw [hW8]; exact hb7.alloc hb7.size _
  have HI : Hid (RfI w q gS W8 W8 (r0 :: (o.take 0).map rcOf) (.slice A6 m0 c6) s7) := by
    refine ⟨HB6.out.trans (hb8.mono HB6.out.size), Below.refl _ _, k8, ?_, ?_, Nat.le_trans hq6 hb8.size⟩
    · have : encAll (r0 :: (o.take 0).map rcOf) = b0 := by rw [HBB.out]; simp [encAll]
      rw [this, ← HM0.out]
      exact own_below HV.out hb8
    · rw [hs7, HBB.out]; rfl
  have HGQ : Hid (q ≤ gS) := by show _ ≤ _; rw [hgS]; exact Nat.le_trans hq6 hb7.size
  have HR58 := Lib.hid (HR56.out.below (hb8.mono hq6))
  have HSE : Hid (∀ k, sumE (r0 :: (o.take k).map rcOf) = 0) := by
    intro k
    refine (sumE_all _).2 (fun y hy => ?_)
    rcases List.mem_cons.1 hy with rfl | hy
    · exact HR00.out
    · obtain ⟨z, hz, rfl⟩ := List.mem_map.1 hy
      exact HOK.out z (List.mem_of_mem_take hz)
  have hn5b : n5 ≤ 1024 := by have := HOL.out; have := HN5.out; omega
  clear hs7 k8 hb8
  go_upto_region 15 with (fail)
  rw [← hgS, ← hW8]
  clear hgS hW8 hb7
  go_wp2_with fail
  go_loopw [12, 14] (fun u i wr => ∃ (k : Nat) (s : Sm), k ≤ n5 ∧ i = .int .i64 (k : Int) ∧ Hid (RfI w q gS W8 wr (r0 :: (o.take k).map rcOf) u s)) (fun _ i _ => n5 - (intOf i).toNat)
  case atStart => exact ⟨0, s7, Nat.zero_le _, rfl, HI.out⟩
  case round =>
    clear HI
    obtain ⟨k, s, hk, rfl, HI⟩ := hrel
    obtain ⟨Au, cu, hu, _, _, _⟩ := own_form HI.out.out
    subst hu
    obtain ⟨L, hL⟩ : ∃ x, x = encAll (r0 :: (o.take k).map rcOf) := ⟨_, rfl⟩
    obtain ⟨mL, hmL⟩ : ∃ x, x = L.length := ⟨_, rfl⟩
    have hlen : mL ≤ 703 * 1025 := by
      have h2 := encAll_len _ (HSE.out k)
      rw [← hL, ← hmL, List.length_cons, List.length_map, List.length_take] at h2
      have h3 := HOL.out
      have : min k o.length ≤ 1024 := by omega
      omega
    have hou := HI.out.out
    rw [← hL, ← hmL] at hou
    have HOU := Lib.hid hou
    have HLL := Lib.hid hL
    have HML := Lib.hid hmL
    rw [← hL, ← hmL]
    clear hou hL hmL
    have hgs := HI.out.sum.lt
    by_cases hlt5 : k < n5
    · obtain ⟨ad, rfl, hadB, hel⟩ := Reads.elAll (enc := encR) (k := 12) encR_len (HR58.out.below HI.out.belq) HN5.out hlt5
      have hkl : k < o.length := by have := HN5.out; omega
      have HTK : Hid ((o.take (k + 1)).map rcOf = (o.take k).map rcOf ++ [rcOf (o[k]'hkl)]) := by show _ = _; rw [List.take_add_one, List.getElem?_eq_getElem hkl, List.map_append]; rfl
      have HX := Lib.hid (HOK.out _ (List.getElem_mem hkl))
      have hki : (k : Int) < (n5 : Int) := by omega
      obtain ⟨x, hx⟩ : ∃ x, x = o[k]'hkl := ⟨_, rfl⟩
      rw [← hx] at hel HTK HX
      clear hx
      obtain ⟨cs, hcs⟩ : ∃ cs, cs = encR x := ⟨_, rfl⟩
      have hcl : cs.length = 12 := by rw [hcs]; rfl
      have HCA : Hid (Value.agg cs.toArray = rcV (rcOf x) (.slice none 0 0)) := by show _ = _; rw [hcs]; rfl
      rw [← hcs] at hel
      clear hcs
      have HEL := Lib.hid hel
      have hpe := penc_any (rcOf x) 0 rfl none 0 wr 0 (Nat.zero_le _) Reads.none_ (by omega) (by intro y hy; cases hy) (by simp [rcOf]) (show Sm0.ok from ⟨by decide, by decide, by decide, by decide⟩)
      unfold EncPost at hpe
      rw [HX.out] at hpe
      have HPE := Lib.hid hpe
      clear hel hadB hpe
      go_wp2_with (refine wpList_load_at rfl 47 (.tmp 71) rfl (ad.add (k * 12)) rfl cs _ HEL.out Try.underlying47 rfl (by rw [hcl]; kernel_rfl) ?_)
      clear HEL hcl
      rw [HCA.out]
      refine HPE.out.mono ?_
      clear HPE
      rintro e w9 ⟨v, rfl, hv, hb9⟩
      simp only [↓reduceIte] at hv
      obtain ⟨bk, hbk⟩ : ∃ z, z = encL (rcOf x) := ⟨_, rfl⟩
      rw [← hbk] at hv
      obtain ⟨mk, hmk⟩ : ∃ z, z = bk.length := ⟨_, rfl⟩
      rw [← hmk] at hv
      have hmkl : mk ≤ 703 := by rw [hmk, hbk]; exact (encL_len _ HX.out).1
      obtain ⟨Ab, cb, rfl, _, _, hrb⟩ := own_form hv
      have HBK := Lib.hid hbk
      have HMK := Lib.hid hmk
      have HVK := Lib.hid hv
      have HRB := Lib.hid hrb
      have HOU9 := Lib.hid (own_below HOU.out hb9)
      have HS9 := Lib.hid (HI.out.sum.below hb9 HI.out.sum.lt)
      have HBQ9 := Lib.hid (HI.out.belq.trans (hb9.mono HI.out.qs))
      have hq9 : q ≤ w9.heap.size := Nat.le_trans HI.out.qs hb9.size
      have hw9 : wr.heap.size ≤ w9.heap.size := hb9.size
      have HLT : Hid (∀ z, (Value.slice Au mL cu).ownBlock = some z → z < wr.heap.size) := fun z hz => (HOU.out.lt z hz).2
      obtain ⟨lo, hlo⟩ : ∃ z, z = wr.heap.size := ⟨_, rfl⟩
      rw [← hlo] at HVK HLT hw9
      clear hbk hmk hv hrb hb9 hlo
      go_wp2_with (at_builtin; (refine wpList_append_any _ rfl (.tmp 76) (.tmp 77) 27 rfl q 5 i0 _ 1 1 Try.underlying27 hi0 hz0 hz1 hz2 rfl (by omega) (.slice Au mL cu) mL (bts L) rfl HOU9.out w9.heap.size Ab mk cb (bts bk) rfl HRB.out (bts_one _) (by unfold maxLen; omega) (by omega) hq9 ?_); intro v4 w4 hown4 hg4 _; (obtain ⟨A4', c4', rfl, _, _, _⟩ := own_form hown4); (have hne : some gS ≠ (Value.slice Au mL cu).ownBlock := (fun e => own_blk_ne HOU9.out HS9.out (by decide) e.symm)); (have HS4 := Lib.hid (HS9.out.grown hg4 hne)); (have HBQ4 := Lib.hid (HBQ9.out.grown hg4 hq9 (fun z hz => by have := (HOU9.out.lt z hz).1; omega))); (have HO4 := Lib.hid hown4); (have HVK4 := Lib.hid (own_apart2 HVK.out HLT.out (Nat.le_refl _) hg4)); (have hq4 : q ≤ w4.heap.size := Nat.le_trans hq9 hg4.size); clear hown4 hg4 hne; obtain ⟨p0, p1, p2, p3, _⟩ := blk4 HS4.out)
      have HFE := Lib.hid (rfeed_n s bk mk HMK.out Ab cb w4 w4.heap.size (Reads.of_own HVK4.out) (Nat.le_refl _) (by omega))
      refine HFE.out.mono ?_
      clear HFE p0 p1 p2 p3
      rintro e w5 ⟨rfl, hb5⟩
      obtain ⟨s5, hs5⟩ : ∃ z, z = feedL s (words bk) := ⟨_, rfl⟩
      rw [← hs5]
      have HS5 := Lib.hid (HS4.out.below hb5 HS4.out.lt)
      have HO5 := Lib.hid (own_below HO4.out hb5)
      have HBQ5 := Lib.hid (HBQ4.out.trans (hb5.mono hq4))
      have hq5 : q ≤ w5.heap.size := Nat.le_trans hq4 hb5.size
      have HS5E := Lib.hid hs5
      clear hb5 hs5 HS4 HO4 HBQ4 HVK4 HVK HRB HOU9 HS9 HBQ9
      obtain ⟨p0, p1, p2, p3, y0, y1, y2, y3⟩ := blk4 HS5.out
      have hgSq : q ≤ gS := HGQ.out
      have kE := (((HS5.out.set_ 0 (.int .u64 s5.a)).set_ 1 (.int .u64 s5.b)).set_ 2 (.int .u64 s5.c)).set_ 3 (.int .u64 s5.d)
      have bE := (((HBQ5.out.setCell (p := ⟨gS, 0, none⟩) hgSq (.int .u64 s5.a)).setCell (p := ⟨gS, 1, none⟩) hgSq (.int .u64 s5.b)).setCell (p := ⟨gS, 2, none⟩) hgSq (.int .u64 s5.c)).setCell (p := ⟨gS, 3, none⟩) hgSq (.int .u64 s5.d)
      have oE := own_setOther (own_setOther (own_setOther (own_setOther HO5.out HS5.out (by decide) 0 (.int .u64 s5.a)) (HS5.out.set_ 0 (.int .u64 s5.a)) (by decide) 1 (.int .u64 s5.b)) ((HS5.out.set_ 0 (.int .u64 s5.a)).set_ 1 (.int .u64 s5.b)) (by decide) 2 (.int .u64 s5.c)) (((HS5.out.set_ 0 (.int .u64 s5.a)).set_ 1 (.int .u64 s5.b)).set_ 2 (.int .u64 s5.c)) (by decide) 3 (.int .u64 s5.d)
      have HH := Lib.hid (show _ ∧ _ ∧ _ from ⟨kE, bE, oE⟩)
      clear kE bE oE
      go_wp2_with fail
      go_roundw
      case rel =>
        refine ⟨k + 1, s5, by omega, by go_num, ⟨HI.out.bel, HH.out.2.1, HH.out.1, ?_, ?_, by simpa using hq5⟩⟩
        · rw [HTK.out, ← List.cons_append, encAll_snoc, ← HLL.out, ← HBK.out, List.length_append, ← HML.out, ← HMK.out, bts_append]
          exact HH.out.2.2
        · rw [HTK.out, ← List.cons_append, sumS_snoc, ← HI.out.val, ← HBK.out, HS5E.out]
      case measure => simp [intOf]; omega
    · obtain rfl : k = n5 := by omega
      have htl : r0 :: (o.take k).map rcOf = recsL [] b r0 := by rw [HRL.out, HN5.out, List.take_length]
      have hval := HI.out.val
      rw [htl] at hval
      have hLL := HLL.out
      rw [htl] at hLL
      have hsok : s.ok := by rw [hval]; exact sumS_ok _ _ ⟨by decide, by decide, by decide, by decide⟩
      have hpe := penc_any (rcEnd s) 0 rfl none 0 wr 0 (Nat.zero_le _) Reads.none_ (by omega) (by intro y hy; cases hy) (by simp [rcEnd]) hsok
      unfold EncPost at hpe
      rw [recE_end] at hpe
      have HPE := Lib.hid hpe
      have HMS : Hid (makeS [] b r0 = L ++ encL (rcEnd s)) := by show _ = _; unfold makeS; rw [← hval, ← hLL]
      obtain ⟨p0, p1, p2, p3, _⟩ := blk4 HI.out.sum
      have HIB : Hid (Below w.heap.size w wr) := HI.out.bel.trans (HI.out.belq.mono hwq)
      have hqs := HI.out.qs
      clear hpe htl hval hLL hsok HI HR58 HLL
      go_wp2_with fail
      refine HPE.out.mono ?_
      clear HPE p0 p1 p2 p3
      rintro e w9 ⟨v, rfl, hv, hb9⟩
      simp only [↓reduceIte] at hv
      obtain ⟨bk, hbk⟩ : ∃ z, z = encL (rcEnd s) := ⟨_, rfl⟩
      obtain ⟨mk, hmk⟩ : ∃ z, z = bk.length := ⟨_, rfl⟩
      rw [← hbk, ← hmk] at hv
      have hmkl : mk ≤ 703 := by rw [hmk, hbk]; exact (encL_len _ (recE_end s)).1
      obtain ⟨Ab, cb, rfl, _, _, hrb⟩ := own_form hv
      have HRB := Lib.hid hrb
      have HOU9 := Lib.hid (own_below HOU.out hb9)
      have hq9 : q ≤ w9.heap.size := Nat.le_trans hqs hb9.size
      have HB9 := Lib.hid (HIB.out.trans (hb9.mono HIB.out.size))
      have HSZ : Hid (makeS [] b r0 = L ++ bk ∧ (makeS [] b r0).length = mL + mk) := by
        refine ⟨by rw [hbk]; exact HMS.out, ?_⟩
        rw [HMS.out, List.length_append, ← hbk, ← hmk, HML.out]
      clear hbk hmk hv hrb hb9 HMS
      go_upto_region 23 with (at_builtin; (refine wpList_append_any _ rfl (.tmp 88) (.tmp 89) 27 rfl q 5 i0 _ 1 1 Try.underlying27 hi0 hz0 hz1 hz2 rfl (by omega) (.slice Au mL cu) mL (bts L) rfl HOU9.out w9.heap.size Ab mk cb (bts bk) rfl HRB.out (bts_one _) (by unfold maxLen; omega) (by omega) hq9 ?_); intro v4 w4 hown4 hg4 _; (obtain ⟨A4', c4', rfl, _, _, _⟩ := own_form hown4); (have HB4 := Lib.hid (HB9.out.grown hg4 HB9.out.size (fun z hz => by have := (HOU9.out.lt z hz).1; omega))); (have HO4 := Lib.hid hown4); clear hown4 hg4)
      obtain ⟨Z, hZ⟩ : ∃ z, z = mL + mk := ⟨_, rfl⟩
      rw [← hZ] at HO4 HSZ ⊢
      clear hZ HOU9 HRB
      by_cases hle : 32768 < Z
      · have hle2 : (32768 : Int) < (Z : Int) := by omega
        have hme : makeE [] b r0 true = 5 := by unfold makeE; rw [if_neg (by rw [← HE.out]; simp), if_neg (by rw [HR00.out]; simp), if_neg (by simp), if_pos (by rw [HSZ.out.2]; exact hle)]
        have HME := Lib.hid hme
        clear hme hle
        go_wp2_with fail
        go_ret2
        exact ⟨.slice none 0 0, by rw [HME.out]; rfl, by rw [HME.out, if_neg (by decide)], HB4.out⟩
      · have hle2 : ¬ (32768 : Int) < (Z : Int) := by omega
        have hme : makeE [] b r0 true = 0 := by unfold makeE; rw [if_neg (by rw [← HE.out]; simp), if_neg (by rw [HR00.out]; simp), if_neg (by simp), if_neg (by rw [HSZ.out.2]; exact hle)]
        have HME := Lib.hid hme
        have HME2 := HME
        clear hme hle
        go_wp2_with fail
        go_ret2
        refine ⟨.slice A4' Z c4', by first | (rw [HME.out]; rfl) | (rw [HME2.out]; rfl), ?_, HB4.out⟩
        first | rw [HME.out, if_pos rfl, HSZ.out.2, HSZ.out.1, bts_append] | rw [HME2.out, if_pos rfl, HSZ.out.2, HSZ.out.1, bts_append]
        exact own_mono HO4.out hwq
set_option maxRecDepth 100000 in
set_option maxHeartbeats 8000000 in
theorem refmake_from (fn tn : BS) (fg tg : Int) (a b : BL) (p : PL) (ft tt : Value) (n1 n2 n3 n4 c1 c2 c3 c4 : Nat) (A1 A2 A3 A4 : Option Addr) (h1 : n1 = a.length) (h2 : n2 = b.length) (h4 : n4 = p.length)
    (hs1 : n1 ≤ 6000000000000) (hs2 : n2 ≤ 6000000000000) (hs4 : n4 ≤ 5000000000000) (hps : strOk p) (htn : tn.length ≤ 140737488351232) (w : World) (hr1 : Reads w w.heap.size 2 A1 n1 (bcells a)) (hr2 : Reads w w.heap.size 2 A2 n2 (bcells b)) (hr4 : Reads w w.heap.size 2 A4 n4 (pcells p)) :
    Calls Try.prog 8 #[.agg #[.string ⟨fn.toArray⟩, .int .i64 fg, .slice A1 n1 c1, ft, .slice A3 n3 c3], .agg #[.string ⟨tn.toArray⟩, .int .i64 tg, .slice A2 n2 c2, tt, .slice A4 n4 c4], .bool false] w (MakePost w a b ⟨1, tn, fg, tg, p, 0, 0, [], Sm0⟩ (decide (fg < tg))) := by
  obtain ⟨i0, hi0, hz0, hz1, hz2⟩ := info_parts Try.refB
  obtain ⟨r0, hr0⟩ : ∃ r, r = (⟨1, tn, fg, tg, p, 0, 0, [], Sm0⟩ : Rc) := ⟨_, rfl⟩
  rw [← hr0]
  have HRV : Hid (rcV r0 (.slice A4 n4 c4) = .agg #[.int .i64 1, .string ⟨tn.toArray⟩, .int .i64 fg, .int .i64 tg, .slice A4 n4 c4, .int .i64 0, .int .i64 0, .string ⟨#[]⟩, .int .u64 0, .int .u64 0, .int .u64 0, .int .u64 0]) := by show _ = _; rw [hr0]; rfl
  have HRO : Hid (r0.own = p ∧ r0.nm = tn ∧ r0.sm = Sm0) := by show _ ∧ _ ∧ _; rw [hr0]; exact ⟨rfl, rfl, rfl⟩
  have HR1 := Lib.hid hr1
  have HR2 := Lib.hid hr2
  have HR4 := Lib.hid hr4
  have HN1 := Lib.hid h1
  have HN2 := Lib.hid h2
  have HN4 := Lib.hid h4
  have HPS := Lib.hid hps
  have HTN := Lib.hid htn
  obtain ⟨g, hg⟩ : ∃ g, g = w.heap.size := ⟨_, rfl⟩
  have HG := Lib.hid hg
  obtain ⟨W0, hW0⟩ : ∃ W, W = ((w.alloc (.cells #[.string ⟨fn.toArray⟩, .int .i64 fg, .slice A1 n1 c1, ft, .slice A3 n3 c3] 26)).alloc (.cells #[.string ⟨tn.toArray⟩, .int .i64 tg, .slice A2 n2 c2, tt, .slice A4 n4 c4] 26)).alloc (.cells #[.int .i64 1, .string ⟨tn.toArray⟩, .int .i64 fg, .int .i64 tg, .slice A4 n4 c4, .int .i64 0, .int .i64 0, .string ⟨#[]⟩, .int .u64 0, .int .u64 0, .int .u64 0, .int .u64 0] 47) := ⟨_, rfl⟩
  have kF : Blk W0 g 26 #[.string ⟨fn.toArray⟩, .int .i64 fg, .slice A1 n1 c1, ft, .slice A3 n3 c3] := by rw [hW0, hg]; exact ((Blk.new w _ _).alloc _).alloc _
  have kT : Blk W0 (g + 1) 26 #[.string ⟨tn.toArray⟩, .int .i64 tg, .slice A2 n2 c2, tt, .slice A4 n4 c4] := by
    rw [hW0, hg]
    have := Blk.new (w.alloc (.cells #[.string ⟨fn.toArray⟩, .int .i64 fg, .slice A1 n1 c1, ft, .slice A3 n3 c3] 26)) 26 #[.string ⟨tn.toArray⟩, .int .i64 tg, .slice A2 n2 c2, tt, .slice A4 n4 c4]
    simp at this
    exact this.alloc _
  have kR : Blk W0 (g + 1 + 1) 47 #[.int .i64 1, .string ⟨tn.toArray⟩, .int .i64 fg, .int .i64 tg, .slice A4 n4 c4, .int .i64 0, .int .i64 0, .string ⟨#[]⟩, .int .u64 0, .int .u64 0, .int .u64 0, .int .u64 0] := by
    rw [hW0, hg]
    have := Blk.new ((w.alloc (.cells #[.string ⟨fn.toArray⟩, .int .i64 fg, .slice A1 n1 c1, ft, .slice A3 n3 c3] 26)).alloc (.cells #[.string ⟨tn.toArray⟩, .int .i64 tg, .slice A2 n2 c2, tt, .slice A4 n4 c4] 26)) 47 #[.int .i64 1, .string ⟨tn.toArray⟩, .int .i64 fg, .int .i64 tg, .slice A4 n4 c4, .int .i64 0, .int .i64 0, .string ⟨#[]⟩, .int .u64 0, .int .u64 0, .int .u64 0, .int .u64 0]
    simp at this
    exact this
  have hb0 : Below w.heap.size w W0 := by rw [hW0]; exact (((Below.refl _ _).alloc (Nat.le_refl _) _).alloc (by simp) _).alloc (by simp; omega) _
  have HKF := Lib.hid kF
  have HKT := Lib.hid kT
  have HKR := Lib.hid kR
  have HB := Lib.hid hb0
  clear kF kT kR hb0 hr0 hr1 hr2 hr4 h1 h2 h4 hps htn
  go_enter Try.func8, Try.ntmps8
  go_upto_region 6 with (fail)
  rw [← hg, ← hW0]
  clear hW0 hg
  obtain ⟨f0, f1, f2, f3, f4⟩ := blk5 HKF.out
  obtain ⟨t0, t1, t2, t3, t4⟩ := blk5 HKT.out
  go_wp2_with fail
  clear f0 f1 f2 f3 f4 t0 t1 t2 t3 t4
  refine (rdiff_any a b n1 n2 HN1.out HN2.out A1 A2 c1 c2 W0 ((HR1.out.below HB.out).more HB.out.size) ((HR2.out.below HB.out).more HB.out.size) hs1 hs2).mono ?_
  rintro e w2 ⟨v, rfl, hown, hb2⟩
  replace HKF := Lib.hid (HKF.out.below hb2 HKF.out.lt)
  replace HKT := Lib.hid (HKT.out.below hb2 HKT.out.lt)
  replace HKR := Lib.hid (HKR.out.below hb2 HKR.out.lt)
  replace HB := Lib.hid (HB.out.trans (hb2.mono HB.out.size))
  have HO := Lib.hid hown
  clear hown hb2
  obtain ⟨E, hE⟩ : ∃ E, E = diffE a b := ⟨_, rfl⟩
  rw [← hE]
  have HE := Lib.hid hE
  clear hE
  by_cases hE0 : E ≠ 0
  · have hE1 : (E != 0) = true := by simpa using hE0
    have hme : makeE a b r0 (decide (fg < tg)) = E := by unfold makeE; rw [if_pos (by rw [← HE.out]; exact hE0), ← HE.out]
    have HME := Lib.hid hme
    have HE0 := Lib.hid hE0
    clear hE0 hme
    go_wp2_with fail
    go_ret2
    exact ⟨.slice none 0 0, by rw [HME.out]; rfl, by rw [HME.out, if_neg HE0.out], HB.out⟩
  obtain rfl : E = 0 := by omega
  clear hE0
  obtain ⟨A5, c5, rfl, hc5, _, hr5⟩ := own_form HO.out
  obtain ⟨o, ho⟩ : ∃ o, o = diffO a b := ⟨_, rfl⟩
  have HOK : Hid (∀ r ∈ o, recE (rcOf r) = 0) := by show ∀ r ∈ o, _; rw [ho]; exact diffO_ok _ _
  have HOL : Hid (o.length ≤ 1024) := by show _ ≤ _; rw [ho]; exact diffO_len _ _
  have HRL : Hid (recsL a b r0 = r0 :: o.map rcOf) := by show _ = _; rw [ho]; rfl
  rw [← ho] at hr5 ⊢
  obtain ⟨n5, hn5⟩ : ∃ n, n = o.length := ⟨_, rfl⟩
  rw [← hn5] at hr5 ⊢
  have HN5 := Lib.hid hn5
  obtain ⟨q, hq⟩ : ∃ q, q = w2.heap.size := ⟨_, rfl⟩
  rw [← hq] at hr5
  have HR5 := Lib.hid hr5
  have HQ := Lib.hid hq
  have hpe := penc_any r0 n4 (by rw [HRO.out.1]; exact HN4.out) A4 c4 w2 w.heap.size HB.out.size (by rw [HRO.out.1]; exact HR4.out.below HB.out) hs4 (by rw [HRO.out.1]; exact HPS.out) (by rw [HRO.out.2.1]; exact HTN.out) (by rw [HRO.out.2.2]; exact ⟨by decide, by decide, by decide, by decide⟩)
  rw [HRV.out] at hpe
  unfold EncPost at hpe
  rw [← hq] at hpe
  have HPE := Lib.hid hpe
  clear hpe hr5 hq hn5 ho HO
  obtain ⟨a0, a1, a2, a3, a4, a5, a6, a7, a8, a9, a10, a11⟩ := blk12 HKR.out
  go_wp2_with fail
  refine HPE.out.mono ?_
  clear HPE a0 a1 a2 a3 a4 a5 a6 a7 a8 a9 a10 a11
  rintro e w6 ⟨v, rfl, hv, hb6⟩
  have HKF6 := Lib.hid (HKF.out.below hb6 (by have := HKF.out.lt; have := HQ.out; omega))
  have HKT6 := Lib.hid (HKT.out.below hb6 (by have := HKT.out.lt; have := HQ.out; omega))
  have HB6 := Lib.hid (HB.out.trans (hb6.mono (by have := HB.out.size; have := HQ.out; omega)))
  have HR56 := Lib.hid (HR5.out.below hb6)
  have hq6 : q ≤ w6.heap.size := by have := HQ.out; have := hb6.size; omega
  have hgq : g + 1 + 1 < q := by have := HKR.out.lt; have := HQ.out; omega
  have hwq : w.heap.size ≤ q := by have := HG.out; omega
  clear hb6
  by_cases hrE : recE r0 ≠ 0
  · have hme : makeE a b r0 (decide (fg < tg)) = recE r0 := by unfold makeE; rw [if_neg (by rw [← HE.out]; simp), if_pos hrE]
    rw [if_neg hrE] at hv
    subst hv
    obtain ⟨E9, hE9⟩ : ∃ x, x = recE r0 := ⟨_, rfl⟩
    rw [← hE9] at hme hrE ⊢
    have hne : (E9 != 0) = true := by simpa using hrE
    have HME := Lib.hid hme
    have HRN := Lib.hid hrE
    clear hme hrE hE9
    go_wp2_with fail
    go_ret2
    exact ⟨.slice none 0 0, by rw [HME.out]; rfl, by rw [HME.out, if_neg HRN.out], HB6.out⟩
  have hr00 : recE r0 = 0 := by simpa using hrE
  have HR00 := Lib.hid hr00
  rw [if_pos hr00] at hv
  rw [hr00]
  obtain ⟨b0, hb0⟩ : ∃ x, x = encL r0 := ⟨_, rfl⟩
  rw [← hb0] at hv
  obtain ⟨m0, hm0⟩ : ∃ x, x = b0.length := ⟨_, rfl⟩
  rw [← hm0] at hv
  have hml : m0 ≤ 703 := by rw [hm0, hb0]; exact (encL_len r0 hr00).1
  have HV := Lib.hid hv
  have HM0 := Lib.hid hm0
  have HBB := Lib.hid hb0
  clear hrE hr00 hv hb0 hm0
  obtain ⟨f0, f1, f2, f3, f4⟩ := blk5 HKF6.out
  obtain ⟨t0, t1, t2, t3, t4⟩ := blk5 HKT6.out
  by_cases hlt : ¬ fg < tg
  · have hge : tg ≤ fg := by omega
    have hdl : decide (fg < tg) = false := decide_eq_false hlt
    have hme : makeE a b r0 (decide (fg < tg)) = 35 := by unfold makeE; rw [if_neg (by rw [← HE.out]; simp), if_neg (by rw [HR00.out]; simp), if_pos hdl]
    have HME := Lib.hid hme
    clear hme hdl hlt
    go_wp2_with fail
    go_ret2
    exact ⟨.slice none 0 0, by rw [HME.out]; rfl, by rw [HME.out, if_neg (by decide)], HB6.out⟩
  have hge : ¬ tg ≤ fg := by omega
  have hdl : decide (fg < tg) = true := decide_eq_true (Decidable.not_not.1 hlt)
  have HDL := Lib.hid hdl
  clear hdl hlt
  obtain ⟨A6, c6, rfl, hc6, _, hr6⟩ := own_form HV.out
  have HFE := Lib.hid (rfeed_n Sm0 b0 m0 HM0.out A6 c6 w6 w6.heap.size hr6 (Nat.le_refl _) (by omega))
  clear hr6
  go_wp2_with fail
  refine HFE.out.mono ?_
  clear HFE f0 f1 f2 f3 f4 t0 t1 t2 t3 t4
  rintro e w7 ⟨rfl, hb7⟩
  obtain ⟨gS, hgS⟩ : ∃ x, x = w7.heap.size := ⟨_, rfl⟩
  obtain ⟨s7, hs7⟩ : ∃ s, s = feedL Sm0 (words b0) := ⟨_, rfl⟩
  rw [← hs7]
  obtain ⟨W8, hW8⟩ : ∃ W, W = w7.alloc (.cells #[.int .u64 s7.a, .int .u64 s7.b, .int .u64 s7.c, .int .u64 s7.d] 42) := ⟨_, rfl⟩
  have k8 : Blk W8 gS 42 #[.int .u64 s7.a, .int .u64 s7.b, .int .u64 s7.c, .int .u64 s7.d] := by rw [hW8, hgS]; exact Blk.new _ _ _
  have hb8 : Below w6.heap.size w6 W8 := by rw [hW8]; exact hb7.alloc hb7.size _
  have HI : Hid (RfI w q gS W8 W8 (r0 :: (o.take 0).map rcOf) (.slice A6 m0 c6) s7) := by
    refine ⟨HB6.out.trans (hb8.mono HB6.out.size), Below.refl _ _, k8, ?_, ?_, Nat.le_trans hq6 hb8.size⟩
    · have : encAll (r0 :: (o.take 0).map rcOf) = b0 := by rw [HBB.out]; simp [encAll]
      rw [this, ← HM0.out]
      exact own_below HV.out hb8
    · rw [hs7, HBB.out]; rfl
  have HGQ : Hid (q ≤ gS) := by show _ ≤ _; rw [hgS]; exact Nat.le_trans hq6 hb7.size
  have HR58 := Lib.hid (HR56.out.below (hb8.mono hq6))
  have HSE : Hid (∀ k, sumE (r0 :: (o.take k).map rcOf) = 0) := by
    intro k
    refine (sumE_all _).2 (fun y hy => ?_)
    rcases List.mem_cons.1 hy with rfl | hy
    · exact HR00.out
    · obtain ⟨z, hz, rfl⟩ := List.mem_map.1 hy
      exact HOK.out z (List.mem_of_mem_take hz)
  have hn5b : n5 ≤ 1024 := by have := HOL.out; have := HN5.out; omega
  clear hs7 k8 hb8
  go_upto_region 15 with (fail)
  rw [← hgS, ← hW8]
  clear hgS hW8 hb7
  go_wp2_with fail
  go_loopw [12, 14] (fun u i wr => ∃ (k : Nat) (s : Sm), k ≤ n5 ∧ i = .int .i64 (k : Int) ∧ Hid (RfI w q gS W8 wr (r0 :: (o.take k).map rcOf) u s)) (fun _ i _ => n5 - (intOf i).toNat)
  case atStart => exact ⟨0, s7, Nat.zero_le _, rfl, HI.out⟩
  case round =>
    clear HI
    obtain ⟨k, s, hk, rfl, HI⟩ := hrel
    obtain ⟨Au, cu, hu, _, _, _⟩ := own_form HI.out.out
    subst hu
    obtain ⟨L, hL⟩ : ∃ x, x = encAll (r0 :: (o.take k).map rcOf) := ⟨_, rfl⟩
    obtain ⟨mL, hmL⟩ : ∃ x, x = L.length := ⟨_, rfl⟩
    have hlen : mL ≤ 703 * 1025 := by
      have h2 := encAll_len _ (HSE.out k)
      rw [← hL, ← hmL, List.length_cons, List.length_map, List.length_take] at h2
      have h3 := HOL.out
      have : min k o.length ≤ 1024 := by omega
      omega
    have hou := HI.out.out
    rw [← hL, ← hmL] at hou
    have HOU := Lib.hid hou
    have HLL := Lib.hid hL
    have HML := Lib.hid hmL
    rw [← hL, ← hmL]
    clear hou hL hmL
    have hgs := HI.out.sum.lt
    by_cases hlt5 : k < n5
    · obtain ⟨ad, rfl, hadB, hel⟩ := Reads.elAll (enc := encR) (k := 12) encR_len (HR58.out.below HI.out.belq) HN5.out hlt5
      have hkl : k < o.length := by have := HN5.out; omega
      have HTK : Hid ((o.take (k + 1)).map rcOf = (o.take k).map rcOf ++ [rcOf (o[k]'hkl)]) := by show _ = _; rw [List.take_add_one, List.getElem?_eq_getElem hkl, List.map_append]; rfl
      have HX := Lib.hid (HOK.out _ (List.getElem_mem hkl))
      have hki : (k : Int) < (n5 : Int) := by omega
      obtain ⟨x, hx⟩ : ∃ x, x = o[k]'hkl := ⟨_, rfl⟩
      rw [← hx] at hel HTK HX
      clear hx
      obtain ⟨cs, hcs⟩ : ∃ cs, cs = encR x := ⟨_, rfl⟩
      have hcl : cs.length = 12 := by rw [hcs]; rfl
      have HCA : Hid (Value.agg cs.toArray = rcV (rcOf x) (.slice none 0 0)) := by show _ = _; rw [hcs]; rfl
      rw [← hcs] at hel
      clear hcs
      have HEL := Lib.hid hel
      have hpe := penc_any (rcOf x) 0 rfl none 0 wr 0 (Nat.zero_le _) Reads.none_ (by omega) (by intro y hy; cases hy) (by simp [rcOf]) (show Sm0.ok from ⟨by decide, by decide, by decide, by decide⟩)
      unfold EncPost at hpe
      rw [HX.out] at hpe
      have HPE := Lib.hid hpe
      clear hel hadB hpe
      go_wp2_with (refine wpList_load_at rfl 47 (.tmp 71) rfl (ad.add (k * 12)) rfl cs _ HEL.out Try.underlying47 rfl (by rw [hcl]; kernel_rfl) ?_)
      clear HEL hcl
      rw [HCA.out]
      refine HPE.out.mono ?_
      clear HPE
      rintro e w9 ⟨v, rfl, hv, hb9⟩
      simp only [↓reduceIte] at hv
      obtain ⟨bk, hbk⟩ : ∃ z, z = encL (rcOf x) := ⟨_, rfl⟩
      rw [← hbk] at hv
      obtain ⟨mk, hmk⟩ : ∃ z, z = bk.length := ⟨_, rfl⟩
      rw [← hmk] at hv
      have hmkl : mk ≤ 703 := by rw [hmk, hbk]; exact (encL_len _ HX.out).1
      obtain ⟨Ab, cb, rfl, _, _, hrb⟩ := own_form hv
      have HBK := Lib.hid hbk
      have HMK := Lib.hid hmk
      have HVK := Lib.hid hv
      have HRB := Lib.hid hrb
      have HOU9 := Lib.hid (own_below HOU.out hb9)
      have HS9 := Lib.hid (HI.out.sum.below hb9 HI.out.sum.lt)
      have HBQ9 := Lib.hid (HI.out.belq.trans (hb9.mono HI.out.qs))
      have hq9 : q ≤ w9.heap.size := Nat.le_trans HI.out.qs hb9.size
      have hw9 : wr.heap.size ≤ w9.heap.size := hb9.size
      have HLT : Hid (∀ z, (Value.slice Au mL cu).ownBlock = some z → z < wr.heap.size) := fun z hz => (HOU.out.lt z hz).2
      obtain ⟨lo, hlo⟩ : ∃ z, z = wr.heap.size := ⟨_, rfl⟩
      rw [← hlo] at HVK HLT hw9
      clear hbk hmk hv hrb hb9 hlo
      go_wp2_with (at_builtin; (refine wpList_append_any _ rfl (.tmp 76) (.tmp 77) 27 rfl q 5 i0 _ 1 1 Try.underlying27 hi0 hz0 hz1 hz2 rfl (by omega) (.slice Au mL cu) mL (bts L) rfl HOU9.out w9.heap.size Ab mk cb (bts bk) rfl HRB.out (bts_one _) (by unfold maxLen; omega) (by omega) hq9 ?_); intro v4 w4 hown4 hg4 _; (obtain ⟨A4', c4', rfl, _, _, _⟩ := own_form hown4); (have hne : some gS ≠ (Value.slice Au mL cu).ownBlock := (fun e => own_blk_ne HOU9.out HS9.out (by decide) e.symm)); (have HS4 := Lib.hid (HS9.out.grown hg4 hne)); (have HBQ4 := Lib.hid (HBQ9.out.grown hg4 hq9 (fun z hz => by have := (HOU9.out.lt z hz).1; omega))); (have HO4 := Lib.hid hown4); (have HVK4 := Lib.hid (own_apart2 HVK.out HLT.out (Nat.le_refl _) hg4)); (have hq4 : q ≤ w4.heap.size := Nat.le_trans hq9 hg4.size); clear hown4 hg4 hne; obtain ⟨p0, p1, p2, p3, _⟩ := blk4 HS4.out)
      have HFE := Lib.hid (rfeed_n s bk mk HMK.out Ab cb w4 w4.heap.size (Reads.of_own HVK4.out) (Nat.le_refl _) (by omega))
      refine HFE.out.mono ?_
      clear HFE p0 p1 p2 p3
      rintro e w5 ⟨rfl, hb5⟩
      obtain ⟨s5, hs5⟩ : ∃ z, z = feedL s (words bk) := ⟨_, rfl⟩
      rw [← hs5]
      have HS5 := Lib.hid (HS4.out.below hb5 HS4.out.lt)
      have HO5 := Lib.hid (own_below HO4.out hb5)
      have HBQ5 := Lib.hid (HBQ4.out.trans (hb5.mono hq4))
      have hq5 : q ≤ w5.heap.size := Nat.le_trans hq4 hb5.size
      have HS5E := Lib.hid hs5
      clear hb5 hs5 HS4 HO4 HBQ4 HVK4 HVK HRB HOU9 HS9 HBQ9
      obtain ⟨p0, p1, p2, p3, y0, y1, y2, y3⟩ := blk4 HS5.out
      have hgSq : q ≤ gS := HGQ.out
      have kE := (((HS5.out.set_ 0 (.int .u64 s5.a)).set_ 1 (.int .u64 s5.b)).set_ 2 (.int .u64 s5.c)).set_ 3 (.int .u64 s5.d)
      have bE := (((HBQ5.out.setCell (p := ⟨gS, 0, none⟩) hgSq (.int .u64 s5.a)).setCell (p := ⟨gS, 1, none⟩) hgSq (.int .u64 s5.b)).setCell (p := ⟨gS, 2, none⟩) hgSq (.int .u64 s5.c)).setCell (p := ⟨gS, 3, none⟩) hgSq (.int .u64 s5.d)
      have oE := own_setOther (own_setOther (own_setOther (own_setOther HO5.out HS5.out (by decide) 0 (.int .u64 s5.a)) (HS5.out.set_ 0 (.int .u64 s5.a)) (by decide) 1 (.int .u64 s5.b)) ((HS5.out.set_ 0 (.int .u64 s5.a)).set_ 1 (.int .u64 s5.b)) (by decide) 2 (.int .u64 s5.c)) (((HS5.out.set_ 0 (.int .u64 s5.a)).set_ 1 (.int .u64 s5.b)).set_ 2 (.int .u64 s5.c)) (by decide) 3 (.int .u64 s5.d)
      have HH := Lib.hid (show _ ∧ _ ∧ _ from ⟨kE, bE, oE⟩)
      clear kE bE oE
      go_wp2_with fail
      go_roundw
      case rel =>
        refine ⟨k + 1, s5, by omega, by go_num, ⟨HI.out.bel, HH.out.2.1, HH.out.1, ?_, ?_, by simpa using hq5⟩⟩
        · rw [HTK.out, ← List.cons_append, encAll_snoc, ← HLL.out, ← HBK.out, List.length_append, ← HML.out, ← HMK.out, bts_append]
          exact HH.out.2.2
        · rw [HTK.out, ← List.cons_append, sumS_snoc, ← HI.out.val, ← HBK.out, HS5E.out]
      case measure => simp [intOf]; omega
    · obtain rfl : k = n5 := by omega
      have htl : r0 :: (o.take k).map rcOf = recsL a b r0 := by rw [HRL.out, HN5.out, List.take_length]
      have hval := HI.out.val
      rw [htl] at hval
      have hLL := HLL.out
      rw [htl] at hLL
      have hsok : s.ok := by rw [hval]; exact sumS_ok _ _ ⟨by decide, by decide, by decide, by decide⟩
      have hpe := penc_any (rcEnd s) 0 rfl none 0 wr 0 (Nat.zero_le _) Reads.none_ (by omega) (by intro y hy; cases hy) (by simp [rcEnd]) hsok
      unfold EncPost at hpe
      rw [recE_end] at hpe
      have HPE := Lib.hid hpe
      have HMS : Hid (makeS a b r0 = L ++ encL (rcEnd s)) := by show _ = _; unfold makeS; rw [← hval, ← hLL]
      obtain ⟨p0, p1, p2, p3, _⟩ := blk4 HI.out.sum
      have HIB : Hid (Below w.heap.size w wr) := HI.out.bel.trans (HI.out.belq.mono hwq)
      have hqs := HI.out.qs
      clear hpe htl hval hLL hsok HI HR58 HLL
      go_wp2_with fail
      refine HPE.out.mono ?_
      clear HPE p0 p1 p2 p3
      rintro e w9 ⟨v, rfl, hv, hb9⟩
      simp only [↓reduceIte] at hv
      obtain ⟨bk, hbk⟩ : ∃ z, z = encL (rcEnd s) := ⟨_, rfl⟩
      obtain ⟨mk, hmk⟩ : ∃ z, z = bk.length := ⟨_, rfl⟩
      rw [← hbk, ← hmk] at hv
      have hmkl : mk ≤ 703 := by rw [hmk, hbk]; exact (encL_len _ (recE_end s)).1
      obtain ⟨Ab, cb, rfl, _, _, hrb⟩ := own_form hv
      have HRB := Lib.hid hrb
      have HOU9 := Lib.hid (own_below HOU.out hb9)
      have hq9 : q ≤ w9.heap.size := Nat.le_trans hqs hb9.size
      have HB9 := Lib.hid (HIB.out.trans (hb9.mono HIB.out.size))
      have HSZ : Hid (makeS a b r0 = L ++ bk ∧ (makeS a b r0).length = mL + mk) := by
        refine ⟨by rw [hbk]; exact HMS.out, ?_⟩
        rw [HMS.out, List.length_append, ← hbk, ← hmk, HML.out]
      clear hbk hmk hv hrb hb9 HMS
      go_upto_region 23 with (at_builtin; (refine wpList_append_any _ rfl (.tmp 88) (.tmp 89) 27 rfl q 5 i0 _ 1 1 Try.underlying27 hi0 hz0 hz1 hz2 rfl (by omega) (.slice Au mL cu) mL (bts L) rfl HOU9.out w9.heap.size Ab mk cb (bts bk) rfl HRB.out (bts_one _) (by unfold maxLen; omega) (by omega) hq9 ?_); intro v4 w4 hown4 hg4 _; (obtain ⟨A4', c4', rfl, _, _, _⟩ := own_form hown4); (have HB4 := Lib.hid (HB9.out.grown hg4 HB9.out.size (fun z hz => by have := (HOU9.out.lt z hz).1; omega))); (have HO4 := Lib.hid hown4); clear hown4 hg4)
      obtain ⟨Z, hZ⟩ : ∃ z, z = mL + mk := ⟨_, rfl⟩
      rw [← hZ] at HO4 HSZ ⊢
      clear hZ HOU9 HRB
      by_cases hle : 32768 < Z
      · have hle2 : (32768 : Int) < (Z : Int) := by omega
        have hme : makeE a b r0 (decide (fg < tg)) = 5 := by unfold makeE; rw [if_neg (by rw [← HE.out]; simp), if_neg (by rw [HR00.out]; simp), if_neg (by rw [HDL.out]; simp), if_pos (by rw [HSZ.out.2]; exact hle)]
        have HME := Lib.hid hme
        clear hme hle
        go_wp2_with fail
        go_ret2
        exact ⟨.slice none 0 0, by rw [HME.out]; rfl, by rw [HME.out, if_neg (by decide)], HB4.out⟩
      · have hle2 : ¬ (32768 : Int) < (Z : Int) := by omega
        have hme : makeE a b r0 (decide (fg < tg)) = 0 := by unfold makeE; rw [if_neg (by rw [← HE.out]; simp), if_neg (by rw [HR00.out]; simp), if_neg (by rw [HDL.out]; simp), if_neg (by rw [HSZ.out.2]; exact hle)]
        have HME := Lib.hid hme
        have HME2 : Hid (makeE a b r0 true = 0) := by show _ = _; rw [← HDL.out]; exact HME.out
        clear hme hle
        go_wp2_with fail
        go_ret2
        refine ⟨.slice A4' Z c4', by first | (rw [HME.out]; rfl) | (rw [HME2.out]; rfl), ?_, HB4.out⟩
        first | rw [HME.out, if_pos rfl, HSZ.out.2, HSZ.out.1, bts_append] | rw [HME2.out, if_pos rfl, HSZ.out.2, HSZ.out.1, bts_append]
        exact own_mono HO4.out hwq
end Go.Proofs.Ytcbeadldieeceaa
