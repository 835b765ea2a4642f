/-
  RecordTells, walked. (mkrctells.py)
-/
import Derived.Test.YthfjfkjlgdnohaaRf10y
import Derived.Test.YthfjfkjlgdnohaaRf6y
import Derived.Test.YthfjfkjlgdnohaaZ16
import Derived.Test.YthfjfkjlgdnohaaZ4
namespace Go.Proofs.Ythfjfkjlgdnohaa
open Go.RowKit

/-- Encode's octets, as a slice that reads -/
theorem encPost_of {w w' : World} {r : Rc} {e : Ending} (h : EncPost w r e w') : ∃ A c, e = .returned (.tuple #[.slice A (if recE r = 0 then encL r else []).length c, .int .i64 (recE r)]) ∧ Reads w' w'.heap.size 1 A (if recE r = 0 then encL r else []).length (bts (if recE r = 0 then encL r else [])) ∧ Below w.heap.size w w' := by
  obtain ⟨v, he, hv, hb⟩ := h
  by_cases h0 : recE r = 0
  · rw [if_pos h0] at hv ⊢
    obtain ⟨A, c, rfl, _, _, hr⟩ := own_form hv
    exact ⟨A, c, he, hr, hb⟩
  · rw [if_neg h0] at hv ⊢
    subst hv
    exact ⟨none, 0, he, Reads.none_, hb⟩
theorem parsePost_of {w w' : World} {P : Rc × Nat × Int} {e : Ending} (h : ParsePost w P e w') : ∃ A c, e = .returned (.tuple #[rcV P.1 (.slice A P.1.own.length c), .int .i64 (P.2.1 : Int), .int .i64 P.2.2]) ∧ Reads w' w'.heap.size 2 A P.1.own.length (pcells P.1.own) ∧ Below w.heap.size w w' := by
  obtain ⟨v, he, hv, hb⟩ := h
  obtain ⟨A, c, rfl, _, _, hr⟩ := own_form hv
  exact ⟨A, c, he, hr, hb⟩
theorem two_boxes' (w : World) (C1 C2 : Array Value) (t : TypeId) : Blk ((w.alloc (.cells C1 t)).alloc (.cells C2 t)) w.heap.size t C1 ∧ Blk ((w.alloc (.cells C1 t)).alloc (.cells C2 t)) (w.heap.size + 1) t C2 ∧ Below w.heap.size w ((w.alloc (.cells C1 t)).alloc (.cells C2 t)) := two_boxes w C1 C2 t
set_option maxRecDepth 100000 in
set_option maxHeartbeats 8000000 in
theorem recordTells_any (r s : Rc) (A1 A2 : Option Addr) (n m c1 c2 : Nat) (b : List UInt8) (l : Nat) (hl : l = b.length) (A3 : Option Addr) (c3 : Nat) (hc3 : l ≤ c3) (hcm3 : c3 ≤ 140737488351232) (w : World) (hg : RcGood w r A1 n c1) (hgs : RcGood w s A2 m c2) (hrb : Reads w w.heap.size 1 A3 l (bts b)) :
    LawCalls Try.prog 3 #[rcV r (.slice A1 n c1), rcV s (.slice A2 m c2), .slice A3 l c3] w := by
  obtain ⟨hn, hc, hcm, hr1, hs1, hsm, hnm, _⟩ := hg
  obtain ⟨hn2, hc2, hcm2, hr2, hs2, _⟩ := hgs
  have hv : ∀ x ∈ r.own, x.2.length ≤ 140737488351232 := fun x hx => (hs1 x hx).2
  have henc := fun W (hb : Below w.heap.size w W) w' e (h : EncPost W r e w') => encPost_of h
  have henc1 := fun W (hb : Below w.heap.size w W) => renc_any r n hn A1 c1 W _ hb.size (hr1.below hb) (by omega) hv
  have henc2 := fun W (hb : Below w.heap.size w W) => penc_any r n hn A1 c1 W _ hb.size (hr1.below hb) (by omega) hs1 hnm hsm
  have hpar1 := fun W (hb : Below w.heap.size w W) => rparse_any b l hl A3 c3 W _ (hrb.below hb) hb.size hc3 (by omega) (by omega)
  have hpar2 := fun W (hb : Below w.heap.size w W) => pparse_any b l hl A3 c3 W _ (hrb.below hb) hb.size hc3 (by omega) (by omega)
  have hck := fun W (hb : Below w.heap.size w W) => rcheck_any r n hn A1 c1 W _ hb.size (hr1.below hb) (by omega) hv
  have hpck := fun W (hb : Below w.heap.size w W) => pcheck_any r.kind r.nm r.frm r.gd r.own r.ix r.ct r.dt r.sm.a r.sm.b r.sm.c r.sm.d n hn A1 c1 W _ hb.size (hr1.below hb) (by omega) hs1 hnm
  have hsame := fun W (hb : Below w.heap.size w W) => rsame_any r s n m hn hn2 A1 A2 c1 c2 W _ _ hb.size hb.size (hr1.below hb) (hr2.below hb) (by omega) (by omega)
  have hrsame := fun W (hb : Below w.heap.size w W) => refSame_any r s n m hn hn2 A1 A2 c1 c2 W _ _ hb.size hb.size (hr1.below hb) (hr2.below hb) (by omega) (by omega)
  obtain ⟨SB, hSB⟩ : ∃ x, x = sameR r s := ⟨_, rfl⟩
  rw [← hSB] at hsame hrsame
  obtain ⟨E, hE⟩ : ∃ x, x = recE r := ⟨_, rfl⟩
  obtain ⟨XL, hXL⟩ : ∃ x, x = (if recE r = 0 then encL r else []) := ⟨_, rfl⟩
  rw [← hXL] at henc
  have hpck : ∀ W, Below w.heap.size w W → Calls Try.prog 20 #[rcV r (.slice A1 n c1)] W fun e w' => e = .returned (.int .i64 (recE r)) ∧ Below W.heap.size W w' := hpck
  rw [← hE] at henc hck hpck
  obtain ⟨P, hP⟩ : ∃ P, P = parseL b := ⟨_, rfl⟩
  rw [← hP] at hpar1 hpar2
  have hpl5 : P.1.own.length ≤ 5000000000000 := by
    obtain ⟨pr, pn, pe⟩ := P
    by_cases h0 : pe = 0
    · subst h0
      have := (own_vals pr (parse_back b pr pn hP.symm).1).1
      show pr.own.length ≤ _
      omega
    · have := (parse_err b pr pn pe hP.symm h0).1
      show pr.own.length ≤ _
      rw [this]
      exact Nat.zero_le _
  obtain ⟨rk, rn, rf, rg, ro, ri, rc, rd, ⟨ra, rb, rx, ry⟩⟩ := r
  obtain ⟨sk, sn, sf, sg, so, si, sc, sd, ⟨sa, sb, sx, sy⟩⟩ := s
  obtain ⟨⟨pk, pn, pf, pg, po, pi, pc, pd, ⟨pa, pb, px, py⟩⟩, N, G⟩ := P
  have hpq := fun W A5 c5 A6 c6 (h5 : Reads W W.heap.size 2 A5 po.length (pcells po)) (h6 : Reads W W.heap.size 2 A6 po.length (pcells po)) => refSame_any ⟨pk, pn, pf, pg, po, pi, pc, pd, ⟨pa, pb, px, py⟩⟩ ⟨pk, pn, pf, pg, po, pi, pc, pd, ⟨pa, pb, px, py⟩⟩ po.length po.length rfl rfl A5 A6 c5 c6 W _ _ (Nat.le_refl _) (Nat.le_refl _) h5 h6 hpl5 hpl5
  rw [(sameR_iff ⟨pk, pn, pf, pg, po, pi, pc, pd, ⟨pa, pb, px, py⟩⟩ ⟨pk, pn, pf, pg, po, pi, pc, pd, ⟨pa, pb, px, py⟩⟩).2 rfl] at hpq
  show Calls _ _ #[.agg #[.int .i64 rk, .string ⟨rn.toArray⟩, .int .i64 rf, .int .i64 rg, .slice A1 n c1, .int .i64 ri, .int .i64 rc, .string ⟨rd.toArray⟩, .int .u64 ra, .int .u64 rb, .int .u64 rx, .int .u64 ry], .agg #[.int .i64 sk, .string ⟨sn.toArray⟩, .int .i64 sf, .int .i64 sg, .slice A2 m c2, .int .i64 si, .int .i64 sc, .string ⟨sd.toArray⟩, .int .u64 sa, .int .u64 sb, .int .u64 sx, .int .u64 sy], _] _ _
  have hk := two_boxes' w #[.int .i64 rk, .string ⟨rn.toArray⟩, .int .i64 rf, .int .i64 rg, .slice A1 n c1, .int .i64 ri, .int .i64 rc, .string ⟨rd.toArray⟩, .int .u64 ra, .int .u64 rb, .int .u64 rx, .int .u64 ry] #[.int .i64 sk, .string ⟨sn.toArray⟩, .int .i64 sf, .int .i64 sg, .slice A2 m c2, .int .i64 si, .int .i64 sc, .string ⟨sd.toArray⟩, .int .u64 sa, .int .u64 sb, .int .u64 sx, .int .u64 sy] 27
  obtain ⟨W0, hW0⟩ : ∃ W0, W0 = (w.alloc (.cells #[.int .i64 rk, .string ⟨rn.toArray⟩, .int .i64 rf, .int .i64 rg, .slice A1 n c1, .int .i64 ri, .int .i64 rc, .string ⟨rd.toArray⟩, .int .u64 ra, .int .u64 rb, .int .u64 rx, .int .u64 ry] 27)).alloc (.cells #[.int .i64 sk, .string ⟨sn.toArray⟩, .int .i64 sf, .int .i64 sg, .slice A2 m c2, .int .i64 si, .int .i64 sc, .string ⟨sd.toArray⟩, .int .u64 sa, .int .u64 sb, .int .u64 sx, .int .u64 sy] 27) := ⟨_, rfl⟩
  rw [← hW0] at hk
  obtain ⟨k3, k4, hb0⟩ := hk
  have HENC := Lib.hid henc
  have HE1 := Lib.hid henc1
  have HE2 := Lib.hid henc2
  have HPA1 := Lib.hid hpar1
  have HPA2 := Lib.hid hpar2
  have HCK : Hid (∀ W, Below w.heap.size w W → Calls Try.prog 19 #[.agg #[.int .i64 rk, .string ⟨rn.toArray⟩, .int .i64 rf, .int .i64 rg, .slice A1 n c1, .int .i64 ri, .int .i64 rc, .string ⟨rd.toArray⟩, .int .u64 ra, .int .u64 rb, .int .u64 rx, .int .u64 ry]] W _) := hck
  have HPCK : Hid (∀ W, Below w.heap.size w W → Calls Try.prog 20 #[.agg #[.int .i64 rk, .string ⟨rn.toArray⟩, .int .i64 rf, .int .i64 rg, .slice A1 n c1, .int .i64 ri, .int .i64 rc, .string ⟨rd.toArray⟩, .int .u64 ra, .int .u64 rb, .int .u64 rx, .int .u64 ry]] W _) := hpck
  have HSM : Hid (∀ W, Below w.heap.size w W → Calls Try.prog 21 #[.agg #[.int .i64 rk, .string ⟨rn.toArray⟩, .int .i64 rf, .int .i64 rg, .slice A1 n c1, .int .i64 ri, .int .i64 rc, .string ⟨rd.toArray⟩, .int .u64 ra, .int .u64 rb, .int .u64 rx, .int .u64 ry], .agg #[.int .i64 sk, .string ⟨sn.toArray⟩, .int .i64 sf, .int .i64 sg, .slice A2 m c2, .int .i64 si, .int .i64 sc, .string ⟨sd.toArray⟩, .int .u64 sa, .int .u64 sb, .int .u64 sx, .int .u64 sy]] W _) := hsame
  have HRSM : Hid (∀ W, Below w.heap.size w W → Calls Try.prog 22 #[.agg #[.int .i64 rk, .string ⟨rn.toArray⟩, .int .i64 rf, .int .i64 rg, .slice A1 n c1, .int .i64 ri, .int .i64 rc, .string ⟨rd.toArray⟩, .int .u64 ra, .int .u64 rb, .int .u64 rx, .int .u64 ry], .agg #[.int .i64 sk, .string ⟨sn.toArray⟩, .int .i64 sf, .int .i64 sg, .slice A2 m c2, .int .i64 si, .int .i64 sc, .string ⟨sd.toArray⟩, .int .u64 sa, .int .u64 sb, .int .u64 sx, .int .u64 sy]] W _) := hrsame
  have HAL : Hid (∀ W, Below w.heap.size w W → Calls Try.prog 23 #[] W fun e w' => e = .returned (.bool true) ∧ Below W.heap.size W w') := fun W _ => alive19_any W
  have HPQ0 := Lib.hid hpq
  have HW0 := Lib.hid hW0
  have HB0 := Lib.hid hb0
  have K3 := Lib.hid k3
  have K4 := Lib.hid k4
  obtain ⟨XN, hXN⟩ : ∃ k, k = XL.length := ⟨_, rfl⟩
  rw [← hXN] at HENC
  have HXL := Lib.hid hXN
  obtain ⟨a0, a1, a2, a3, a4, a5, a6, a7, a8, a9, a10, a11⟩ := blk12 k3
  clear henc henc1 henc2 hpar1 hpar2 hck hpck hsame hrsame hpq hW0 hb0 k3 k4 hXN hXL hE hSB hP hn hn2 hr1 hr2 hs1 hs2 hv hsm hrb hl
  go_enter Try.func3, Try.ntmps3
  go_upto_region 1 with (fail)
  rw [← HW0.out]
  go_wp2_with fail
  refine (HE1.out _ HB0.out).mono ?_
  clear HE1 a0 a1 a2 a3 a4 a5 a6 a7 a8 a9 a10 a11
  intro e w1 hpo
  obtain ⟨Ax, cx, rfl, hrx, hb1⟩ := HENC.out _ HB0.out _ _ hpo
  have HB1 := Lib.hid (HB0.out.trans (hb1.mono HB0.out.size))
  have hz0 : w.heap.size + 1 < W0.heap.size := K4.out.lt
  have K3 := Lib.hid (K3.out.below hb1 K3.out.lt)
  have K4 := Lib.hid (K4.out.below hb1 hz0)
  have HX1 := Lib.hid hrx
  clear hpo hb1 hrx HB0 HW0
  obtain ⟨a0, a1, a2, a3, a4, a5, a6, a7, a8, a9, a10, a11⟩ := blk12 K3.out
  go_wp2_with fail
  refine (HE2.out _ HB1.out).mono ?_
  clear HE2 a0 a1 a2 a3 a4 a5 a6 a7 a8 a9 a10 a11
  intro e w2 hpo
  obtain ⟨Ay, cy, rfl, hry, hb2⟩ := HENC.out _ HB1.out _ _ hpo
  have HB2 := Lib.hid (HB1.out.trans (hb2.mono HB1.out.size))
  have hz1 : w.heap.size + 1 < w1.heap.size := K4.out.lt
  have K3 := Lib.hid (K3.out.below hb2 K3.out.lt)
  have K4 := Lib.hid (K4.out.below hb2 hz1)
  have HX2 := Lib.hid (up_reads HX1.out hb2 (Nat.le_refl _))
  have HY2 := Lib.hid hry
  clear hpo hb2 hry HB1 HX1 HENC
  go_wp2_with fail
  refine (HPA1.out _ HB2.out).mono ?_
  clear HPA1
  intro e w3 hpo
  obtain ⟨A5, c5, he, hr5, hb3⟩ := parsePost_of hpo
  obtain ⟨pl, hpl⟩ : ∃ k, k = po.length := ⟨_, rfl⟩
  have HPL := Lib.hid hpl
  simp only at hr5
  rw [← hpl] at hr5
  obtain rfl : e = .returned (.tuple #[.agg #[.int .i64 pk, .string ⟨pn.toArray⟩, .int .i64 pf, .int .i64 pg, .slice A5 pl c5, .int .i64 pi, .int .i64 pc, .string ⟨pd.toArray⟩, .int .u64 pa, .int .u64 pb, .int .u64 px, .int .u64 py], .int .i64 (N : Int), .int .i64 G]) := by rw [hpl]; exact he
  have HB3 := Lib.hid (HB2.out.trans (hb3.mono HB2.out.size))
  have hz2 : w.heap.size + 1 < w2.heap.size := K4.out.lt
  have K3 := Lib.hid ((K3.out.below hb3 K3.out.lt).alloc (.cells #[.int .i64 pk, .string ⟨pn.toArray⟩, .int .i64 pf, .int .i64 pg, .slice A5 pl c5, .int .i64 pi, .int .i64 pc, .string ⟨pd.toArray⟩, .int .u64 pa, .int .u64 pb, .int .u64 px, .int .u64 py] 27))
  have K4 := Lib.hid ((K4.out.below hb3 hz2).alloc (.cells #[.int .i64 pk, .string ⟨pn.toArray⟩, .int .i64 pf, .int .i64 pg, .slice A5 pl c5, .int .i64 pi, .int .i64 pc, .string ⟨pd.toArray⟩, .int .u64 pa, .int .u64 pb, .int .u64 px, .int .u64 py] 27))
  have hz3 : w.heap.size + 1 < w3.heap.size := by have := hb3.size; omega
  obtain ⟨W4, hW4⟩ : ∃ W4, W4 = w3.alloc (.cells #[.int .i64 pk, .string ⟨pn.toArray⟩, .int .i64 pf, .int .i64 pg, .slice A5 pl c5, .int .i64 pi, .int .i64 pc, .string ⟨pd.toArray⟩, .int .u64 pa, .int .u64 pb, .int .u64 px, .int .u64 py] 27) := ⟨_, rfl⟩
  have k11 : Blk W4 w3.heap.size 27 #[.int .i64 pk, .string ⟨pn.toArray⟩, .int .i64 pf, .int .i64 pg, .slice A5 pl c5, .int .i64 pi, .int .i64 pc, .string ⟨pd.toArray⟩, .int .u64 pa, .int .u64 pb, .int .u64 px, .int .u64 py] := by rw [hW4]; exact Blk.new _ _ _
  have hb24 : Below w2.heap.size w2 W4 := by rw [hW4]; exact hb3.alloc hb3.size _
  rw [← hW4] at K3 K4
  have HB4 := Lib.hid (HB2.out.trans (hb24.mono HB2.out.size))
  have HX4 := Lib.hid (up_reads HX2.out hb24 (Nat.le_refl _))
  have HY4 := Lib.hid (up_reads HY2.out hb24 (Nat.le_refl _))
  have HR5 : Hid (Reads W4 W4.heap.size 2 A5 pl (pcells po)) := by show Reads _ _ _ _ _ _; rw [hW4]; exact (hr5.alloc (Nat.le_refl _) _).more (by simp)
  obtain ⟨g11, hg11⟩ : ∃ g, g = w3.heap.size := ⟨_, rfl⟩
  rw [← hg11] at k11
  have K11 := Lib.hid k11
  have HG11 := Lib.hid hg11
  have HW4 := Lib.hid hW4
  clear hpo he hr5 hb3 hb24 hpl HB2 HX2 HY2 HB3 k11 hW4
  go_upto_region 4 with (fail)
  rw [← HW4.out, ← hg11]
  clear hg11
  go_wp2_with fail
  refine (HPA2.out _ HB4.out).mono ?_
  clear HPA2
  intro e w5 hpo
  obtain ⟨A6, c6, he, hr6, hb5⟩ := parsePost_of hpo
  simp only at hr6
  rw [← HPL.out] at hr6
  obtain rfl : e = .returned (.tuple #[.agg #[.int .i64 pk, .string ⟨pn.toArray⟩, .int .i64 pf, .int .i64 pg, .slice A6 pl c6, .int .i64 pi, .int .i64 pc, .string ⟨pd.toArray⟩, .int .u64 pa, .int .u64 pb, .int .u64 px, .int .u64 py], .int .i64 (N : Int), .int .i64 G]) := by rw [HPL.out]; exact he
  obtain ⟨Wf, hWf⟩ : ∃ W, W = w5.alloc (.cells #[.int .i64 pk, .string ⟨pn.toArray⟩, .int .i64 pf, .int .i64 pg, .slice A6 pl c6, .int .i64 pi, .int .i64 pc, .string ⟨pd.toArray⟩, .int .u64 pa, .int .u64 pb, .int .u64 px, .int .u64 py] 27) := ⟨_, rfl⟩
  have hb4f : Below W4.heap.size W4 Wf := by rw [hWf]; exact hb5.alloc hb5.size _
  have hz4 : w.heap.size + 1 < W4.heap.size := K4.out.lt
  have k3 := K3.out.below hb4f K3.out.lt
  have k4 := K4.out.below hb4f hz4
  have k11 := K11.out.below hb4f K11.out.lt
  have k14 : Blk Wf w5.heap.size 27 #[.int .i64 pk, .string ⟨pn.toArray⟩, .int .i64 pf, .int .i64 pg, .slice A6 pl c6, .int .i64 pi, .int .i64 pc, .string ⟨pd.toArray⟩, .int .u64 pa, .int .u64 pb, .int .u64 px, .int .u64 py] := by rw [hWf]; exact Blk.new _ _ _
  have HBf := Lib.hid (HB4.out.trans (hb4f.mono HB4.out.size))
  have hrx := up_reads HX4.out hb4f (Nat.le_refl _)
  have hry := up_reads HY4.out hb4f (Nat.le_refl _)
  have h5 := up_reads HR5.out hb4f (Nat.le_refl _)
  have h6 : Reads Wf Wf.heap.size 2 A6 pl (pcells po) := by rw [hWf]; exact (hr6.alloc (Nat.le_refl _) _).more (by simp)
  obtain ⟨g14, hg14⟩ : ∃ g, g = w5.heap.size := ⟨_, rfl⟩
  rw [← hg14] at k14
  have HX := Lib.hid (fun (W' : World) (hb : Below Wf.heap.size Wf W') => up_reads hrx hb (Nat.le_refl _))
  have HY := Lib.hid (fun (W' : World) (hb : Below Wf.heap.size Wf W') => up_reads hry hb (Nat.le_refl _))
  have HPQ : Hid (∀ W, Below w.heap.size w W → Below Wf.heap.size Wf W → Calls Try.prog 22 #[.agg #[.int .i64 pk, .string ⟨pn.toArray⟩, .int .i64 pf, .int .i64 pg, .slice A5 pl c5, .int .i64 pi, .int .i64 pc, .string ⟨pd.toArray⟩, .int .u64 pa, .int .u64 pb, .int .u64 px, .int .u64 py], .agg #[.int .i64 pk, .string ⟨pn.toArray⟩, .int .i64 pf, .int .i64 pg, .slice A6 pl c6, .int .i64 pi, .int .i64 pc, .string ⟨pd.toArray⟩, .int .u64 pa, .int .u64 pb, .int .u64 px, .int .u64 py]] W fun e w' => e = .returned (.bool true) ∧ Below W.heap.size W w') := by
    show ∀ W, _ → _ → _
    intro W _ hb
    have := HPQ0.out W A5 c5 A6 c6 (by rw [← HPL.out]; exact up_reads h5 hb (Nat.le_refl _)) (by rw [← HPL.out]; exact up_reads h6 hb (Nat.le_refl _))
    rw [← HPL.out] at this
    exact this
  have hS := Lib.hid (fun (W' : World) (hB : Below Wf.heap.size Wf W') => (⟨blk12 (k3.below hB k3.lt), blk12 (k4.below hB k4.lt), blk12 (k11.below hB k11.lt), blk12 (k14.below hB k14.lt), hB⟩ :
    (W'.cell? ⟨w.heap.size, 0, none⟩ = some (.int .i64 rk) ∧ W'.cell? ⟨w.heap.size, 1, none⟩ = some (.string ⟨rn.toArray⟩) ∧ W'.cell? ⟨w.heap.size, 2, none⟩ = some (.int .i64 rf) ∧ W'.cell? ⟨w.heap.size, 3, none⟩ = some (.int .i64 rg) ∧ W'.cell? ⟨w.heap.size, 4, none⟩ = some (.slice A1 n c1) ∧ W'.cell? ⟨w.heap.size, 5, none⟩ = some (.int .i64 ri) ∧ W'.cell? ⟨w.heap.size, 6, none⟩ = some (.int .i64 rc) ∧ W'.cell? ⟨w.heap.size, 7, none⟩ = some (.string ⟨rd.toArray⟩) ∧ W'.cell? ⟨w.heap.size, 8, none⟩ = some (.int .u64 ra) ∧ W'.cell? ⟨w.heap.size, 9, none⟩ = some (.int .u64 rb) ∧ W'.cell? ⟨w.heap.size, 10, none⟩ = some (.int .u64 rx) ∧ W'.cell? ⟨w.heap.size, 11, none⟩ = some (.int .u64 ry)) ∧ (W'.cell? ⟨w.heap.size + 1, 0, none⟩ = some (.int .i64 sk) ∧ W'.cell? ⟨w.heap.size + 1, 1, none⟩ = some (.string ⟨sn.toArray⟩) ∧ W'.cell? ⟨w.heap.size + 1, 2, none⟩ = some (.int .i64 sf) ∧ W'.cell? ⟨w.heap.size + 1, 3, none⟩ = some (.int .i64 sg) ∧ W'.cell? ⟨w.heap.size + 1, 4, none⟩ = some (.slice A2 m c2) ∧ W'.cell? ⟨w.heap.size + 1, 5, none⟩ = some (.int .i64 si) ∧ W'.cell? ⟨w.heap.size + 1, 6, none⟩ = some (.int .i64 sc) ∧ W'.cell? ⟨w.heap.size + 1, 7, none⟩ = some (.string ⟨sd.toArray⟩) ∧ W'.cell? ⟨w.heap.size + 1, 8, none⟩ = some (.int .u64 sa) ∧ W'.cell? ⟨w.heap.size + 1, 9, none⟩ = some (.int .u64 sb) ∧ W'.cell? ⟨w.heap.size + 1, 10, none⟩ = some (.int .u64 sx) ∧ W'.cell? ⟨w.heap.size + 1, 11, none⟩ = some (.int .u64 sy)) ∧ (W'.cell? ⟨g11, 0, none⟩ = some (.int .i64 pk) ∧ W'.cell? ⟨g11, 1, none⟩ = some (.string ⟨pn.toArray⟩) ∧ W'.cell? ⟨g11, 2, none⟩ = some (.int .i64 pf) ∧ W'.cell? ⟨g11, 3, none⟩ = some (.int .i64 pg) ∧ W'.cell? ⟨g11, 4, none⟩ = some (.slice A5 pl c5) ∧ W'.cell? ⟨g11, 5, none⟩ = some (.int .i64 pi) ∧ W'.cell? ⟨g11, 6, none⟩ = some (.int .i64 pc) ∧ W'.cell? ⟨g11, 7, none⟩ = some (.string ⟨pd.toArray⟩) ∧ W'.cell? ⟨g11, 8, none⟩ = some (.int .u64 pa) ∧ W'.cell? ⟨g11, 9, none⟩ = some (.int .u64 pb) ∧ W'.cell? ⟨g11, 10, none⟩ = some (.int .u64 px) ∧ W'.cell? ⟨g11, 11, none⟩ = some (.int .u64 py)) ∧ (W'.cell? ⟨g14, 0, none⟩ = some (.int .i64 pk) ∧ W'.cell? ⟨g14, 1, none⟩ = some (.string ⟨pn.toArray⟩) ∧ W'.cell? ⟨g14, 2, none⟩ = some (.int .i64 pf) ∧ W'.cell? ⟨g14, 3, none⟩ = some (.int .i64 pg) ∧ W'.cell? ⟨g14, 4, none⟩ = some (.slice A6 pl c6) ∧ W'.cell? ⟨g14, 5, none⟩ = some (.int .i64 pi) ∧ W'.cell? ⟨g14, 6, none⟩ = some (.int .i64 pc) ∧ W'.cell? ⟨g14, 7, none⟩ = some (.string ⟨pd.toArray⟩) ∧ W'.cell? ⟨g14, 8, none⟩ = some (.int .u64 pa) ∧ W'.cell? ⟨g14, 9, none⟩ = some (.int .u64 pb) ∧ W'.cell? ⟨g14, 10, none⟩ = some (.int .u64 px) ∧ W'.cell? ⟨g14, 11, none⟩ = some (.int .u64 py)) ∧ Below Wf.heap.size Wf W'))
  have HG14 := Lib.hid hg14
  have HWf := Lib.hid hWf
  clear hpo he hr6 hb5 hb4f k3 k4 k11 k14 hrx hry h5 h6 HB4 HX4 HY4 HR5 K3 K4 K11 HW4 HPQ0 hWf hpl5
  go_upto_region 5 with (fail)
  rw [← HWf.out, ← hg14]
  clear hg14 HWf HG14 HG11
  have hzf : True := trivial
  refine wpC_region (fun W' => (W'.cell? ⟨w.heap.size, 0, none⟩ = some (.int .i64 rk) ∧ W'.cell? ⟨w.heap.size, 1, none⟩ = some (.string ⟨rn.toArray⟩) ∧ W'.cell? ⟨w.heap.size, 2, none⟩ = some (.int .i64 rf) ∧ W'.cell? ⟨w.heap.size, 3, none⟩ = some (.int .i64 rg) ∧ W'.cell? ⟨w.heap.size, 4, none⟩ = some (.slice A1 n c1) ∧ W'.cell? ⟨w.heap.size, 5, none⟩ = some (.int .i64 ri) ∧ W'.cell? ⟨w.heap.size, 6, none⟩ = some (.int .i64 rc) ∧ W'.cell? ⟨w.heap.size, 7, none⟩ = some (.string ⟨rd.toArray⟩) ∧ W'.cell? ⟨w.heap.size, 8, none⟩ = some (.int .u64 ra) ∧ W'.cell? ⟨w.heap.size, 9, none⟩ = some (.int .u64 rb) ∧ W'.cell? ⟨w.heap.size, 10, none⟩ = some (.int .u64 rx) ∧ W'.cell? ⟨w.heap.size, 11, none⟩ = some (.int .u64 ry)) ∧ (W'.cell? ⟨w.heap.size + 1, 0, none⟩ = some (.int .i64 sk) ∧ W'.cell? ⟨w.heap.size + 1, 1, none⟩ = some (.string ⟨sn.toArray⟩) ∧ W'.cell? ⟨w.heap.size + 1, 2, none⟩ = some (.int .i64 sf) ∧ W'.cell? ⟨w.heap.size + 1, 3, none⟩ = some (.int .i64 sg) ∧ W'.cell? ⟨w.heap.size + 1, 4, none⟩ = some (.slice A2 m c2) ∧ W'.cell? ⟨w.heap.size + 1, 5, none⟩ = some (.int .i64 si) ∧ W'.cell? ⟨w.heap.size + 1, 6, none⟩ = some (.int .i64 sc) ∧ W'.cell? ⟨w.heap.size + 1, 7, none⟩ = some (.string ⟨sd.toArray⟩) ∧ W'.cell? ⟨w.heap.size + 1, 8, none⟩ = some (.int .u64 sa) ∧ W'.cell? ⟨w.heap.size + 1, 9, none⟩ = some (.int .u64 sb) ∧ W'.cell? ⟨w.heap.size + 1, 10, none⟩ = some (.int .u64 sx) ∧ W'.cell? ⟨w.heap.size + 1, 11, none⟩ = some (.int .u64 sy)) ∧ (W'.cell? ⟨g11, 0, none⟩ = some (.int .i64 pk) ∧ W'.cell? ⟨g11, 1, none⟩ = some (.string ⟨pn.toArray⟩) ∧ W'.cell? ⟨g11, 2, none⟩ = some (.int .i64 pf) ∧ W'.cell? ⟨g11, 3, none⟩ = some (.int .i64 pg) ∧ W'.cell? ⟨g11, 4, none⟩ = some (.slice A5 pl c5) ∧ W'.cell? ⟨g11, 5, none⟩ = some (.int .i64 pi) ∧ W'.cell? ⟨g11, 6, none⟩ = some (.int .i64 pc) ∧ W'.cell? ⟨g11, 7, none⟩ = some (.string ⟨pd.toArray⟩) ∧ W'.cell? ⟨g11, 8, none⟩ = some (.int .u64 pa) ∧ W'.cell? ⟨g11, 9, none⟩ = some (.int .u64 pb) ∧ W'.cell? ⟨g11, 10, none⟩ = some (.int .u64 px) ∧ W'.cell? ⟨g11, 11, none⟩ = some (.int .u64 py)) ∧ (W'.cell? ⟨g14, 0, none⟩ = some (.int .i64 pk) ∧ W'.cell? ⟨g14, 1, none⟩ = some (.string ⟨pn.toArray⟩) ∧ W'.cell? ⟨g14, 2, none⟩ = some (.int .i64 pf) ∧ W'.cell? ⟨g14, 3, none⟩ = some (.int .i64 pg) ∧ W'.cell? ⟨g14, 4, none⟩ = some (.slice A6 pl c6) ∧ W'.cell? ⟨g14, 5, none⟩ = some (.int .i64 pi) ∧ W'.cell? ⟨g14, 6, none⟩ = some (.int .i64 pc) ∧ W'.cell? ⟨g14, 7, none⟩ = some (.string ⟨pd.toArray⟩) ∧ W'.cell? ⟨g14, 8, none⟩ = some (.int .u64 pa) ∧ W'.cell? ⟨g14, 9, none⟩ = some (.int .u64 pb) ∧ W'.cell? ⟨g14, 10, none⟩ = some (.int .u64 px) ∧ W'.cell? ⟨g14, 11, none⟩ = some (.int .u64 py)) ∧ Below Wf.heap.size Wf W') (by kernel_rfl) (by kernel_rfl) (hS.out _ ((Below.refl _ _).drew)) (fun OPS D QQ HO hD hD2 hQQ => ?_)
  have hgo6 : Hid ((OPS[6]?).bind (·.dst) = some 45) := by show _ = _; rw [HO.out]; rfl
  have hgo15 : Hid ((OPS[15]?).bind (·.dst) = some 54) := by show _ = _; rw [HO.out]; rfl
  have hgo22 : Hid ((OPS[22]?).bind (·.dst) = some 61) := by show _ = _; rw [HO.out]; rfl
  have hgo28 : Hid ((OPS[28]?).bind (·.dst) = some 67) := by show _ = _; rw [HO.out]; rfl
  have hgo33 : Hid ((OPS[33]?).bind (·.dst) = some 72) := by show _ = _; rw [HO.out]; rfl
  have hgo38 : Hid ((OPS[38]?).bind (·.dst) = some 77) := by show _ = _; rw [HO.out]; rfl
  have hgo44 : Hid ((OPS[44]?).bind (·.dst) = some 83) := by show _ = _; rw [HO.out]; rfl
  clear HO
  have HD := Lib.hid hD
  have HD2 := Lib.hid hD2
  have HQQ := Lib.hid hQQ
  clear hD hD2 hQQ
  refine wpC_read (v := ?_) rfl (fun W hW => ?_) ?_
  rotate_left
  · replace hW := HD.out W hW
    obtain ⟨⟨a0, a1, a2, a3, a4, a5, a6, a7, a8, a9, a10, a11⟩, ⟨b0, b1, b2, b3, b4, b5, b6, b7, b8, b9, b10, b11⟩, ⟨x0, x1, x2, x3, x4, x5, x6, x7, x8, x9, x10, x11⟩, ⟨y0, y1, y2, y3, y4, y5, y6, y7, y8, y9, y10, y11⟩, hcW⟩ := hW
    go_simp; try (with_reducible rfl)
  try simp only [Act.put, List.setIfInBounds_toArray, List.set_cons_zero, List.set_cons_succ]
  refine wpC_read (v := .int .i64 E) rfl (fun W hW => ?_) ?_
  · replace hW := HD.out W hW
    obtain ⟨⟨a0, a1, a2, a3, a4, a5, a6, a7, a8, a9, a10, a11⟩, ⟨b0, b1, b2, b3, b4, b5, b6, b7, b8, b9, b10, b11⟩, ⟨x0, x1, x2, x3, x4, x5, x6, x7, x8, x9, x10, x11⟩, ⟨y0, y1, y2, y3, y4, y5, y6, y7, y8, y9, y10, y11⟩, hcW⟩ := hW
    go_simp
    refine (HCK.out _ (HBf.out.trans (hcW.mono HBf.out.size))).mono ?_
    rintro e w4 ⟨rfl, hbn⟩
    exact ⟨rfl, HD2.out _ (hS.out _ (below_step hcW hbn))⟩
  try simp only [Act.put, List.setIfInBounds_toArray, List.set_cons_zero, List.set_cons_succ]
  refine wpC_read (v := .int .i64 E) rfl (fun W hW => ?_) ?_
  · replace hW := HD.out W hW
    obtain ⟨⟨a0, a1, a2, a3, a4, a5, a6, a7, a8, a9, a10, a11⟩, ⟨b0, b1, b2, b3, b4, b5, b6, b7, b8, b9, b10, b11⟩, ⟨x0, x1, x2, x3, x4, x5, x6, x7, x8, x9, x10, x11⟩, ⟨y0, y1, y2, y3, y4, y5, y6, y7, y8, y9, y10, y11⟩, hcW⟩ := hW
    go_simp
    refine (num19_any E _).mono ?_
    rintro e w4 ⟨rfl, hw⟩
    exact ⟨rfl, HD2.out _ (hS.out _ (by rw [hw]; exact hcW))⟩
  try simp only [Act.put, List.setIfInBounds_toArray, List.set_cons_zero, List.set_cons_succ]
  refine wpC_read (v := ?_) rfl (fun W hW => ?_) ?_
  rotate_left
  · replace hW := HD.out W hW
    obtain ⟨⟨a0, a1, a2, a3, a4, a5, a6, a7, a8, a9, a10, a11⟩, ⟨b0, b1, b2, b3, b4, b5, b6, b7, b8, b9, b10, b11⟩, ⟨x0, x1, x2, x3, x4, x5, x6, x7, x8, x9, x10, x11⟩, ⟨y0, y1, y2, y3, y4, y5, y6, y7, y8, y9, y10, y11⟩, hcW⟩ := hW
    go_simp; try (with_reducible rfl)
  try simp only [Act.put, List.setIfInBounds_toArray, List.set_cons_zero, List.set_cons_succ]
  refine wpC_read (v := .int .i64 E) rfl (fun W hW => ?_) ?_
  · replace hW := HD.out W hW
    obtain ⟨⟨a0, a1, a2, a3, a4, a5, a6, a7, a8, a9, a10, a11⟩, ⟨b0, b1, b2, b3, b4, b5, b6, b7, b8, b9, b10, b11⟩, ⟨x0, x1, x2, x3, x4, x5, x6, x7, x8, x9, x10, x11⟩, ⟨y0, y1, y2, y3, y4, y5, y6, y7, y8, y9, y10, y11⟩, hcW⟩ := hW
    go_simp
    refine (HPCK.out _ (HBf.out.trans (hcW.mono HBf.out.size))).mono ?_
    rintro e w4 ⟨rfl, hbn⟩
    exact ⟨rfl, HD2.out _ (hS.out _ (below_step hcW hbn))⟩
  try simp only [Act.put, List.setIfInBounds_toArray, List.set_cons_zero, List.set_cons_succ]
  refine wpC_read (v := ?_) rfl (fun W hW => ?_) ?_
  rotate_left
  · clear hW; go_simp; try (with_reducible rfl)
  try simp only [Act.put, List.setIfInBounds_toArray, List.set_cons_zero, List.set_cons_succ]
  refine wpC_read (v := ?_) rfl (fun W hW => ?_) ?_
  rotate_left
  · clear hW; go_simp; try (with_reducible rfl)
  try simp only [Act.put, List.setIfInBounds_toArray, List.set_cons_zero, List.set_cons_succ]
  refine wpC_gread (v := ?_) rfl hgo6.out rfl (fun W hW => ?_) ?_
  rotate_left
  · replace hW := HD.out W hW
    obtain ⟨⟨a0, a1, a2, a3, a4, a5, a6, a7, a8, a9, a10, a11⟩, ⟨b0, b1, b2, b3, b4, b5, b6, b7, b8, b9, b10, b11⟩, ⟨x0, x1, x2, x3, x4, x5, x6, x7, x8, x9, x10, x11⟩, ⟨y0, y1, y2, y3, y4, y5, y6, y7, y8, y9, y10, y11⟩, hcW⟩ := hW
    go_simp; try (with_reducible rfl)
  try simp only [Act.put, List.setIfInBounds_toArray, List.set_cons_zero, List.set_cons_succ]
  refine wpC_gread (v := ?_) rfl hgo6.out rfl (fun W hW => ?_) ?_
  rotate_left
  · replace hW := HD.out W hW
    obtain ⟨⟨a0, a1, a2, a3, a4, a5, a6, a7, a8, a9, a10, a11⟩, ⟨b0, b1, b2, b3, b4, b5, b6, b7, b8, b9, b10, b11⟩, ⟨x0, x1, x2, x3, x4, x5, x6, x7, x8, x9, x10, x11⟩, ⟨y0, y1, y2, y3, y4, y5, y6, y7, y8, y9, y10, y11⟩, hcW⟩ := hW
    go_simp; try (with_reducible rfl)
  try simp only [Act.put, List.setIfInBounds_toArray, List.set_cons_zero, List.set_cons_succ]
  refine wpC_gread (v := .bool SB) rfl hgo6.out rfl (fun W hW => ?_) ?_
  · replace hW := HD.out W hW
    obtain ⟨⟨a0, a1, a2, a3, a4, a5, a6, a7, a8, a9, a10, a11⟩, ⟨b0, b1, b2, b3, b4, b5, b6, b7, b8, b9, b10, b11⟩, ⟨x0, x1, x2, x3, x4, x5, x6, x7, x8, x9, x10, x11⟩, ⟨y0, y1, y2, y3, y4, y5, y6, y7, y8, y9, y10, y11⟩, hcW⟩ := hW
    go_simp
    refine (HSM.out _ (HBf.out.trans (hcW.mono HBf.out.size))).mono ?_
    rintro e w4 ⟨rfl, hbn⟩
    exact ⟨rfl, HD2.out _ (hS.out _ (below_step hcW hbn))⟩
  try simp only [Act.put, List.setIfInBounds_toArray, List.set_cons_zero, List.set_cons_succ]
  refine wpC_gread (v := ?_) rfl hgo6.out rfl (fun W hW => ?_) ?_
  rotate_left
  · replace hW := HD.out W hW
    obtain ⟨⟨a0, a1, a2, a3, a4, a5, a6, a7, a8, a9, a10, a11⟩, ⟨b0, b1, b2, b3, b4, b5, b6, b7, b8, b9, b10, b11⟩, ⟨x0, x1, x2, x3, x4, x5, x6, x7, x8, x9, x10, x11⟩, ⟨y0, y1, y2, y3, y4, y5, y6, y7, y8, y9, y10, y11⟩, hcW⟩ := hW
    go_simp; try (with_reducible rfl)
  try simp only [Act.put, List.setIfInBounds_toArray, List.set_cons_zero, List.set_cons_succ]
  refine wpC_gread (v := ?_) rfl hgo6.out rfl (fun W hW => ?_) ?_
  rotate_left
  · replace hW := HD.out W hW
    obtain ⟨⟨a0, a1, a2, a3, a4, a5, a6, a7, a8, a9, a10, a11⟩, ⟨b0, b1, b2, b3, b4, b5, b6, b7, b8, b9, b10, b11⟩, ⟨x0, x1, x2, x3, x4, x5, x6, x7, x8, x9, x10, x11⟩, ⟨y0, y1, y2, y3, y4, y5, y6, y7, y8, y9, y10, y11⟩, hcW⟩ := hW
    go_simp; try (with_reducible rfl)
  try simp only [Act.put, List.setIfInBounds_toArray, List.set_cons_zero, List.set_cons_succ]
  refine wpC_gread (v := .bool SB) rfl hgo6.out rfl (fun W hW => ?_) ?_
  · replace hW := HD.out W hW
    obtain ⟨⟨a0, a1, a2, a3, a4, a5, a6, a7, a8, a9, a10, a11⟩, ⟨b0, b1, b2, b3, b4, b5, b6, b7, b8, b9, b10, b11⟩, ⟨x0, x1, x2, x3, x4, x5, x6, x7, x8, x9, x10, x11⟩, ⟨y0, y1, y2, y3, y4, y5, y6, y7, y8, y9, y10, y11⟩, hcW⟩ := hW
    go_simp
    refine (HRSM.out _ (HBf.out.trans (hcW.mono HBf.out.size))).mono ?_
    rintro e w4 ⟨rfl, hbn⟩
    exact ⟨rfl, HD2.out _ (hS.out _ (below_step hcW hbn))⟩
  try simp only [Act.put, List.setIfInBounds_toArray, List.set_cons_zero, List.set_cons_succ]
  refine wpC_gread (v := ?_) rfl hgo6.out rfl (fun W hW => ?_) ?_
  rotate_left
  · clear hW; go_simp; try (with_reducible rfl)
  try simp only [Act.put, List.setIfInBounds_toArray, List.set_cons_zero, List.set_cons_succ]
  refine wpC_read (v := ?_) rfl (fun W hW => ?_) ?_
  rotate_left
  · clear hW; go_simp; try (with_reducible rfl)
  try simp only [Act.put, List.setIfInBounds_toArray, List.set_cons_zero, List.set_cons_succ]
  refine wpC_read (v := ?_) rfl (fun W hW => ?_) ?_
  rotate_left
  · clear hW; go_simp; try (with_reducible rfl)
  try simp only [Act.put, List.setIfInBounds_toArray, List.set_cons_zero, List.set_cons_succ]
  refine wpC_gread (v := ?_) rfl hgo15.out rfl (fun W hW => ?_) ?_
  rotate_left
  · clear hW; go_simp; try (with_reducible rfl)
  try simp only [Act.put, List.setIfInBounds_toArray, List.set_cons_zero, List.set_cons_succ]
  refine wpC_gread (v := ?_) rfl hgo15.out rfl (fun W hW => ?_) ?_
  rotate_left
  · replace hW := HD.out W hW
    obtain ⟨⟨a0, a1, a2, a3, a4, a5, a6, a7, a8, a9, a10, a11⟩, ⟨b0, b1, b2, b3, b4, b5, b6, b7, b8, b9, b10, b11⟩, ⟨x0, x1, x2, x3, x4, x5, x6, x7, x8, x9, x10, x11⟩, ⟨y0, y1, y2, y3, y4, y5, y6, y7, y8, y9, y10, y11⟩, hcW⟩ := hW
    have hst := str_of (P := Try.prog) (c := cx) (HX.out W hcW) HXL.out Try.underlying28 Try.underlying5 Try.underlying9
    go_simp; try (with_reducible rfl)
  try simp only [Act.put, List.setIfInBounds_toArray, List.set_cons_zero, List.set_cons_succ]
  refine wpC_gread (v := ?_) rfl hgo15.out rfl (fun W hW => ?_) ?_
  rotate_left
  · clear hW; go_simp; try (with_reducible rfl)
  try simp only [Act.put, List.setIfInBounds_toArray, List.set_cons_zero, List.set_cons_succ]
  refine wpC_gread (v := ?_) rfl hgo15.out rfl (fun W hW => ?_) ?_
  rotate_left
  · replace hW := HD.out W hW
    obtain ⟨⟨a0, a1, a2, a3, a4, a5, a6, a7, a8, a9, a10, a11⟩, ⟨b0, b1, b2, b3, b4, b5, b6, b7, b8, b9, b10, b11⟩, ⟨x0, x1, x2, x3, x4, x5, x6, x7, x8, x9, x10, x11⟩, ⟨y0, y1, y2, y3, y4, y5, y6, y7, y8, y9, y10, y11⟩, hcW⟩ := hW
    have hst := str_of (P := Try.prog) (c := cy) (HY.out W hcW) HXL.out Try.underlying28 Try.underlying5 Try.underlying9
    go_simp; try (with_reducible rfl)
  try simp only [Act.put, List.setIfInBounds_toArray, List.set_cons_zero, List.set_cons_succ]
  refine wpC_gread (v := ?_) rfl hgo15.out rfl (fun W hW => ?_) ?_
  rotate_left
  · clear hW; go_simp; try (with_reducible rfl)
  try simp only [Act.put, List.setIfInBounds_toArray, List.set_cons_zero, List.set_cons_succ]
  refine wpC_read (v := ?_) rfl (fun W hW => ?_) ?_
  rotate_left
  · clear hW; go_simp; try (with_reducible rfl)
  try simp only [Act.put, List.setIfInBounds_toArray, List.set_cons_zero, List.set_cons_succ]
  refine wpC_read (v := ?_) rfl (fun W hW => ?_) ?_
  rotate_left
  · clear hW; go_simp; try (with_reducible rfl)
  try simp only [Act.put, List.setIfInBounds_toArray, List.set_cons_zero, List.set_cons_succ]
  refine wpC_gread (v := ?_) rfl hgo22.out rfl (fun W hW => ?_) ?_
  rotate_left
  · clear hW; go_simp; try (with_reducible rfl)
  try simp only [Act.put, List.setIfInBounds_toArray, List.set_cons_zero, List.set_cons_succ]
  refine wpC_gread (v := .int .i64 E) rfl hgo22.out rfl (fun W hW => ?_) ?_
  · replace hW := HD.out W hW
    obtain ⟨⟨a0, a1, a2, a3, a4, a5, a6, a7, a8, a9, a10, a11⟩, ⟨b0, b1, b2, b3, b4, b5, b6, b7, b8, b9, b10, b11⟩, ⟨x0, x1, x2, x3, x4, x5, x6, x7, x8, x9, x10, x11⟩, ⟨y0, y1, y2, y3, y4, y5, y6, y7, y8, y9, y10, y11⟩, hcW⟩ := hW
    go_simp
    refine (num19_any E _).mono ?_
    rintro e w4 ⟨rfl, hw⟩
    exact ⟨rfl, HD2.out _ (hS.out _ (by rw [hw]; exact hcW))⟩
  try simp only [Act.put, List.setIfInBounds_toArray, List.set_cons_zero, List.set_cons_succ]
  refine wpC_gread (v := ?_) rfl hgo22.out rfl (fun W hW => ?_) ?_
  rotate_left
  · clear hW; go_simp; try (with_reducible rfl)
  try simp only [Act.put, List.setIfInBounds_toArray, List.set_cons_zero, List.set_cons_succ]
  refine wpC_gread (v := ?_) rfl hgo22.out rfl (fun W hW => ?_) ?_
  rotate_left
  · clear hW; go_simp; try (with_reducible rfl)
  try simp only [Act.put, List.setIfInBounds_toArray, List.set_cons_zero, List.set_cons_succ]
  refine wpC_read (v := ?_) rfl (fun W hW => ?_) ?_
  rotate_left
  · clear hW; go_simp; try (with_reducible rfl)
  try simp only [Act.put, List.setIfInBounds_toArray, List.set_cons_zero, List.set_cons_succ]
  refine wpC_read (v := ?_) rfl (fun W hW => ?_) ?_
  rotate_left
  · clear hW; go_simp; try (with_reducible rfl)
  try simp only [Act.put, List.setIfInBounds_toArray, List.set_cons_zero, List.set_cons_succ]
  refine wpC_gread (v := ?_) rfl hgo28.out rfl (fun W hW => ?_) ?_
  rotate_left
  · replace hW := HD.out W hW
    obtain ⟨⟨a0, a1, a2, a3, a4, a5, a6, a7, a8, a9, a10, a11⟩, ⟨b0, b1, b2, b3, b4, b5, b6, b7, b8, b9, b10, b11⟩, ⟨x0, x1, x2, x3, x4, x5, x6, x7, x8, x9, x10, x11⟩, ⟨y0, y1, y2, y3, y4, y5, y6, y7, y8, y9, y10, y11⟩, hcW⟩ := hW
    go_simp; try (with_reducible rfl)
  try simp only [Act.put, List.setIfInBounds_toArray, List.set_cons_zero, List.set_cons_succ]
  refine wpC_gread (v := ?_) rfl hgo28.out rfl (fun W hW => ?_) ?_
  rotate_left
  · replace hW := HD.out W hW
    obtain ⟨⟨a0, a1, a2, a3, a4, a5, a6, a7, a8, a9, a10, a11⟩, ⟨b0, b1, b2, b3, b4, b5, b6, b7, b8, b9, b10, b11⟩, ⟨x0, x1, x2, x3, x4, x5, x6, x7, x8, x9, x10, x11⟩, ⟨y0, y1, y2, y3, y4, y5, y6, y7, y8, y9, y10, y11⟩, hcW⟩ := hW
    go_simp; try (with_reducible rfl)
  try simp only [Act.put, List.setIfInBounds_toArray, List.set_cons_zero, List.set_cons_succ]
  refine wpC_gread (v := .bool true) rfl hgo28.out rfl (fun W hW => ?_) ?_
  · replace hW := HD.out W hW
    obtain ⟨⟨a0, a1, a2, a3, a4, a5, a6, a7, a8, a9, a10, a11⟩, ⟨b0, b1, b2, b3, b4, b5, b6, b7, b8, b9, b10, b11⟩, ⟨x0, x1, x2, x3, x4, x5, x6, x7, x8, x9, x10, x11⟩, ⟨y0, y1, y2, y3, y4, y5, y6, y7, y8, y9, y10, y11⟩, hcW⟩ := hW
    go_simp
    refine (HPQ.out _ (HBf.out.trans (hcW.mono HBf.out.size)) hcW).mono ?_
    rintro e w4 ⟨rfl, hbn⟩
    exact ⟨rfl, HD2.out _ (hS.out _ (below_step hcW hbn))⟩
  try simp only [Act.put, List.setIfInBounds_toArray, List.set_cons_zero, List.set_cons_succ]
  refine wpC_read (v := ?_) rfl (fun W hW => ?_) ?_
  rotate_left
  · clear hW; go_simp; try (with_reducible rfl)
  try simp only [Act.put, List.setIfInBounds_toArray, List.set_cons_zero, List.set_cons_succ]
  refine wpC_read (v := ?_) rfl (fun W hW => ?_) ?_
  rotate_left
  · clear hW; go_simp; try (with_reducible rfl)
  try simp only [Act.put, List.setIfInBounds_toArray, List.set_cons_zero, List.set_cons_succ]
  refine wpC_gread (v := ?_) rfl hgo33.out rfl (fun W hW => ?_) ?_
  rotate_left
  · clear hW; go_simp; try (with_reducible rfl)
  try simp only [Act.put, List.setIfInBounds_toArray, List.set_cons_zero, List.set_cons_succ]
  refine wpC_gread (v := ?_) rfl hgo33.out rfl (fun W hW => ?_) ?_
  rotate_left
  · clear hW; go_simp; try (with_reducible rfl)
  try simp only [Act.put, List.setIfInBounds_toArray, List.set_cons_zero, List.set_cons_succ]
  refine wpC_gread (v := ?_) rfl hgo33.out rfl (fun W hW => ?_) ?_
  rotate_left
  · clear hW; go_simp; try (with_reducible rfl)
  try simp only [Act.put, List.setIfInBounds_toArray, List.set_cons_zero, List.set_cons_succ]
  refine wpC_read (v := ?_) rfl (fun W hW => ?_) ?_
  rotate_left
  · clear hW; go_simp; try (with_reducible rfl)
  try simp only [Act.put, List.setIfInBounds_toArray, List.set_cons_zero, List.set_cons_succ]
  refine wpC_read (v := ?_) rfl (fun W hW => ?_) ?_
  rotate_left
  · clear hW; go_simp; try (with_reducible rfl)
  try simp only [Act.put, List.setIfInBounds_toArray, List.set_cons_zero, List.set_cons_succ]
  refine wpC_gread (v := ?_) rfl hgo38.out rfl (fun W hW => ?_) ?_
  rotate_left
  · clear hW; go_simp; try (with_reducible rfl)
  try simp only [Act.put, List.setIfInBounds_toArray, List.set_cons_zero, List.set_cons_succ]
  refine wpC_gread (v := .int .i64 G) rfl hgo38.out rfl (fun W hW => ?_) ?_
  · replace hW := HD.out W hW
    obtain ⟨⟨a0, a1, a2, a3, a4, a5, a6, a7, a8, a9, a10, a11⟩, ⟨b0, b1, b2, b3, b4, b5, b6, b7, b8, b9, b10, b11⟩, ⟨x0, x1, x2, x3, x4, x5, x6, x7, x8, x9, x10, x11⟩, ⟨y0, y1, y2, y3, y4, y5, y6, y7, y8, y9, y10, y11⟩, hcW⟩ := hW
    go_simp
    refine (num19_any G _).mono ?_
    rintro e w4 ⟨rfl, hw⟩
    exact ⟨rfl, HD2.out _ (hS.out _ (by rw [hw]; exact hcW))⟩
  try simp only [Act.put, List.setIfInBounds_toArray, List.set_cons_zero, List.set_cons_succ]
  refine wpC_gread (v := ?_) rfl hgo38.out rfl (fun W hW => ?_) ?_
  rotate_left
  · clear hW; go_simp; try (with_reducible rfl)
  try simp only [Act.put, List.setIfInBounds_toArray, List.set_cons_zero, List.set_cons_succ]
  refine wpC_gread (v := ?_) rfl hgo38.out rfl (fun W hW => ?_) ?_
  rotate_left
  · clear hW; go_simp; try (with_reducible rfl)
  try simp only [Act.put, List.setIfInBounds_toArray, List.set_cons_zero, List.set_cons_succ]
  refine wpC_read (v := ?_) rfl (fun W hW => ?_) ?_
  rotate_left
  · clear hW; go_simp; try (with_reducible rfl)
  try simp only [Act.put, List.setIfInBounds_toArray, List.set_cons_zero, List.set_cons_succ]
  refine wpC_read (v := ?_) rfl (fun W hW => ?_) ?_
  rotate_left
  · clear hW; go_simp; try (with_reducible rfl)
  try simp only [Act.put, List.setIfInBounds_toArray, List.set_cons_zero, List.set_cons_succ]
  refine wpC_gread (v := .bool true) rfl hgo44.out rfl (fun W hW => ?_) ?_
  · replace hW := HD.out W hW
    obtain ⟨⟨a0, a1, a2, a3, a4, a5, a6, a7, a8, a9, a10, a11⟩, ⟨b0, b1, b2, b3, b4, b5, b6, b7, b8, b9, b10, b11⟩, ⟨x0, x1, x2, x3, x4, x5, x6, x7, x8, x9, x10, x11⟩, ⟨y0, y1, y2, y3, y4, y5, y6, y7, y8, y9, y10, y11⟩, hcW⟩ := hW
    go_simp
    refine (HAL.out _ (HBf.out.trans (hcW.mono HBf.out.size))).mono ?_
    rintro e w4 ⟨rfl, hbn⟩
    exact ⟨rfl, HD2.out _ (hS.out _ (below_step hcW hbn))⟩
  try simp only [Act.put, List.setIfInBounds_toArray, List.set_cons_zero, List.set_cons_succ]
  refine wpC_read (v := ?_) rfl (fun W hW => ?_) ?_
  rotate_left
  · clear hW; go_simp; try (with_reducible rfl)
  try simp only [Act.put, List.setIfInBounds_toArray, List.set_cons_zero, List.set_cons_succ]
  refine wpC_read (v := ?_) rfl (fun W hW => ?_) ?_
  rotate_left
  · clear hW; go_simp; try (with_reducible rfl)
  try simp only [Act.put, List.setIfInBounds_toArray, List.set_cons_zero, List.set_cons_succ]
  refine wpQuiet_nil (HQQ.out _ (fun W hW => ?_))
  obtain ⟨⟨a0, a1, a2, a3, a4, a5, a6, a7, a8, a9, a10, a11⟩, ⟨b0, b1, b2, b3, b4, b5, b6, b7, b8, b9, b10, b11⟩, ⟨x0, x1, x2, x3, x4, x5, x6, x7, x8, x9, x10, x11⟩, ⟨y0, y1, y2, y3, y4, y5, y6, y7, y8, y9, y10, y11⟩, hcW⟩ := hW
  go_wp2_with fail
  go_ret
  exact ⟨rfl, HBf.out.trans (hcW.mono HBf.out.size)⟩
end Go.Proofs.Ythfjfkjlgdnohaa
