/-
 The page's Same at tenants of one content: it answers true.
-/
import Derived.Test.YteafdncnnamakaaGreatDoorQ7
import Derived.Test.YteafdncnnamakaaGreatDoorQLd
import Derived.Test.YteafdncnnamakaaGreatDoorQ4
import Derived.Test.YteafdncnnamakaaGreatDoorOpen
import Derived.Test.YteafdncnnamakaaGreatDoorQ3
import Derived.Test.YteafdncnnamakaaGreatDoorQ1
namespace Go.Proofs.YteafdncnnamakaaGreatDoor
open Go.RowKit

/-- stages of one content -/
structure StageR.eqv (x y : StageR) : Prop where
 into : x.into = y.into
 kind : x.kind = y.kind
 nm : x.nm = y.nm
 frm : x.frm = y.frm
 gd : x.gd = y.gd
 own : x.own.l = y.own.l
 ix : x.ix = y.ix
 ct : x.ct = y.ct
 dt : x.dt = y.dt
 sm : x.sm = y.sm
 body : x.body.l = y.body.l
 at_ : x.at_ = y.at_
 nx : x.nx = y.nx
 sum : x.sum = y.sum
 done : x.done = y.done
theorem sameStageR_any (x y : StageR) (h : x.eqv y) (w : World) (B : Nat) (hB : B ≤ w.heap.size) (hx : x.rd w B) (hy : y.rd w B) (hz : x.sz) :
  Calls Tryz.prog 48 #[.agg #[.string ⟨x.into.toArray⟩, .int .i64 x.kind, .string ⟨x.nm.toArray⟩, .int .i64 x.frm, .int .i64 x.gd, .slice x.own.A x.own.n x.own.c, .int .i64 x.ix, .int .i64 x.ct, .string ⟨x.dt.toArray⟩, .int .u64 x.sm.a, .int .u64 x.sm.b, .int .u64 x.sm.c, .int .u64 x.sm.d, .slice x.body.A x.body.n x.body.c, .int .i64 x.at_, .int .i64 x.nx, .int .u64 x.sum.a, .int .u64 x.sum.b, .int .u64 x.sum.c, .int .u64 x.sum.d, .bool x.done], .agg #[.string ⟨y.into.toArray⟩, .int .i64 y.kind, .string ⟨y.nm.toArray⟩, .int .i64 y.frm, .int .i64 y.gd, .slice y.own.A y.own.n y.own.c, .int .i64 y.ix, .int .i64 y.ct, .string ⟨y.dt.toArray⟩, .int .u64 y.sm.a, .int .u64 y.sm.b, .int .u64 y.sm.c, .int .u64 y.sm.d, .slice y.body.A y.body.n y.body.c, .int .i64 y.at_, .int .i64 y.nx, .int .u64 y.sum.a, .int .u64 y.sum.b, .int .u64 y.sum.c, .int .u64 y.sum.d, .bool y.done]] w fun e w' => e = .returned (.bool true) ∧ Below w.heap.size w w' := by
 obtain ⟨h1, h2, h3, h4, h5, h6, h7, h8, h9, h10, h11, h12, h13, h14, h15⟩ := h
 obtain ⟨into, kind, nm, frm, gd, ⟨o1, on, o3, ol⟩, ix, ct, dt, ⟨sa, sb, sc, sd⟩, ⟨b1, bn, b3, bl⟩, at_, nx, ⟨ua, ub, uc, ud⟩, done⟩ := x
 obtain ⟨into', kind', nm', frm', gd', ⟨o1', on', o3', ol'⟩, ix', ct', dt', sm', ⟨b1', bn', b3', bl'⟩, at_', nx', sum', done'⟩ := y
 simp only at h1 h2 h3 h4 h5 h6 h7 h8 h9 h10 h11 h12 h13 h14 h15
 subst h1 h2 h3 h4 h5 h6 h7 h8 h9 h10 h11 h12 h13 h14 h15
 have e1 : bn' = bn := hy.body.1.trans hx.body.1.symm
 have e3 : on' = on := hy.own.1.trans hx.own.1.symm
 subst e1 e3
 exact sameStageT_any into kind nm frm gd ol o1 o1' on' o3 o3' ix ct dt sa sb sc sd bl b1 b1' bn' b3 b3' at_ nx ua ub uc ud done w B hB hx.own.1 hx.own.2.2 hy.own.2.2 hz.own hx.body.1 hx.body.2.2 hy.body.2.2 hz.body
set_option maxRecDepth 100000 in
set_option maxHeartbeats 8000000 in
theorem sameTenT_any (nm : BS) (quota next : Int) (sl sl' : List SetR) (gl : GL) (tl tl' : List StageR) (ll : List EntryR) (s1 s1' : Option Addr) (sn s3 s3' : Nat) (g1 g1' : Option Addr) (gn g3 g3' : Nat) (t1 t1' : Option Addr) (tn t3 t3' : Nat) (l1 l1' : Option Addr) (ln l3 l3' : Nat) (w : World) (B : Nat) (hB : B ≤ w.heap.size)
  (hx : TenR.rd w B ⟨nm, quota, next, ⟨s1, sn, s3, sl⟩, ⟨g1, gn, g3, gl⟩, ⟨t1, tn, t3, tl⟩, ⟨l1, ln, l3, ll⟩⟩) (hy : TenR.rd w B ⟨nm, quota, next, ⟨s1', sn, s3', sl'⟩, ⟨g1', gn, g3', gl⟩, ⟨t1', tn, t3', tl'⟩, ⟨l1', ln, l3', ll⟩⟩) (hz : TenR.sz ⟨nm, quota, next, ⟨s1, sn, s3, sl⟩, ⟨g1, gn, g3, gl⟩, ⟨t1, tn, t3, tl⟩, ⟨l1, ln, l3, ll⟩⟩)
  (heS : ∀ i (h : i < sl.length) (h' : i < sl'.length), (sl[i]'h).eqv (sl'[i]'h')) (heT : ∀ i (h : i < tl.length) (h' : i < tl'.length), (tl[i]'h).eqv (tl'[i]'h')) :
  Calls Tryz.prog 13 #[.agg #[.string ⟨nm.toArray⟩, .int .i64 quota, .int .i64 next, .slice s1 sn s3, .slice g1 gn g3, .slice t1 tn t3, .slice l1 ln l3], .agg #[.string ⟨nm.toArray⟩, .int .i64 quota, .int .i64 next, .slice s1' sn s3', .slice g1' gn g3', .slice t1' tn t3', .slice l1' ln l3']] w fun e w' => e = .returned (.bool true) ∧ Below w.heap.size w w' := by
 have hb1 := (Below.refl w.heap.size w).alloc (Nat.le_refl _) (.cells #[.string ⟨nm.toArray⟩, .int .i64 quota, .int .i64 next, .slice s1 sn s3, .slice g1 gn g3, .slice t1 tn t3, .slice l1 ln l3] 27)
 have hb2 := hb1.alloc hb1.size (.cells #[.string ⟨nm.toArray⟩, .int .i64 quota, .int .i64 next, .slice s1' sn s3', .slice g1' gn g3', .slice t1' tn t3', .slice l1' ln l3'] 27)
 have k1 := (Blk.new w 27 #[.string ⟨nm.toArray⟩, .int .i64 quota, .int .i64 next, .slice s1 sn s3, .slice g1 gn g3, .slice t1 tn t3, .slice l1 ln l3]).alloc (.cells #[.string ⟨nm.toArray⟩, .int .i64 quota, .int .i64 next, .slice s1' sn s3', .slice g1' gn g3', .slice t1' tn t3', .slice l1' ln l3'] 27)
 have k2 := Blk.new (w.alloc (.cells #[.string ⟨nm.toArray⟩, .int .i64 quota, .int .i64 next, .slice s1 sn s3, .slice g1 gn g3, .slice t1 tn t3, .slice l1 ln l3] 27)) 27 #[.string ⟨nm.toArray⟩, .int .i64 quota, .int .i64 next, .slice s1' sn s3', .slice g1' gn g3', .slice t1' tn t3', .slice l1' ln l3']
 rw [show (w.alloc (.cells #[.string ⟨nm.toArray⟩, .int .i64 quota, .int .i64 next, .slice s1 sn s3, .slice g1 gn g3, .slice t1 tn t3, .slice l1 ln l3] 27)).heap.size = w.heap.size + 1 by simp] at k2
 obtain ⟨W2, hW2⟩ : ∃ W, W = (w.alloc (.cells #[.string ⟨nm.toArray⟩, .int .i64 quota, .int .i64 next, .slice s1 sn s3, .slice g1 gn g3, .slice t1 tn t3, .slice l1 ln l3] 27)).alloc (.cells #[.string ⟨nm.toArray⟩, .int .i64 quota, .int .i64 next, .slice s1' sn s3', .slice g1' gn g3', .slice t1' tn t3', .slice l1' ln l3'] 27) := ⟨_, rfl⟩
 have hsz : W2.heap.size = w.heap.size + 2 := by rw [hW2]; simp
 rw [← hW2] at hb2 k1 k2
 have hS := Lib.hid (fun (W' : World) (hB' : Below W2.heap.size W2 W') => (⟨(k1.below hB' (by omega)).cell 0, (k1.below hB' (by omega)).cell 1, (k1.below hB' (by omega)).cell 2, (k1.below hB' (by omega)).cell 3, (k1.below hB' (by omega)).cell 4, (k1.below hB' (by omega)).cell 5, (k1.below hB' (by omega)).cell 6, (k2.below hB' (by omega)).cell 0, (k2.below hB' (by omega)).cell 1, (k2.below hB' (by omega)).cell 2, (k2.below hB' (by omega)).cell 3, (k2.below hB' (by omega)).cell 4, (k2.below hB' (by omega)).cell 5, (k2.below hB' (by omega)).cell 6⟩ : W'.cell? ⟨w.heap.size, 0, none⟩ = some (.string ⟨nm.toArray⟩) ∧ W'.cell? ⟨w.heap.size, 1, none⟩ = some (.int .i64 quota) ∧ W'.cell? ⟨w.heap.size, 2, none⟩ = some (.int .i64 next) ∧ W'.cell? ⟨w.heap.size, 3, none⟩ = some (.slice s1 sn s3) ∧ W'.cell? ⟨w.heap.size, 4, none⟩ = some (.slice g1 gn g3) ∧ W'.cell? ⟨w.heap.size, 5, none⟩ = some (.slice t1 tn t3) ∧ W'.cell? ⟨w.heap.size, 6, none⟩ = some (.slice l1 ln l3) ∧ W'.cell? ⟨w.heap.size + 1, 0, none⟩ = some (.string ⟨nm.toArray⟩) ∧ W'.cell? ⟨w.heap.size + 1, 1, none⟩ = some (.int .i64 quota) ∧ W'.cell? ⟨w.heap.size + 1, 2, none⟩ = some (.int .i64 next) ∧ W'.cell? ⟨w.heap.size + 1, 3, none⟩ = some (.slice s1' sn s3') ∧ W'.cell? ⟨w.heap.size + 1, 4, none⟩ = some (.slice g1' gn g3') ∧ W'.cell? ⟨w.heap.size + 1, 5, none⟩ = some (.slice t1' tn t3') ∧ W'.cell? ⟨w.heap.size + 1, 6, none⟩ = some (.slice l1' ln l3')))
 have HSZ := Lib.hid hsz
 have HB2 := Lib.hid hb2
 have hmv : ∀ W', Below W2.heap.size W2 W' → Below B w W' := fun W' hB' => (hb2.trans (hB'.mono (by omega))).mono hB
 have hGr : Hid (∀ W, Below W2.heap.size W2 W → Calls Tryz.prog 45 #[.slice g1 gn g3, .slice g1' gn g3'] W fun e W' => e = .returned (.bool true) ∧ Below W.heap.size W W') := fun W h => sameGT_any gl gn hx.grants.1 g1 g1' g3 g3' W B (hx.grants.2.2.below (hmv W h)) (hy.grants.2.2.below (hmv W h)) hz.grants
 have hLg : Hid (∀ W, Below W2.heap.size W2 W → Calls Tryz.prog 46 #[.slice l1 ln l3, .slice l1' ln l3'] W fun e W' => e = .returned (.bool true) ∧ Below W.heap.size W W') := fun W h => sameLogT_any ll ln hx.log.1 l1 l1' l3 l3' W B (hx.log.2.2.below (hmv W h)) (hy.log.2.2.below (hmv W h)) hz.log
 have hTs : Hid (∀ W, Below W2.heap.size W2 W → Reads W B 5 s1 sn (cellsK encSet sl) ∧ Reads W B 5 s1' sn (cellsK encSet sl') ∧ B ≤ W.heap.size ∧ (∀ y ∈ sl, y.rd W B) ∧ ∀ y ∈ sl', y.rd W B) := fun W h => ⟨(hx.below (hmv W h)).sets.2.2, (hy.below (hmv W h)).sets.2.2, by have := h.size; omega, (hx.below (hmv W h)).eachS, (hy.below (hmv W h)).eachS⟩
 have hTt : Hid (∀ W, Below W2.heap.size W2 W → Reads W B 21 t1 tn (cellsK encStage tl) ∧ Reads W B 21 t1' tn (cellsK encStage tl') ∧ B ≤ W.heap.size ∧ (∀ y ∈ tl, y.rd W B) ∧ ∀ y ∈ tl', y.rd W B) := fun W h => ⟨(hx.below (hmv W h)).stages.2.2, (hy.below (hmv W h)).stages.2.2, by have := h.size; omega, (hx.below (hmv W h)).eachG, (hy.below (hmv W h)).eachG⟩
 have HSN := Lib.hid (show sn = sl.length from hx.sets.1)
 have HSN' := Lib.hid (show sn = sl'.length from hy.sets.1)
 have HTN := Lib.hid (show tn = tl.length from hx.stages.1)
 have HTN' := Lib.hid (show tn = tl'.length from hy.stages.1)
 have HEQS := Lib.hid heS
 have HEQT := Lib.hid heT
 have HZS := Lib.hid (show ∀ y ∈ sl, y.sz from hz.eachS)
 have HZT := Lib.hid (show ∀ y ∈ tl, y.sz from hz.eachT)
 have hsm : sn ≤ 1000000000000 := hz.sets
 have htm : tn ≤ 1000000000000 := hz.stages
 clear hb1 hb2 k1 k2 hsz hmv hx hy hz heS heT
 have hW0 := Below.refl W2.heap.size W2
 go_enter Tryz.func13, Tryz.ntmps13
 go_wp2_with fail
 rw [← hW2]
 clear hW2
 refine (hGr.out _ hW0).mono ?_
 rintro e w3 ⟨rfl, hb3⟩
 have hW3 := hW0.trans (hb3.mono hW0.size)
 clear hb3 hGr
 obtain ⟨p0, p1, p2, p3, p4, p5, p6, q0, q1, q2, q3, q4, q5, q6⟩ := hS.out _ hW3
 go_wp2_with fail
 refine (hLg.out _ hW3).mono ?_
 rintro e w4 ⟨rfl, hb4⟩
 have hW4 := hW3.trans (hb4.mono hW3.size)
 clear hb4 hLg p0 p1 p2 p3 p4 p5 p6 q0 q1 q2 q3 q4 q5 q6
 obtain ⟨p0, p1, p2, p3, p4, p5, p6, q0, q1, q2, q3, q4, q5, q6⟩ := hS.out _ hW4
 go_wp2_with fail
 clear p0 p1 p2 p3 p4 p5 p6 q0 q1 q2 q3 q4 q5 q6
 go_loopw [5] (fun j wr => ∃ k : Nat, k ≤ sn ∧ j = .int .i64 (k : Int) ∧ Below W2.heap.size W2 wr) (fun j _ => sn - (intOf j).toNat)
 case atStart => exact ⟨0, Nat.zero_le _, rfl, hW4⟩
 case round =>
  clear hW4 hW3 hW0
  obtain ⟨k, hk, rfl, hWr⟩ := hrel
  obtain ⟨p0, p1, p2, p3, p4, p5, p6, q0, q1, q2, q3, q4, q5, q6⟩ := hS.out _ hWr
  by_cases hlt : k < sn
  ·have hki : (k : Int) < (sn : Int) := by omega
   obtain ⟨r1, r2, -⟩ := hTs.out _ hWr
   obtain ⟨ad, rfl, -⟩ := set_at r1 HSN.out hlt
   obtain ⟨ad2, rfl, -⟩ := set_at r2 HSN'.out hlt
   have hkl : k < sl.length := by have := HSN.out; omega
   have hkl' : k < sl'.length := by have := HSN'.out; omega
   have hev := HEQS.out k hkl hkl'
   have hxm : sl[k]'hkl ∈ sl := List.getElem_mem _
   have hym : sl'[k]'hkl' ∈ sl' := List.getElem_mem _
   have hX : Hid (∀ W, Below W2.heap.size W2 W → (W.cell? (ad.add (k * 5)) = some (.string ⟨(sl[k]'hkl).path.toArray⟩) ∧ W.cell? ⟨(ad.add (k * 5)).block, (ad.add (k * 5)).off + 1, none⟩ = some (.string ⟨(sl[k]'hkl).org.toArray⟩) ∧ W.cell? ⟨(ad.add (k * 5)).block, (ad.add (k * 5)).off + 2, none⟩ = some (.slice (sl[k]'hkl).body.A (sl[k]'hkl).body.n (sl[k]'hkl).body.c) ∧ W.cell? ⟨(ad.add (k * 5)).block, (ad.add (k * 5)).off + 3, none⟩ = some (.slice (sl[k]'hkl).snaps.A (sl[k]'hkl).snaps.n (sl[k]'hkl).snaps.c) ∧ W.cell? ⟨(ad.add (k * 5)).block, (ad.add (k * 5)).off + 4, none⟩ = some (.slice (sl[k]'hkl).own.A (sl[k]'hkl).own.n (sl[k]'hkl).own.c)) ∧ (W.cell? (ad2.add (k * 5)) = some (.string ⟨(sl'[k]'hkl').path.toArray⟩) ∧ W.cell? ⟨(ad2.add (k * 5)).block, (ad2.add (k * 5)).off + 1, none⟩ = some (.string ⟨(sl'[k]'hkl').org.toArray⟩) ∧ W.cell? ⟨(ad2.add (k * 5)).block, (ad2.add (k * 5)).off + 2, none⟩ = some (.slice (sl'[k]'hkl').body.A (sl'[k]'hkl').body.n (sl'[k]'hkl').body.c) ∧ W.cell? ⟨(ad2.add (k * 5)).block, (ad2.add (k * 5)).off + 3, none⟩ = some (.slice (sl'[k]'hkl').snaps.A (sl'[k]'hkl').snaps.n (sl'[k]'hkl').snaps.c) ∧ W.cell? ⟨(ad2.add (k * 5)).block, (ad2.add (k * 5)).off + 4, none⟩ = some (.slice (sl'[k]'hkl').own.A (sl'[k]'hkl').own.n (sl'[k]'hkl').own.c))) := by
    show ∀ W, _ → _
    intro W hb
    obtain ⟨u1, u2, -⟩ := hTs.out _ hb
    obtain ⟨ad3, e3, -, c⟩ := set_at u1 HSN.out hlt
    obtain ⟨ad4, e4, -, d⟩ := set_at u2 HSN'.out hlt
    injection e3 with e3
    injection e4 with e4
    subst e3 e4
    exact ⟨c, d⟩
   have hSS : Hid (∀ W, Below W2.heap.size W2 W → Calls Tryz.prog 47 #[.agg #[.string ⟨(sl[k]'hkl).path.toArray⟩, .string ⟨(sl[k]'hkl).org.toArray⟩, .slice (sl[k]'hkl).body.A (sl[k]'hkl).body.n (sl[k]'hkl).body.c, .slice (sl[k]'hkl).snaps.A (sl[k]'hkl).snaps.n (sl[k]'hkl).snaps.c, .slice (sl[k]'hkl).own.A (sl[k]'hkl).own.n (sl[k]'hkl).own.c], .agg #[.string ⟨(sl'[k]'hkl').path.toArray⟩, .string ⟨(sl'[k]'hkl').org.toArray⟩, .slice (sl'[k]'hkl').body.A (sl'[k]'hkl').body.n (sl'[k]'hkl').body.c, .slice (sl'[k]'hkl').snaps.A (sl'[k]'hkl').snaps.n (sl'[k]'hkl').snaps.c, .slice (sl'[k]'hkl').own.A (sl'[k]'hkl').own.n (sl'[k]'hkl').own.c]] W fun e W' => e = .returned (.bool true) ∧ Below W.heap.size W W') := fun W hb => by
    obtain ⟨-, -, u3, u4, u5⟩ := hTs.out _ hb
    exact sameSetR_any _ _ hev W B u3 (u4 _ hxm) (u5 _ hym) (HZS.out _ hxm)
   obtain ⟨x, hx⟩ : ∃ x, x = sl[k]'hkl := ⟨_, rfl⟩
   obtain ⟨y, hy⟩ : ∃ y, y = sl'[k]'hkl' := ⟨_, rfl⟩
   rw [← hx, ← hy] at hX hSS
   obtain ⟨xa, xb, ⟨f1, f2, f3, fl⟩, ⟨h1, h2, h3, hl⟩, ⟨u1, u2, u3, ul⟩⟩ := x
   obtain ⟨ya, yb, ⟨f1', f2', f3', fl'⟩, ⟨h1', h2', h3', hl'⟩, ⟨u1', u2', u3', ul'⟩⟩ := y
   simp only at hX hSS
   clear hx hy hev hxm hym r1 r2 hTs HEQS HZS
   go_wp2_with fail
   clear p0 p1 p2 p3 p4 p5 p6 q0 q1 q2 q3 q4 q5 q6
   refine wpC_region (fun W' => Below W2.heap.size W2 W') (by kernel_rfl) (by kernel_rfl) (hWr.drew) (fun OPS D QQ HO hD hD2 hQQ => ?_)
   clear HO
   have HD := Lib.hid hD
   have HD2 := Lib.hid hD2
   have HQQ := Lib.hid hQQ
   clear hD hD2 hQQ
   refine wpC_readS (v := ?_) rfl rfl (fun W hW => ?_) ?_
   rotate_left
   ·clear hW; go_simp; try (with_reducible rfl)
   dsimp only [List.set_cons_zero, List.set_cons_succ]
   refine wpC_readS (v := ?_) rfl rfl (fun W hW => ?_) ?_
   rotate_left
   ·replace hW := HD.out W hW
    skip
    obtain ⟨-, -, -, p3, -⟩ := hS.out _ hW
    go_simp; try (with_reducible rfl)
   dsimp only [List.set_cons_zero, List.set_cons_succ]
   refine wpC_readS (v := ?_) rfl rfl (fun W hW => ?_) ?_
   rotate_left
   ·clear hW; go_simp; try (with_reducible rfl)
   dsimp only [List.set_cons_zero, List.set_cons_succ]
   refine wpC_readS (v := ?_) rfl rfl (fun W hW => ?_) ?_
   rotate_left
   ·clear hW; go_simp; try (with_reducible rfl)
   dsimp only [List.set_cons_zero, List.set_cons_succ]
   refine wpC_readS (v := ?_) rfl rfl (fun W hW => ?_) ?_
   rotate_left
   ·replace hW := HD.out W hW
    skip
    obtain ⟨⟨c0, c1, c2, c3, c4⟩, -⟩ := hX.out W hW
    go_simp; try (with_reducible rfl)
   dsimp only [List.set_cons_zero, List.set_cons_succ]
   refine wpC_readS (v := ?_) rfl rfl (fun W hW => ?_) ?_
   rotate_left
   ·clear hW; go_simp; try (with_reducible rfl)
   dsimp only [List.set_cons_zero, List.set_cons_succ]
   refine wpC_readS (v := ?_) rfl rfl (fun W hW => ?_) ?_
   rotate_left
   ·replace hW := HD.out W hW
    skip
    obtain ⟨-, -, -, -, -, -, -, -, -, -, q3, -⟩ := hS.out _ hW
    go_simp; try (with_reducible rfl)
   dsimp only [List.set_cons_zero, List.set_cons_succ]
   refine wpC_readS (v := ?_) rfl rfl (fun W hW => ?_) ?_
   rotate_left
   ·clear hW; go_simp; try (with_reducible rfl)
   dsimp only [List.set_cons_zero, List.set_cons_succ]
   refine wpC_readS (v := ?_) rfl rfl (fun W hW => ?_) ?_
   rotate_left
   ·clear hW; go_simp; try (with_reducible rfl)
   dsimp only [List.set_cons_zero, List.set_cons_succ]
   refine wpC_readS (v := ?_) rfl rfl (fun W hW => ?_) ?_
   rotate_left
   ·replace hW := HD.out W hW
    skip
    obtain ⟨-, ⟨d0, d1, d2, d3, d4⟩⟩ := hX.out W hW
    go_simp; try (with_reducible rfl)
   dsimp only [List.set_cons_zero, List.set_cons_succ]
   refine wpC_readS (v := .bool true) rfl rfl (fun W hW => ?_) ?_
   ·replace hW := HD.out W hW
    skip
    go_simp
    refine (hSS.out _ hW).mono ?_
    rintro e w5 ⟨rfl, hbn⟩
    exact ⟨rfl, HD2.out _ (below_step hW hbn)⟩
   dsimp only [List.set_cons_zero, List.set_cons_succ]
   refine wpC_readS (v := ?_) rfl rfl (fun W hW => ?_) ?_
   rotate_left
   ·clear hW; go_simp; try (with_reducible rfl)
   dsimp only [List.set_cons_zero, List.set_cons_succ]
   refine wpQuiet_nil (HQQ.out _ (fun W hW => ?_))
   skip
   go_wp2_with fail
   go_roundw
   case rel => exact ⟨k + 1, by omega, by go_num, hW⟩
   case measure => simp [intOf]; omega
  ·clear hTs HEQS HZS
   as_aux_lemma =>
    go_wp2_with fail
    clear p0 p1 p2 p3 p4 p5 p6 q0 q1 q2 q3 q4 q5 q6
    go_loopw [6] (fun j wr => ∃ k : Nat, k ≤ tn ∧ j = .int .i64 (k : Int) ∧ Below W2.heap.size W2 wr) (fun j _ => tn - (intOf j).toNat)
    case atStart => exact ⟨0, Nat.zero_le _, rfl, hWr⟩
    case round =>
     clear hWr
     obtain ⟨k, hk, rfl, hWr⟩ := hrel
     obtain ⟨p0, p1, p2, p3, p4, p5, p6, q0, q1, q2, q3, q4, q5, q6⟩ := hS.out _ hWr
     by_cases hlt : k < tn
     ·have hki : (k : Int) < (tn : Int) := by omega
      obtain ⟨r1, r2, -⟩ := hTt.out _ hWr
      obtain ⟨ad, rfl, -⟩ := Reads.elK (k := 21) (fun _ => rfl) r1 HTN.out hlt
      obtain ⟨ad2, rfl, -⟩ := Reads.elK (k := 21) (fun _ => rfl) r2 HTN'.out hlt
      have hkl : k < tl.length := by have := HTN.out; omega
      have hkl' : k < tl'.length := by have := HTN'.out; omega
      have hev := HEQT.out k hkl hkl'
      have hxm : tl[k]'hkl ∈ tl := List.getElem_mem _
      have hym : tl'[k]'hkl' ∈ tl' := List.getElem_mem _
      obtain ⟨x, hx⟩ : ∃ x, x = tl[k]'hkl := ⟨_, rfl⟩
      obtain ⟨y, hy⟩ : ∃ y, y = tl'[k]'hkl' := ⟨_, rfl⟩
      rw [← hx] at hxm hev
      rw [← hy] at hym hev
      have hL1 : Hid (∀ W, Below W2.heap.size W2 W → ∀ (j : Nat) (v : Value), ([.string ⟨x.into.toArray⟩, .int .i64 x.kind, .string ⟨x.nm.toArray⟩, .int .i64 x.frm, .int .i64 x.gd, .slice x.own.A x.own.n x.own.c, .int .i64 x.ix, .int .i64 x.ct, .string ⟨x.dt.toArray⟩, .int .u64 x.sm.a, .int .u64 x.sm.b, .int .u64 x.sm.c, .int .u64 x.sm.d, .slice x.body.A x.body.n x.body.c, .int .i64 x.at_, .int .i64 x.nx, .int .u64 x.sum.a, .int .u64 x.sum.b, .int .u64 x.sum.c, .int .u64 x.sum.d, .bool x.done])[j]? = some v → W.cell? ((ad.add (k * 21)).add j) = some v) := by
       show ∀ W, _ → ∀ j v, _ → _
       intro W hb j v hv
       obtain ⟨ad3, e3, -, hce⟩ := Reads.elK (k := 21) (fun _ => rfl) (hTt.out _ hb).1 HTN.out hlt
       injection e3 with e3
       subst e3
       rw [← hx] at hce
       rw [hce j (by have := (List.getElem?_eq_some_iff.1 hv).1; simpa using this)]
       exact hv
      have hL2 : Hid (∀ W, Below W2.heap.size W2 W → ∀ (j : Nat) (v : Value), ([.string ⟨y.into.toArray⟩, .int .i64 y.kind, .string ⟨y.nm.toArray⟩, .int .i64 y.frm, .int .i64 y.gd, .slice y.own.A y.own.n y.own.c, .int .i64 y.ix, .int .i64 y.ct, .string ⟨y.dt.toArray⟩, .int .u64 y.sm.a, .int .u64 y.sm.b, .int .u64 y.sm.c, .int .u64 y.sm.d, .slice y.body.A y.body.n y.body.c, .int .i64 y.at_, .int .i64 y.nx, .int .u64 y.sum.a, .int .u64 y.sum.b, .int .u64 y.sum.c, .int .u64 y.sum.d, .bool y.done])[j]? = some v → W.cell? ((ad2.add (k * 21)).add j) = some v) := by
       show ∀ W, _ → ∀ j v, _ → _
       intro W hb j v hv
       obtain ⟨ad3, e3, -, hce⟩ := Reads.elK (k := 21) (fun _ => rfl) (hTt.out _ hb).2.1 HTN'.out hlt
       injection e3 with e3
       subst e3
       rw [← hy] at hce
       rw [hce j (by have := (List.getElem?_eq_some_iff.1 hv).1; simpa using this)]
       exact hv
      obtain ⟨G1, hG1⟩ : ∃ G, G = Value.agg #[.string ⟨x.into.toArray⟩, .int .i64 x.kind, .string ⟨x.nm.toArray⟩, .int .i64 x.frm, .int .i64 x.gd, .slice x.own.A x.own.n x.own.c, .int .i64 x.ix, .int .i64 x.ct, .string ⟨x.dt.toArray⟩, .int .u64 x.sm.a, .int .u64 x.sm.b, .int .u64 x.sm.c, .int .u64 x.sm.d, .slice x.body.A x.body.n x.body.c, .int .i64 x.at_, .int .i64 x.nx, .int .u64 x.sum.a, .int .u64 x.sum.b, .int .u64 x.sum.c, .int .u64 x.sum.d, .bool x.done] := ⟨_, rfl⟩
      obtain ⟨G2, hG2⟩ : ∃ G, G = Value.agg #[.string ⟨y.into.toArray⟩, .int .i64 y.kind, .string ⟨y.nm.toArray⟩, .int .i64 y.frm, .int .i64 y.gd, .slice y.own.A y.own.n y.own.c, .int .i64 y.ix, .int .i64 y.ct, .string ⟨y.dt.toArray⟩, .int .u64 y.sm.a, .int .u64 y.sm.b, .int .u64 y.sm.c, .int .u64 y.sm.d, .slice y.body.A y.body.n y.body.c, .int .i64 y.at_, .int .i64 y.nx, .int .u64 y.sum.a, .int .u64 y.sum.b, .int .u64 y.sum.c, .int .u64 y.sum.d, .bool y.done] := ⟨_, rfl⟩
      have HG1 := Lib.hid hG1
      have HG2 := Lib.hid hG2
      have hSS : Hid (∀ W, Below W2.heap.size W2 W → Calls Tryz.prog 48 #[G1, G2] W fun e W' => e = .returned (.bool true) ∧ Below W.heap.size W W') := fun W hb => by
       obtain ⟨-, -, u3, u4, u5⟩ := hTt.out _ hb
       rw [hG1, hG2]
       exact sameStageR_any x y hev W B u3 (u4 _ hxm) (u5 _ hym) (HZT.out _ hxm)
      clear hx hy hev hxm hym r1 r2 hTt HEQT HZT hG1 hG2
      go_wp2_with fail
      clear p0 p1 p2 p3 p4 p5 p6 q0 q1 q2 q3 q4 q5 q6
      refine wpC_region (fun W' => Below W2.heap.size W2 W') (by kernel_rfl) (by kernel_rfl) (hWr.drew) (fun OPS D QQ HO hD hD2 hQQ => ?_)
      clear HO
      have HD := Lib.hid hD
      have HD2 := Lib.hid hD2
      have HQQ := Lib.hid hQQ
      clear hD hD2 hQQ
      refine wpC_readS (v := ?_) rfl rfl (fun W hW => ?_) ?_
      rotate_left
      ·clear hW; go_simp; try (with_reducible rfl)
      dsimp only [List.set_cons_zero, List.set_cons_succ]
      refine wpC_readS (v := ?_) rfl rfl (fun W hW => ?_) ?_
      rotate_left
      ·replace hW := HD.out W hW
       skip
       obtain ⟨-, -, -, -, -, p5, -⟩ := hS.out _ hW
       go_simp; try (with_reducible rfl)
      dsimp only [List.set_cons_zero, List.set_cons_succ]
      refine wpC_readS (v := ?_) rfl rfl (fun W hW => ?_) ?_
      rotate_left
      ·clear hW; go_simp; try (with_reducible rfl)
      dsimp only [List.set_cons_zero, List.set_cons_succ]
      refine wpC_readS (v := ?_) rfl rfl (fun W hW => ?_) ?_
      rotate_left
      ·clear hW; go_simp; try (with_reducible rfl)
      dsimp only [List.set_cons_zero, List.set_cons_succ]
      refine wpC_readS (v := G1) rfl rfl (fun W hW => ?_) ?_
      ·replace hW := HD.out W hW
       rw [HG1.out]
       exact quiet_load_at 47 _ rfl (ad.add (k * 21)) rfl [.string ⟨x.into.toArray⟩, .int .i64 x.kind, .string ⟨x.nm.toArray⟩, .int .i64 x.frm, .int .i64 x.gd, .slice x.own.A x.own.n x.own.c, .int .i64 x.ix, .int .i64 x.ct, .string ⟨x.dt.toArray⟩, .int .u64 x.sm.a, .int .u64 x.sm.b, .int .u64 x.sm.c, .int .u64 x.sm.d, .slice x.body.A x.body.n x.body.c, .int .i64 x.at_, .int .i64 x.nx, .int .u64 x.sum.a, .int .u64 x.sum.b, .int .u64 x.sum.c, .int .u64 x.sum.d, .bool x.done] _ (hL1.out W hW) Tryz.underlying47 rfl (by kernel_rfl)
      dsimp only [List.set_cons_zero, List.set_cons_succ]
      refine wpC_readS (v := ?_) rfl rfl (fun W hW => ?_) ?_
      rotate_left
      ·clear hW; go_simp; try (with_reducible rfl)
      dsimp only [List.set_cons_zero, List.set_cons_succ]
      refine wpC_readS (v := ?_) rfl rfl (fun W hW => ?_) ?_
      rotate_left
      ·replace hW := HD.out W hW
       skip
       obtain ⟨-, -, -, -, -, -, -, -, -, -, -, -, q5, -⟩ := hS.out _ hW
       go_simp; try (with_reducible rfl)
      dsimp only [List.set_cons_zero, List.set_cons_succ]
      refine wpC_readS (v := ?_) rfl rfl (fun W hW => ?_) ?_
      rotate_left
      ·clear hW; go_simp; try (with_reducible rfl)
      dsimp only [List.set_cons_zero, List.set_cons_succ]
      refine wpC_readS (v := ?_) rfl rfl (fun W hW => ?_) ?_
      rotate_left
      ·clear hW; go_simp; try (with_reducible rfl)
      dsimp only [List.set_cons_zero, List.set_cons_succ]
      refine wpC_readS (v := G2) rfl rfl (fun W hW => ?_) ?_
      ·replace hW := HD.out W hW
       rw [HG2.out]
       exact quiet_load_at 47 _ rfl (ad2.add (k * 21)) rfl [.string ⟨y.into.toArray⟩, .int .i64 y.kind, .string ⟨y.nm.toArray⟩, .int .i64 y.frm, .int .i64 y.gd, .slice y.own.A y.own.n y.own.c, .int .i64 y.ix, .int .i64 y.ct, .string ⟨y.dt.toArray⟩, .int .u64 y.sm.a, .int .u64 y.sm.b, .int .u64 y.sm.c, .int .u64 y.sm.d, .slice y.body.A y.body.n y.body.c, .int .i64 y.at_, .int .i64 y.nx, .int .u64 y.sum.a, .int .u64 y.sum.b, .int .u64 y.sum.c, .int .u64 y.sum.d, .bool y.done] _ (hL2.out W hW) Tryz.underlying47 rfl (by kernel_rfl)
      dsimp only [List.set_cons_zero, List.set_cons_succ]
      refine wpC_readS (v := .bool true) rfl rfl (fun W hW => ?_) ?_
      ·replace hW := HD.out W hW
       skip
       go_simp
       refine (hSS.out _ hW).mono ?_
       rintro e w5 ⟨rfl, hbn⟩
       exact ⟨rfl, HD2.out _ (below_step hW hbn)⟩
      dsimp only [List.set_cons_zero, List.set_cons_succ]
      refine wpC_readS (v := ?_) rfl rfl (fun W hW => ?_) ?_
      rotate_left
      ·clear hW; go_simp; try (with_reducible rfl)
      dsimp only [List.set_cons_zero, List.set_cons_succ]
      refine wpQuiet_nil (HQQ.out _ (fun W hW => ?_))
      skip
      go_wp2_with fail
      go_roundw
      case rel => exact ⟨k + 1, by omega, by go_num, hW⟩
      case measure => simp [intOf]; omega
     ·clear hTt
      go_wp2_with fail
      go_ret
      exact ⟨rfl, HB2.out.trans (hWr.mono (by have := HSZ.out; omega))⟩
/-- tenants of one content -/
structure TenR.eqv (x y : TenR) : Prop where
 nm : x.nm = y.nm
 quota : x.quota = y.quota
 next : x.next = y.next
 lenS : x.sets.l.length = y.sets.l.length
 eachS : ∀ i (h : i < x.sets.l.length) (h' : i < y.sets.l.length), (x.sets.l[i]'h).eqv (y.sets.l[i]'h')
 grants : x.grants.l = y.grants.l
 lenT : x.stages.l.length = y.stages.l.length
 eachT : ∀ i (h : i < x.stages.l.length) (h' : i < y.stages.l.length), (x.stages.l[i]'h).eqv (y.stages.l[i]'h')
 log : x.log.l = y.log.l
theorem same14_any (x y : TenR) (h : x.eqv y) (w : World) (B : Nat) (hB : B ≤ w.heap.size) (hx : x.rd w B) (hy : y.rd w B) (hz : x.sz) :
  Calls Tryz.prog 13 #[x.val, y.val] w fun e w' => e = .returned (.bool true) ∧ Below w.heap.size w w' := by
 obtain ⟨h1, h2, h3, h4, h5, h6, h7, h8, h9⟩ := h
 obtain ⟨nm, quota, next, ⟨s1, sn, s3, sl⟩, ⟨g1, gn, g3, gl⟩, ⟨t1, tn, t3, tl⟩, ⟨l1, ln, l3, ll⟩⟩ := x
 obtain ⟨nm', quota', next', ⟨s1', sn', s3', sl'⟩, ⟨g1', gn', g3', gl'⟩, ⟨t1', tn', t3', tl'⟩, ⟨l1', ln', l3', ll'⟩⟩ := y
 simp only at h1 h2 h3 h4 h5 h6 h7 h8 h9
 subst h1 h2 h3 h6 h9
 have e1 : sn' = sn := by rw [show sn' = sl'.length from hy.sets.1, show sn = sl.length from hx.sets.1, h4]
 have e2 : gn' = gn := hy.grants.1.trans hx.grants.1.symm
 have e3 : tn' = tn := by rw [show tn' = tl'.length from hy.stages.1, show tn = tl.length from hx.stages.1, h7]
 have e4 : ln' = ln := hy.log.1.trans hx.log.1.symm
 subst e1 e2 e3 e4
 exact sameTenT_any nm quota next sl sl' gl tl tl' ll s1 s1' sn' s3 s3' g1 g1' gn' g3 g3' t1 t1' tn' t3 t3' l1 l1' ln' l3 l3' w B hB hx hy hz h5 h8
end Go.Proofs.YteafdncnnamakaaGreatDoor

/-
 An argument that is a tenant.
-/
namespace Go.Proofs.YteafdncnnamakaaGreatDoor
open Go.RowKit Go.ChangeShapes Go.WideShapes Go.ChangeAt

theorem len2 {α : Type} {l : List α} (h : l.length = 2) : ∃ a0 a1, l = [a0, a1] := by
 match l, h with
 | [a0, a1], _ => exact ⟨a0, a1, rfl⟩
theorem len4 {α : Type} {l : List α} (h : l.length = 4) : ∃ a0 a1 a2 a3, l = [a0, a1, a2, a3] := by
 match l, h with
 | [a0, a1, a2, a3], _ => exact ⟨a0, a1, a2, a3, rfl⟩
theorem len5 {α : Type} {l : List α} (h : l.length = 5) : ∃ a0 a1 a2 a3 a4, l = [a0, a1, a2, a3, a4] := by
 match l, h with
 | [a0, a1, a2, a3, a4], _ => exact ⟨a0, a1, a2, a3, a4, rfl⟩
theorem len7 {α : Type} {l : List α} (h : l.length = 7) : ∃ a0 a1 a2 a3 a4 a5 a6, l = [a0, a1, a2, a3, a4, a5, a6] := by
 match l, h with
 | [a0, a1, a2, a3, a4, a5, a6], _ => exact ⟨a0, a1, a2, a3, a4, a5, a6, rfl⟩
theorem len12 {α : Type} {l : List α} (h : l.length = 12) : ∃ a0 a1 a2 a3 a4 a5 a6 a7 a8 a9 a10 a11, l = [a0, a1, a2, a3, a4, a5, a6, a7, a8, a9, a10, a11] := by
 match l, h with
 | [a0, a1, a2, a3, a4, a5, a6, a7, a8, a9, a10, a11], _ => exact ⟨a0, a1, a2, a3, a4, a5, a6, a7, a8, a9, a10, a11, rfl⟩
theorem len21 {α : Type} {l : List α} (h : l.length = 21) : ∃ a0 a1 a2 a3 a4 a5 a6 a7 a8 a9 a10 a11 a12 a13 a14 a15 a16 a17 a18 a19 a20, l = [a0, a1, a2, a3, a4, a5, a6, a7, a8, a9, a10, a11, a12, a13, a14, a15, a16, a17, a18, a19, a20] := by
 match l, h with
 | [a0, a1, a2, a3, a4, a5, a6, a7, a8, a9, a10, a11, a12, a13, a14, a15, a16, a17, a18, a19, a20], _ => exact ⟨a0, a1, a2, a3, a4, a5, a6, a7, a8, a9, a10, a11, a12, a13, a14, a15, a16, a17, a18, a19, a20, rfl⟩
theorem cofT_str : Tryz.prog.cellsOf 9 = 1 := by kernel_rfl
theorem cofT_int : Tryz.prog.cellsOf 3 = 1 := by kernel_rfl
theorem cofT_errno : Tryz.prog.cellsOf 28 = 1 := by kernel_rfl
theorem cofT_bool : Tryz.prog.cellsOf 4 = 1 := by kernel_rfl
theorem cofT_u64 : Tryz.prog.cellsOf 40 = 1 := by kernel_rfl
theorem cofT_strs : Tryz.prog.cellsOf 68 = 1 := by kernel_rfl
theorem cofT_blks : Tryz.prog.cellsOf 45 = 1 := by kernel_rfl
theorem cofT_prps : Tryz.prog.cellsOf 39 = 1 := by kernel_rfl
theorem cofT_snaps : Tryz.prog.cellsOf 61 = 1 := by kernel_rfl
theorem cofT_sets : Tryz.prog.cellsOf 22 = 1 := by kernel_rfl
theorem cofT_grants : Tryz.prog.cellsOf 23 = 1 := by kernel_rfl
theorem cofT_stages : Tryz.prog.cellsOf 24 = 1 := by kernel_rfl
theorem cofT_log : Tryz.prog.cellsOf 25 = 1 := by kernel_rfl
theorem cofT_sum : Tryz.prog.cellsOf 42 = 4 := by kernel_rfl
theorem cofT_rec : Tryz.prog.cellsOf 44 = 12 := by kernel_rfl
section
variable {H : Type} {enc : TypeId × Value → H} {W : World} {K : Nat} {cs : List Value} {d : DataW H}
theorem CellsIn.sumT (h : CellsIn enc Tryz.prog W K 42 cs d) : ∃ s : Sm, cs = smV s := by
 obtain ⟨hl, hf⟩ := h.fields Tryz.underlying42
 obtain ⟨c0, c1, c2, c3, rfl⟩ := len4 (hl.trans cofT_sum)
 obtain ⟨y0, q0⟩ := hf 0 _ rfl
 obtain ⟨y1, q1⟩ := hf 1 _ rfl
 obtain ⟨y2, q2⟩ := hf 2 _ rfl
 obtain ⟨y3, q3⟩ := hf 3 _ rfl
 obtain ⟨n0, e0, _⟩ := q0.u64 Tryz.underlying40
 obtain ⟨n1, e1, _⟩ := q1.u64 Tryz.underlying40
 obtain ⟨n2, e2, _⟩ := q2.u64 Tryz.underlying40
 obtain ⟨n3, e3, _⟩ := q3.u64 Tryz.underlying40
 simp [cofT_u64] at e0 e1 e2 e3
 exact ⟨⟨n0, n1, n2, n3⟩, by rw [e0, e1, e2, e3]; rfl⟩
theorem CellsIn.strT (hK : K ≤ 1048576) (h : CellsIn enc Tryz.prog W K 9 cs d) : ∃ x : BS, cs = encS x ∧ x.length ≤ 4000000000 := by
 obtain ⟨s, e, _, b⟩ := h.str Tryz.underlying9
 exact ⟨s, e, by omega⟩
theorem cofT_blk : Tryz.prog.cellsOf 141 = 2 := by kernel_rfl
theorem CellsIn.blkT (_hK : K ≤ 1048576) (h : CellsIn enc Tryz.prog W K 141 cs d) : ∃ x : BlkT, cs = encB x ∧ (True) := by
 obtain ⟨hl, hf⟩ := h.fields Tryz.underlying141
 obtain ⟨a0, a1, rfl⟩ := len2 (hl.trans cofT_blk)
 obtain ⟨y0, q0⟩ := hf 0 _ rfl
 obtain ⟨y1, q1⟩ := hf 1 _ rfl
 obtain ⟨s0, e0, _⟩ := q0.i64 Tryz.underlying3
 obtain ⟨s1, e1, _, b1⟩ := q1.str Tryz.underlying9
 simp [cofT_int, cofT_str] at e0 e1
 exact ⟨(s0, s1), by rw [e0, e1]; rfl, trivial⟩
theorem cofT_prp : Tryz.prog.cellsOf 152 = 2 := by kernel_rfl
theorem CellsIn.prpT (hK : K ≤ 1048576) (h : CellsIn enc Tryz.prog W K 152 cs d) : ∃ x : (BS × BS), cs = encP x ∧ ((x.1.length ≤ 4000000000 ∧ x.2.length ≤ 4000000000)) := by
 obtain ⟨hl, hf⟩ := h.fields Tryz.underlying152
 obtain ⟨a0, a1, rfl⟩ := len2 (hl.trans cofT_prp)
 obtain ⟨y0, q0⟩ := hf 0 _ rfl
 obtain ⟨y1, q1⟩ := hf 1 _ rfl
 obtain ⟨s0, e0, _, b0⟩ := q0.str Tryz.underlying9
 obtain ⟨s1, e1, _, b1⟩ := q1.str Tryz.underlying9
 simp [cofT_str] at e0 e1
 exact ⟨(s0, s1), by rw [e0, e1]; rfl, by simp only; omega, by simp only; omega⟩
theorem CellsIn.strs (hK : K ≤ 1048576) (h : CellsIn enc Tryz.prog W K 68 cs d) : ∃ s : FS BS, cs = [s.val] ∧ s.rd W W.heap.size 1 encS ∧ s.n ≤ 1000000000000 ∧ ∀ x ∈ s.l, x.length ≤ 4000000000 := by
 obtain ⟨A, l, n, c, hcs, hn, hc, _, _, hK2, hr, hg⟩ := h.list (fun x : BS => encS x) (fun x => x.length ≤ 4000000000) (fun _ => rfl) (by decide) cofT_str Tryz.underlying68 (fun _ _ h => h.strT hK)
 exact ⟨⟨A, n, c, l⟩, hcs, ⟨hn, hc, hr⟩, by show n ≤ _; omega, hg⟩
theorem CellsIn.blks (hK : K ≤ 1048576) (h : CellsIn enc Tryz.prog W K 45 cs d) : ∃ s : FS BlkT, cs = [s.val] ∧ s.rd W W.heap.size 2 encB ∧ s.n ≤ 1000000000000 ∧ ∀ x ∈ s.l, True := by
 obtain ⟨A, l, n, c, hcs, hn, hc, _, _, hK2, hr, hg⟩ := h.list (fun x : BlkT => encB x) (fun x => True) (fun _ => rfl) (by decide) cofT_blk Tryz.underlying45 (fun _ _ h => h.blkT hK)
 exact ⟨⟨A, n, c, l⟩, hcs, ⟨hn, hc, hr⟩, by show n ≤ _; omega, hg⟩
theorem CellsIn.prps (hK : K ≤ 1048576) (h : CellsIn enc Tryz.prog W K 39 cs d) : ∃ s : FS (BS × BS), cs = [s.val] ∧ s.rd W W.heap.size 2 encP ∧ s.n ≤ 1000000000000 ∧ ∀ x ∈ s.l, (x.1.length ≤ 4000000000 ∧ x.2.length ≤ 4000000000) := by
 obtain ⟨A, l, n, c, hcs, hn, hc, _, _, hK2, hr, hg⟩ := h.list (fun x : (BS × BS) => encP x) (fun x => (x.1.length ≤ 4000000000 ∧ x.2.length ≤ 4000000000)) (fun _ => rfl) (by decide) cofT_prp Tryz.underlying39 (fun _ _ h => h.prpT hK)
 exact ⟨⟨A, n, c, l⟩, hcs, ⟨hn, hc, hr⟩, by show n ≤ _; omega, hg⟩
theorem cofT_snap : Tryz.prog.cellsOf 75 = 5 := by kernel_rfl
theorem CellsIn.snapT (hK : K ≤ 1048576) (h : CellsIn enc Tryz.prog W K 75 cs d) : ∃ x : SnapR, cs = encSnap x ∧ (x.rd W W.heap.size ∧ x.sz) := by
 obtain ⟨hl, hf⟩ := h.fields Tryz.underlying75
 obtain ⟨a0, a1, a2, a3, a4, rfl⟩ := len5 (hl.trans cofT_snap)
 obtain ⟨y0, q0⟩ := hf 0 _ rfl
 obtain ⟨y1, q1⟩ := hf 1 _ rfl
 obtain ⟨y2, q2⟩ := hf 2 _ rfl
 obtain ⟨y3, q3⟩ := hf 3 _ rfl
 obtain ⟨y4, q4⟩ := hf 4 _ rfl
 obtain ⟨s0, e0, _, b0⟩ := q0.str Tryz.underlying9
 obtain ⟨s1, e1, _⟩ := q1.i64 Tryz.underlying3
 obtain ⟨s2, e2, g2⟩ := q2.blks hK
 obtain ⟨s3, e3, g3⟩ := q3.strs hK
 obtain ⟨s4, e4, g4⟩ := q4.prps hK
 simp [cofT_str, cofT_int, cofT_blks, cofT_strs, cofT_prps] at e0 e1 e2 e3 e4
 obtain ⟨r2, n2, _⟩ := g2
 obtain ⟨r3, n3, k3⟩ := g3
 obtain ⟨r4, n4, k4⟩ := g4
 exact ⟨⟨s0, s1, s2, s3, s4⟩, by rw [e0, e1, e2, e3, e4]; rfl, ⟨r2, r3, r4⟩, ⟨by show s0.length ≤ _; omega, n2, n3, k3, n4, k4⟩⟩
theorem CellsIn.snaps (hK : K ≤ 1048576) (h : CellsIn enc Tryz.prog W K 61 cs d) : ∃ s : FS SnapR, cs = [s.val] ∧ s.rd W W.heap.size 5 encSnap ∧ s.n ≤ 1000000000000 ∧ ∀ x ∈ s.l, (x.rd W W.heap.size ∧ x.sz) := by
 obtain ⟨A, l, n, c, hcs, hn, hc, _, _, hK2, hr, hg⟩ := h.list (fun x : SnapR => encSnap x) (fun x => (x.rd W W.heap.size ∧ x.sz)) (fun _ => rfl) (by decide) cofT_snap Tryz.underlying61 (fun _ _ h => h.snapT hK)
 exact ⟨⟨A, n, c, l⟩, hcs, ⟨hn, hc, hr⟩, by show n ≤ _; omega, hg⟩
theorem cofT_set : Tryz.prog.cellsOf 63 = 5 := by kernel_rfl
theorem CellsIn.setT (hK : K ≤ 1048576) (h : CellsIn enc Tryz.prog W K 63 cs d) : ∃ x : SetR, cs = encSet x ∧ (x.rd W W.heap.size ∧ x.sz) := by
 obtain ⟨hl, hf⟩ := h.fields Tryz.underlying63
 obtain ⟨a0, a1, a2, a3, a4, rfl⟩ := len5 (hl.trans cofT_set)
 obtain ⟨y0, q0⟩ := hf 0 _ rfl
 obtain ⟨y1, q1⟩ := hf 1 _ rfl
 obtain ⟨y2, q2⟩ := hf 2 _ rfl
 obtain ⟨y3, q3⟩ := hf 3 _ rfl
 obtain ⟨y4, q4⟩ := hf 4 _ rfl
 obtain ⟨s0, e0, _, b0⟩ := q0.str Tryz.underlying9
 obtain ⟨s1, e1, _, b1⟩ := q1.str Tryz.underlying9
 obtain ⟨s2, e2, g2⟩ := q2.blks hK
 obtain ⟨s3, e3, g3⟩ := q3.snaps hK
 obtain ⟨s4, e4, g4⟩ := q4.prps hK
 simp [cofT_str, cofT_blks, cofT_snaps, cofT_prps] at e0 e1 e2 e3 e4
 obtain ⟨r2, n2, _⟩ := g2
 obtain ⟨r3, n3, k3⟩ := g3
 obtain ⟨r4, n4, k4⟩ := g4
 exact ⟨⟨s0, s1, s2, s3, s4⟩, by rw [e0, e1, e2, e3, e4]; rfl, ⟨r2, r3, fun y hy => (k3 y hy).1, r4⟩, ⟨by show s0.length ≤ _; omega, by show s1.length ≤ _; omega, n2, n3, fun y hy => (k3 y hy).2, n4, k4⟩⟩
theorem CellsIn.sets (hK : K ≤ 1048576) (h : CellsIn enc Tryz.prog W K 22 cs d) : ∃ s : FS SetR, cs = [s.val] ∧ s.rd W W.heap.size 5 encSet ∧ s.n ≤ 1000000000000 ∧ ∀ x ∈ s.l, (x.rd W W.heap.size ∧ x.sz) := by
 obtain ⟨A, l, n, c, hcs, hn, hc, _, _, hK2, hr, hg⟩ := h.list (fun x : SetR => encSet x) (fun x => (x.rd W W.heap.size ∧ x.sz)) (fun _ => rfl) (by decide) cofT_set Tryz.underlying22 (fun _ _ h => h.setT hK)
 exact ⟨⟨A, n, c, l⟩, hcs, ⟨hn, hc, hr⟩, by show n ≤ _; omega, hg⟩
structure RecR where
 kind : Int
 nm : BS
 frm : Int
 gd : Int
 own : FS (BS × BS)
 ix : Int
 ct : Int
 dt : BS
 sm : Sm
def encRec (x : RecR) : List Value := [.int .i64 x.kind, strV x.nm, .int .i64 x.frm, .int .i64 x.gd, x.own.val, .int .i64 x.ix, .int .i64 x.ct, strV x.dt] ++ smV x.sm
theorem cofT_rec2 : Tryz.prog.cellsOf 44 = 12 := by kernel_rfl
theorem CellsIn.recT (hK : K ≤ 1048576) (h : CellsIn enc Tryz.prog W K 44 cs d) : ∃ x : RecR, cs = encRec x ∧ (x.own.rd W W.heap.size 2 encP ∧ x.own.n ≤ 1000000000000 ∧ (∀ p ∈ x.own.l, p.1.length ≤ 4000000000 ∧ p.2.length ≤ 4000000000) ∧ x.nm.length ≤ 4000000000 ∧ x.dt.length ≤ 4000000000) := by
 obtain ⟨hl, hf⟩ := h.fields Tryz.underlying44
 obtain ⟨a0, a1, a2, a3, a4, a5, a6, a7, a8, a9, a10, a11, rfl⟩ := len12 (hl.trans cofT_rec2)
 obtain ⟨y0, q0⟩ := hf 0 _ rfl
 obtain ⟨y1, q1⟩ := hf 1 _ rfl
 obtain ⟨y2, q2⟩ := hf 2 _ rfl
 obtain ⟨y3, q3⟩ := hf 3 _ rfl
 obtain ⟨y4, q4⟩ := hf 4 _ rfl
 obtain ⟨y5, q5⟩ := hf 5 _ rfl
 obtain ⟨y6, q6⟩ := hf 6 _ rfl
 obtain ⟨y7, q7⟩ := hf 7 _ rfl
 obtain ⟨y8, q8⟩ := hf 8 _ rfl
 obtain ⟨s0, e0, _⟩ := q0.i64 Tryz.underlying3
 obtain ⟨s1, e1, _, b1⟩ := q1.str Tryz.underlying9
 obtain ⟨s2, e2, _⟩ := q2.i64 Tryz.underlying3
 obtain ⟨s3, e3, _⟩ := q3.i64 Tryz.underlying3
 obtain ⟨s4, e4, g4⟩ := q4.prps hK
 obtain ⟨s5, e5, _⟩ := q5.i64 Tryz.underlying3
 obtain ⟨s6, e6, _⟩ := q6.i64 Tryz.underlying3
 obtain ⟨s7, e7, _, b7⟩ := q7.str Tryz.underlying9
 obtain ⟨s8, e8⟩ := q8.sumT
 simp [cofT_int, cofT_str, cofT_prps, cofT_sum] at e0 e1 e2 e3 e4 e5 e6 e7 e8
 obtain ⟨r4, n4, k4⟩ := g4
 simp [smV] at e8
 obtain ⟨e8, e9, e10, e11⟩ := e8
 exact ⟨⟨s0, s1, s2, s3, s4, s5, s6, s7, s8⟩, by rw [e0, e1, e2, e3, e4, e5, e6, e7, e8, e9, e10, e11]; rfl, r4, n4, k4, by show s1.length ≤ _; omega, by show s7.length ≤ _; omega⟩
theorem cofT_stage : Tryz.prog.cellsOf 47 = 21 := by kernel_rfl
theorem CellsIn.stageT (hK : K ≤ 1048576) (h : CellsIn enc Tryz.prog W K 47 cs d) : ∃ x : StageR, cs = encStage x ∧ (x.rd W W.heap.size ∧ x.sz) := by
 obtain ⟨hl, hf⟩ := h.fields Tryz.underlying47
 obtain ⟨a0, a1, a2, a3, a4, a5, a6, a7, a8, a9, a10, a11, a12, a13, a14, a15, a16, a17, a18, a19, a20, rfl⟩ := len21 (hl.trans cofT_stage)
 obtain ⟨y0, q0⟩ := hf 0 _ rfl
 obtain ⟨y1, q1⟩ := hf 1 _ rfl
 obtain ⟨y2, q2⟩ := hf 2 _ rfl
 obtain ⟨y3, q3⟩ := hf 3 _ rfl
 obtain ⟨y4, q4⟩ := hf 4 _ rfl
 obtain ⟨y5, q5⟩ := hf 5 _ rfl
 obtain ⟨y6, q6⟩ := hf 6 _ rfl
 obtain ⟨s0, e0, _, b0⟩ := q0.str Tryz.underlying9
 obtain ⟨s1, e1, g1⟩ := q1.recT hK
 obtain ⟨s2, e2, g2⟩ := q2.blks hK
 obtain ⟨s3, e3, _⟩ := q3.i64 Tryz.underlying3
 obtain ⟨s4, e4, _⟩ := q4.i64 Tryz.underlying3
 obtain ⟨s5, e5⟩ := q5.sumT
 obtain ⟨s6, e6⟩ := q6.bool Tryz.underlying4
 simp [cofT_str, cofT_rec, cofT_blks, cofT_int, cofT_sum, cofT_bool] at e0 e1 e2 e3 e4 e5 e6
 obtain ⟨r1, n1, k1, m1, m2⟩ := g1
 obtain ⟨r2, n2, _⟩ := g2
 simp [smV, encRec] at e1 e5
 obtain ⟨f0, f1, f2, f3, f4, f5, f6, f7, f8, f9, f10, f11⟩ := e1
 obtain ⟨h0, h1, h2, h3⟩ := e5
 exact ⟨⟨s0, s1.kind, s1.nm, s1.frm, s1.gd, s1.own, s1.ix, s1.ct, s1.dt, s1.sm, s2, s3, s4, s5, s6⟩, by rw [e0, f0, f1, f2, f3, f4, f5, f6, f7, f8, f9, f10, f11, e2, e3, e4, h0, h1, h2, h3, e6]; rfl, ⟨r1, r2⟩, ⟨by show s0.length ≤ _; omega, m1, m2, n1, k1, n2⟩⟩
theorem CellsIn.stages (hK : K ≤ 1048576) (h : CellsIn enc Tryz.prog W K 24 cs d) : ∃ s : FS StageR, cs = [s.val] ∧ s.rd W W.heap.size 21 encStage ∧ s.n ≤ 500000000000 ∧ ∀ x ∈ s.l, (x.rd W W.heap.size ∧ x.sz) := by
 obtain ⟨A, l, n, c, hcs, hn, hc, _, _, hK2, hr, hg⟩ := h.list (fun x : StageR => encStage x) (fun x => (x.rd W W.heap.size ∧ x.sz)) (fun _ => rfl) (by decide) cofT_stage Tryz.underlying24 (fun _ _ h => h.stageT hK)
 exact ⟨⟨A, n, c, l⟩, hcs, ⟨hn, hc, hr⟩, by show n ≤ _; omega, hg⟩
theorem cofT_entry : Tryz.prog.cellsOf 94 = 4 := by kernel_rfl
theorem CellsIn.entryT (hK : K ≤ 1048576) (h : CellsIn enc Tryz.prog W K 94 cs d) : ∃ x : EntryR, cs = encEntry x ∧ (x.sz) := by
 obtain ⟨hl, hf⟩ := h.fields Tryz.underlying94
 obtain ⟨a0, a1, a2, a3, rfl⟩ := len4 (hl.trans cofT_entry)
 obtain ⟨y0, q0⟩ := hf 0 _ rfl
 obtain ⟨y1, q1⟩ := hf 1 _ rfl
 obtain ⟨y2, q2⟩ := hf 2 _ rfl
 obtain ⟨y3, q3⟩ := hf 3 _ rfl
 obtain ⟨s0, e0, _, b0⟩ := q0.str Tryz.underlying9
 obtain ⟨s1, e1, _⟩ := q1.i64 Tryz.underlying3
 obtain ⟨s2, e2, _, b2⟩ := q2.str Tryz.underlying9
 obtain ⟨s3, e3, _⟩ := q3.i64 Tryz.underlying28
 simp [cofT_str, cofT_int, cofT_errno] at e0 e1 e2 e3
 exact ⟨⟨s0, s1, s2, s3⟩, by rw [e0, e1, e2, e3]; rfl, ⟨by show s0.length ≤ _; omega, by show s2.length ≤ _; omega⟩⟩
theorem CellsIn.log (hK : K ≤ 1048576) (h : CellsIn enc Tryz.prog W K 25 cs d) : ∃ s : FS EntryR, cs = [s.val] ∧ s.rd W W.heap.size 4 encEntry ∧ s.n ≤ 1000000000000 ∧ ∀ x ∈ s.l, x.sz := by
 obtain ⟨A, l, n, c, hcs, hn, hc, _, _, hK2, hr, hg⟩ := h.list (fun x : EntryR => encEntry x) (fun x => x.sz) (fun _ => rfl) (by decide) cofT_entry Tryz.underlying25 (fun _ _ h => h.entryT hK)
 exact ⟨⟨A, n, c, l⟩, hcs, ⟨hn, hc, hr⟩, by show n ≤ _; omega, hg⟩
theorem cofT_grant : Tryz.prog.cellsOf 122 = 3 := by kernel_rfl
theorem len3 {α : Type} {l : List α} (h : l.length = 3) : ∃ a b c, l = [a, b, c] := by
 match l, h with
 | [a, b, c], _ => exact ⟨a, b, c, rfl⟩
theorem CellsIn.grantT (hK : K ≤ 1048576) (h : CellsIn enc Tryz.prog W K 122 cs d) : ∃ x : GT, cs = encG x ∧ (x.1.length ≤ 4000000000 ∧ x.2.1.length ≤ 4000000000) := by
 obtain ⟨hl, hf⟩ := h.fields Tryz.underlying122
 obtain ⟨c0, c1, c2, rfl⟩ := len3 (hl.trans cofT_grant)
 obtain ⟨y0, q0⟩ := hf 0 _ rfl
 obtain ⟨y1, q1⟩ := hf 1 _ rfl
 obtain ⟨y2, q2⟩ := hf 2 _ rfl
 obtain ⟨s0, e0, _, b0⟩ := q0.str Tryz.underlying9
 obtain ⟨s1, e1, _, b1⟩ := q1.str Tryz.underlying9
 obtain ⟨n2, e2, _, _⟩ := q2.i64 Tryz.underlying3
 simp [cofT_str, cofT_int] at e0 e1 e2
 exact ⟨(s0, s1, n2), by rw [e0, e1, e2]; rfl, by simp only; omega, by simp only; omega⟩
theorem CellsIn.grantsT (hK : K ≤ 1048576) (h : CellsIn enc Tryz.prog W K 23 cs d) : ∃ s : FS GT, cs = [s.val] ∧ s.rd W W.heap.size 3 encG ∧ s.n ≤ 1000000000000 ∧ ∀ x ∈ s.l, (x.1.length ≤ 4000000000 ∧ x.2.1.length ≤ 4000000000) := by
 obtain ⟨A, l, n, c, hcs, hn, hc, _, _, hK2, hr, hg⟩ := h.list (fun x : GT => encG x) (fun x => (x.1.length ≤ 4000000000 ∧ x.2.1.length ≤ 4000000000)) (fun _ => rfl) (by decide) cofT_grant Tryz.underlying23 (fun _ _ h => h.grantT hK)
 exact ⟨⟨A, n, c, l⟩, hcs, ⟨hn, hc, hr⟩, by show n ≤ _; omega, hg⟩
theorem cofT_ten : Tryz.prog.cellsOf 27 = 7 := by kernel_rfl
theorem CellsIn.tenT (hK : K ≤ 1048576) (h : CellsIn enc Tryz.prog W K 27 cs d) : ∃ x : TenR, cs = TenR.cells x ∧ (x.rd W W.heap.size ∧ x.sz ∧ x.stages.n ≤ 500000000000) := by
 obtain ⟨hl, hf⟩ := h.fields Tryz.underlying27
 obtain ⟨a0, a1, a2, a3, a4, a5, a6, rfl⟩ := len7 (hl.trans cofT_ten)
 obtain ⟨y0, q0⟩ := hf 0 _ rfl
 obtain ⟨y1, q1⟩ := hf 1 _ rfl
 obtain ⟨y2, q2⟩ := hf 2 _ rfl
 obtain ⟨y3, q3⟩ := hf 3 _ rfl
 obtain ⟨y4, q4⟩ := hf 4 _ rfl
 obtain ⟨y5, q5⟩ := hf 5 _ rfl
 obtain ⟨y6, q6⟩ := hf 6 _ rfl
 obtain ⟨s0, e0, _, b0⟩ := q0.str Tryz.underlying9
 obtain ⟨s1, e1, _⟩ := q1.i64 Tryz.underlying3
 obtain ⟨s2, e2, _⟩ := q2.i64 Tryz.underlying3
 obtain ⟨s3, e3, g3⟩ := q3.sets hK
 obtain ⟨s4, e4, g4⟩ := q4.grantsT hK
 obtain ⟨s5, e5, g5⟩ := q5.stages hK
 obtain ⟨s6, e6, g6⟩ := q6.log hK
 simp [cofT_str, cofT_int, cofT_sets, cofT_grants, cofT_stages, cofT_log] at e0 e1 e2 e3 e4 e5 e6
 obtain ⟨r3, n3, k3⟩ := g3
 obtain ⟨r4, n4, k4⟩ := g4
 obtain ⟨r5, n5, k5⟩ := g5
 obtain ⟨r6, n6, k6⟩ := g6
 exact ⟨⟨s0, s1, s2, s3, s4, s5, s6⟩, by rw [e0, e1, e2, e3, e4, e5, e6]; rfl, ⟨r3, fun y hy => (k3 y hy).1, r4, r5, fun y hy => (k5 y hy).1, r6⟩, ⟨by show s0.length ≤ _; omega, n3, fun y hy => (k3 y hy).2, n4, k4, Nat.le_trans n5 (by decide), fun y hy => (k5 y hy).2, n6, k6⟩, n5⟩
theorem ArgIn.ten {v : Value} (hK : Rows.uptoBulk d ≤ 1048576) (h : ArgIn enc Tryz.prog W 27 v d) : ∃ t : TenR, v = t.val ∧ t.rd W W.heap.size ∧ t.sz := by
 obtain ⟨cs, rfl, hc⟩ := h.agg Tryz.underlying27
 obtain ⟨t, hcs, h1, h2, _⟩ := hc.tenT hK
 refine ⟨t, ?_, h1, h2⟩
 show Value.agg _ = Value.agg _
 congr 1
 exact Array.toList_inj.1 hcs
/-- the same, the number of stages smaller (a row of them can be made anew) -/
theorem ArgIn.ten2 {v : Value} (hK : Rows.uptoBulk d ≤ 1048576) (h : ArgIn enc Tryz.prog W 27 v d) : ∃ t : TenR, v = t.val ∧ t.rd W W.heap.size ∧ t.sz ∧ t.stages.n ≤ 500000000000 := by
 obtain ⟨cs, rfl, hc⟩ := h.agg Tryz.underlying27
 obtain ⟨t, hcs, h1, h2, h3⟩ := hc.tenT hK
 refine ⟨t, ?_, h1, h2, h3⟩
 show Value.agg _ = Value.agg _
 congr 1
 exact Array.toList_inj.1 hcs
end
end Go.Proofs.YteafdncnnamakaaGreatDoor

/-
 shape.asked, shape.place: a path that may be asked; a set's place.
-/
namespace Go.Proofs.YteafdncnnamakaaGreatDoor
open Go.RowKit

theorem tenE_in (t : TenR) : tenE t = 0 ∨ tenE t = 9 := by unfold tenE; split <;> simp
/-- what is asked of a path: its error -/
def askP (t : TenR) (p : BS) : Int := if tenE t = 9 then 9 else if pathB p = false then 31 else 0
/-- a set's place, and its error -/
def placeP (t : TenR) (p : BS) : Int × Int :=
 if askP t p ≠ 0 then (0, askP t p) else
  match t.sets.l.find? (fun s => s.path == p) with
  | none => (0, 71)
  | some _ => (findS t.sets.l p, 0)
theorem askP_in (t : TenR) (p : BS) : askP t p = 0 ∨ askP t p = 9 ∨ askP t p = 31 := by
 unfold askP
 by_cases h : tenE t = 9
 ·rw [if_pos h]; exact .inr (.inl rfl)
 ·rw [if_neg h]
  cases pathB p
  ·exact .inr (.inr rfl)
  ·exact .inl rfl
set_option maxRecDepth 100000 in
set_option maxHeartbeats 4000000 in
theorem shAsked_any (t : TenR) (p : BS) (w : World) (B : Nat) (hB : B ≤ w.heap.size) (hr : t.rd w B) (hz : t.sz) (hp : p.length ≤ 4000000000) (hmx : HasMax w) :
  Calls Tryz.prog 24 #[t.val, .string ⟨p.toArray⟩] w fun e w' => e = .returned (.int .i64 (askP t p)) ∧ Below w.heap.size w w' := by
 have h2 := tenE_in t
 obtain ⟨nm, qu, nx, ⟨s1, sn, s3, sl⟩, ⟨g1, gn, g3, gl⟩, ⟨t1, tn, t3, tl⟩, ⟨l1, ln, l3, ll⟩⟩ := t
 show Calls Tryz.prog 24 #[.agg #[.string ⟨nm.toArray⟩, .int .i64 qu, .int .i64 nx, .slice s1 sn s3, .slice g1 gn g3, .slice t1 tn t3, .slice l1 ln l3], .string ⟨p.toArray⟩] w _
 have hb1 := (Below.refl w.heap.size w).alloc (Nat.le_refl _) (.cells #[.string ⟨nm.toArray⟩, .int .i64 qu, .int .i64 nx, .slice s1 sn s3, .slice g1 gn g3, .slice t1 tn t3, .slice l1 ln l3] 27)
 obtain ⟨W1, hW1⟩ : ∃ W, W = w.alloc (.cells #[.string ⟨nm.toArray⟩, .int .i64 qu, .int .i64 nx, .slice s1 sn s3, .slice g1 gn g3, .slice t1 tn t3, .slice l1 ln l3] 27) := ⟨_, rfl⟩
 have hsz1 : W1.heap.size = w.heap.size + 1 := by rw [hW1]; simp
 rw [← hW1] at hb1
 have hc : Calls Tryz.prog 43 #[.agg #[.string ⟨nm.toArray⟩, .int .i64 qu, .int .i64 nx, .slice s1 sn s3, .slice g1 gn g3, .slice t1 tn t3, .slice l1 ln l3]] W1 fun e w' => e = .returned (.int .i64 (tenE ⟨nm, qu, nx, ⟨s1, sn, s3, sl⟩, ⟨g1, gn, g3, gl⟩, ⟨t1, tn, t3, tl⟩, ⟨l1, ln, l3, ll⟩⟩)) ∧ Below W1.heap.size W1 w' :=
  tcheck_any ⟨nm, qu, nx, ⟨s1, sn, s3, sl⟩, ⟨g1, gn, g3, gl⟩, ⟨t1, tn, t3, tl⟩, ⟨l1, ln, l3, ll⟩⟩ W1 B (TenR.rd.below hr (hb1.mono hB)) (by omega) hz (hmx.below hb1)
 have hPA : Hid (∀ W, Below W1.heap.size W1 W → Calls Tryz.prog 70 #[.string ⟨p.toArray⟩] W fun e w' => e = .returned (.bool (pathB p)) ∧ Below W.heap.size W w') := fun W hb => path_any ⟨p.toArray⟩ W (by simpa [ByteArray.size] using hp) (hmx.below (hb1.trans (hb.mono (by omega))))
 obtain ⟨E, hE⟩ : ∃ E, E = tenE ⟨nm, qu, nx, ⟨s1, sn, s3, sl⟩, ⟨g1, gn, g3, gl⟩, ⟨t1, tn, t3, tl⟩, ⟨l1, ln, l3, ll⟩⟩ := ⟨_, rfl⟩
 have HV : Hid (askP ⟨nm, qu, nx, ⟨s1, sn, s3, sl⟩, ⟨g1, gn, g3, gl⟩, ⟨t1, tn, t3, tl⟩, ⟨l1, ln, l3, ll⟩⟩ p = if E = 9 then 9 else if pathB p = false then 31 else 0) := by show _ = _; rw [hE]; rfl
 rw [← hE] at h2 hc
 obtain ⟨bp, hbp⟩ : ∃ b, b = pathB p := ⟨_, rfl⟩
 rw [← hbp] at hPA HV
 have HB1 := Lib.hid hb1
 have HSZ1 := Lib.hid hsz1
 clear hb1 hr hz hsz1 hmx hE hbp
 go_enter Tryz.func24, Tryz.ntmps24
 go_wp2_with fail
 rw [← hW1]
 clear hW1
 refine hc.mono ?_
 clear hc
 rintro e w2 ⟨rfl, hb2⟩
 have HW2 := Lib.hid hb2
 clear hb2
 rcases h2 with rfl | rfl
 ·have hc := hPA.out w2 HW2.out
  clear hPA
  go_wp2_with fail
  refine hc.mono ?_
  clear hc
  rintro e w3 ⟨rfl, hb3⟩
  have HW3 := Lib.hid (HW2.out.trans (hb3.mono HW2.out.size))
  clear hb3 HW2
  cases bp with
  | false =>
   go_wp2_with fail
   exact bodyPost_ret (v := .int .i64 31) (by simp [results, Tryz.results24, go_sem]) rfl ⟨by rw [HV.out]; rfl, HB1.out.trans (HW3.out.mono (by have := HSZ1.out; omega))⟩
  | true =>
   go_wp2_with fail
   exact bodyPost_ret (v := .int .i64 0) (by simp [results, Tryz.results24, go_sem]) rfl ⟨by rw [HV.out]; rfl, HB1.out.trans (HW3.out.mono (by have := HSZ1.out; omega))⟩
 ·go_wp2_with fail
  exact bodyPost_ret (v := .int .i64 9) (by simp [results, Tryz.results24, go_sem]) rfl ⟨by rw [HV.out]; rfl, HB1.out.trans (HW2.out.mono (by have := HSZ1.out; omega))⟩
set_option maxRecDepth 100000 in
set_option maxHeartbeats 4000000 in
theorem place_any (t : TenR) (p : BS) (w : World) (B : Nat) (hB : B ≤ w.heap.size) (hr : t.rd w B) (hz : t.sz) (hp : p.length ≤ 4000000000) (hmx : HasMax w) :
  Calls Tryz.prog 32 #[t.val, .string ⟨p.toArray⟩] w fun e w' => e = .returned (.tuple #[.int .i64 (placeP t p).1, .int .i64 (placeP t p).2]) ∧ Below w.heap.size w w' := by
 have h3 := askP_in t p
 obtain ⟨nm, qu, nx, ⟨s1, sn, s3, sl⟩, ⟨g1, gn, g3, gl⟩, ⟨t1, tn, t3, tl⟩, ⟨l1, ln, l3, ll⟩⟩ := t
 show Calls Tryz.prog 32 #[.agg #[.string ⟨nm.toArray⟩, .int .i64 qu, .int .i64 nx, .slice s1 sn s3, .slice g1 gn g3, .slice t1 tn t3, .slice l1 ln l3], .string ⟨p.toArray⟩] w _
 have hb1 := (Below.refl w.heap.size w).alloc (Nat.le_refl _) (.cells #[.string ⟨nm.toArray⟩, .int .i64 qu, .int .i64 nx, .slice s1 sn s3, .slice g1 gn g3, .slice t1 tn t3, .slice l1 ln l3] 27)
 have kT := Blk.new w 27 #[.string ⟨nm.toArray⟩, .int .i64 qu, .int .i64 nx, .slice s1 sn s3, .slice g1 gn g3, .slice t1 tn t3, .slice l1 ln l3]
 obtain ⟨W1, hW1⟩ : ∃ W, W = w.alloc (.cells #[.string ⟨nm.toArray⟩, .int .i64 qu, .int .i64 nx, .slice s1 sn s3, .slice g1 gn g3, .slice t1 tn t3, .slice l1 ln l3] 27) := ⟨_, rfl⟩
 have hsz1 : W1.heap.size = w.heap.size + 1 := by rw [hW1]; simp
 rw [← hW1] at hb1 kT
 have hT := Lib.hid (fun (W' : World) (hB' : Below W1.heap.size W1 W') => (⟨(kT.below hB' (by omega)).cell 0, (kT.below hB' (by omega)).cell 1, (kT.below hB' (by omega)).cell 2, (kT.below hB' (by omega)).cell 3, (kT.below hB' (by omega)).cell 4, (kT.below hB' (by omega)).cell 5, (kT.below hB' (by omega)).cell 6⟩ : W'.cell? ⟨w.heap.size, 0, none⟩ = some (.string ⟨nm.toArray⟩) ∧ W'.cell? ⟨w.heap.size, 1, none⟩ = some (.int .i64 qu) ∧ W'.cell? ⟨w.heap.size, 2, none⟩ = some (.int .i64 nx) ∧ W'.cell? ⟨w.heap.size, 3, none⟩ = some (.slice s1 sn s3) ∧ W'.cell? ⟨w.heap.size, 4, none⟩ = some (.slice g1 gn g3) ∧ W'.cell? ⟨w.heap.size, 5, none⟩ = some (.slice t1 tn t3) ∧ W'.cell? ⟨w.heap.size, 6, none⟩ = some (.slice l1 ln l3)))
 have HSN := Lib.hid (show sn = sl.length from hr.sets.1)
 have hc : Calls Tryz.prog 24 #[.agg #[.string ⟨nm.toArray⟩, .int .i64 qu, .int .i64 nx, .slice s1 sn s3, .slice g1 gn g3, .slice t1 tn t3, .slice l1 ln l3], .string ⟨p.toArray⟩] W1 _ :=
  shAsked_any ⟨nm, qu, nx, ⟨s1, sn, s3, sl⟩, ⟨g1, gn, g3, gl⟩, ⟨t1, tn, t3, tl⟩, ⟨l1, ln, l3, ll⟩⟩ p W1 B (by omega) (TenR.rd.below hr (hb1.mono hB)) hz hp (hmx.below hb1)
 have hFD : Hid (∀ W, Below W1.heap.size W1 W → Calls Tryz.prog 26 #[.agg #[.string ⟨nm.toArray⟩, .int .i64 qu, .int .i64 nx, .slice s1 sn s3, .slice g1 gn g3, .slice t1 tn t3, .slice l1 ln l3], .string ⟨p.toArray⟩] W fun e w' => e = .returned (.int .i64 (findS sl p)) ∧ Below W.heap.size W w') := fun W hb =>
  find_any _ _ _ _ _ _ sl sn HSN.out s1 s3 p W B (TenR.rd.below hr ((hb1.trans (hb.mono (by omega))).mono hB)).sets.2.2 (by have := hb.size; omega) (by have := hz.sets; simp only at this; omega)
 obtain ⟨E, hE⟩ : ∃ E, E = askP ⟨nm, qu, nx, ⟨s1, sn, s3, sl⟩, ⟨g1, gn, g3, gl⟩, ⟨t1, tn, t3, tl⟩, ⟨l1, ln, l3, ll⟩⟩ p := ⟨_, rfl⟩
 obtain ⟨V, hV⟩ : ∃ V, V = placeP ⟨nm, qu, nx, ⟨s1, sn, s3, sl⟩, ⟨g1, gn, g3, gl⟩, ⟨t1, tn, t3, tl⟩, ⟨l1, ln, l3, ll⟩⟩ p := ⟨_, rfl⟩
 have HV : Hid (V = if E ≠ 0 then (0, E) else match sl.find? (fun s => s.path == p) with
  | none => (0, 71)
  | some _ => (findS sl p, 0)) := by show _ = _; rw [hV, hE]; rfl
 rw [← hE] at h3 hc
 rw [← hV]
 have HB1 := Lib.hid hb1
 have HSZ1 := Lib.hid hsz1
 clear hb1 kT hr hz hsz1 hmx hE hV
 go_enter Tryz.func32, Tryz.ntmps32
 go_wp2_with fail
 rw [← hW1]
 clear hW1
 refine hc.mono ?_
 clear hc
 rintro e w2 ⟨rfl, hb2⟩
 have HW2 := Lib.hid hb2
 clear hb2
 rcases h3 with rfl | rfl | rfl
 ·have hc := hFD.out w2 HW2.out
  obtain ⟨c0, c1, c2, c3, c4, c5, c6⟩ := hT.out _ HW2.out
  clear hFD
  go_wp2_with fail
  refine hc.mono ?_
  clear hc c0 c1 c2 c3 c4 c5 c6
  rintro e w3 ⟨rfl, hb3⟩
  have HW3 := Lib.hid (HW2.out.trans (hb3.mono HW2.out.size))
  clear hb3 HW2
  rcases firstI_cases (fun s : SetR => s.path == p) sl with ⟨h1, h2⟩ | ⟨k, hkl, h1, h2⟩
  ·have h1 : findS sl p = -1 := h1
   have HX : Hid (V = (0, 71)) := by show _ = _; rw [HV.out]; simp only [h2]; rfl
   clear HV h2
   rw [h1]
   go_wp2_with fail
   exact bodyPost_ret (v := .tuple #[.int .i64 0, .int .i64 71]) (by simp [results, Tryz.results32, go_sem]) rfl ⟨by rw [HX.out], HB1.out.trans (HW3.out.mono (by have := HSZ1.out; omega))⟩
  ·have h1 : findS sl p = (k : Int) := h1
   have HX : Hid (V = ((k : Int), 0)) := by show _ = _; rw [HV.out]; simp only [h2, h1]; rfl
   clear HV h2
   rw [h1]
   have hk0 : ¬ (k : Int) < 0 := by omega
   go_wp2_with fail
   exact bodyPost_ret (v := .tuple #[.int .i64 (k : Int), .int .i64 0]) (by simp [results, Tryz.results32, go_sem]) rfl ⟨by rw [HX.out], HB1.out.trans (HW3.out.mono (by have := HSZ1.out; omega))⟩
 ·go_wp2_with fail
  exact bodyPost_ret (v := .tuple #[.int .i64 0, .int .i64 9]) (by simp [results, Tryz.results32, go_sem]) rfl ⟨by rw [HV.out]; rfl, HB1.out.trans (HW2.out.mono (by have := HSZ1.out; omega))⟩
 ·go_wp2_with fail
  exact bodyPost_ret (v := .tuple #[.int .i64 0, .int .i64 31]) (by simp [results, Tryz.results32, go_sem]) rfl ⟨by rw [HV.out]; rfl, HB1.out.trans (HW2.out.mono (by have := HSZ1.out; omega))⟩
end Go.Proofs.YteafdncnnamakaaGreatDoor

/-
 tree.Kids, by its contract.
-/
namespace Go.Proofs.YteafdncnnamakaaGreatDoor
open Go.RowKit

theorem kidsL_snoc (l : List SetR) (x : SetR) (p : BS) : kidsL (l ++ [x]) p = kidsL l p ++ (if parB x.path = some p then [x.path] else []) := by
 unfold kidsL
 rw [List.filter_append, List.map_append]
 congr 1
 by_cases h : parB x.path = some p
 ·rw [if_pos h, List.filter_cons_of_pos (by simpa using h)]; rfl
 ·rw [if_neg h, List.filter_cons_of_neg (by simpa using h)]; rfl
set_option maxRecDepth 100000 in
set_option maxHeartbeats 4000000 in
theorem kids_any (v0 v1 v2 v4 v5 v6 : Value) (l : List SetR) (n : Nat) (hnl : n = l.length) (A : Option Addr) (c : Nat) (p : BS) (w : World) (B : Nat) (hr : Reads w B 5 A n (cellsK encSet l)) (hB : B ≤ w.heap.size) (hn : n ≤ 1000000000000) (hv : ∀ y ∈ l, y.path.length ≤ 4000000000) (hmx : HasMax w) :
  Calls Tryz.prog 35 #[.agg #[v0, v1, v2, .slice A n c, v4, v5, v6], .string ⟨p.toArray⟩] w fun e w' => ∃ A1 c1, e = .returned (.slice A1 (kidsL l p).length c1) ∧ w'.ownsRow w.heap.size 9 1 (.slice A1 (kidsL l p).length c1) (kidsL l p).length (scells (kidsL l p)) ∧ Below w.heap.size w w' := by
 obtain ⟨i0, hi0, hz0, hz1, hz2⟩ := info_parts Tryz.infoS
 have HN := Lib.hid hnl
 have hb1 := (Below.refl w.heap.size w).alloc (Nat.le_refl _) (.cells #[v0, v1, v2, .slice A n c, v4, v5, v6] 27)
 have kT := Blk.new w 27 #[v0, v1, v2, .slice A n c, v4, v5, v6]
 obtain ⟨W1, hW1⟩ : ∃ W, W = w.alloc (.cells #[v0, v1, v2, .slice A n c, v4, v5, v6] 27) := ⟨_, rfl⟩
 have hsz1 : W1.heap.size = w.heap.size + 1 := by rw [hW1]; simp
 rw [← hW1] at hb1 kT
 have hT : Hid (∀ W', Below W1.heap.size W1 W' → W'.cell? ⟨w.heap.size, 3, none⟩ = some (.slice A n c)) := fun W' hB' => (kT.below hB' (by omega)).cell 3
 have hR := Lib.hid (fun (W' : World) (hB' : Below W1.heap.size W1 W') => (⟨hr.below ((hb1.trans (hB'.mono (by omega))).mono hB), hmx.below (hb1.trans (hB'.mono (by omega)))⟩ : Reads W' B 5 A n (cellsK encSet l) ∧ HasMax W'))
 have HB1 := Lib.hid hb1
 have HSZ1 := Lib.hid hsz1
 have HVS := Lib.hid hv
 obtain ⟨KL, hKL⟩ : ∃ K, K = kidsL l p := ⟨_, rfl⟩
 rw [← hKL]
 have HKL := Lib.hid hKL
 clear hnl hr kT hsz1 hv hKL
 go_enter Tryz.func35, Tryz.ntmps35
 go_wp2_with fail
 rw [← hW1]
 clear hW1
 go_loopw [5, 13] (fun a j wr => ∃ (k m : Nat) (A1 : Option Addr) (c1 : Nat), k ≤ n ∧ m ≤ k ∧ a = .slice A1 m c1 ∧ j = .int .i64 (k : Int) ∧ Hid (m = (kidsL (l.take k) p).length) ∧ wr.ownsRow W1.heap.size 9 1 (.slice A1 m c1) m (scells (kidsL (l.take k) p)) ∧ Below W1.heap.size W1 wr) (fun _ j _ => n - (intOf j).toNat)
 case atStart => exact ⟨0, 0, none, 0, Nat.zero_le _, Nat.zero_le _, rfl, rfl, rfl, ⟨rfl, .inl ⟨rfl, rfl⟩⟩, Below.refl _ _⟩
 case round =>
  clear hb1
  obtain ⟨k, m, A1, c1, hk, hmk, rfl, rfl, hml, hown, hbw⟩ := hrel
  by_cases hlt : k < n
  ·obtain ⟨hrw, hmw⟩ := hR.out _ hbw
   obtain ⟨ad, rfl, -, c0, c1', c2, c3, c4⟩ := set_at hrw HN.out hlt
   have hki : (k : Int) < (n : Int) := by omega
   have hkl : k < l.length := by have := HN.out; omega
   obtain ⟨x, hx⟩ : ∃ x, x = l[k]'hkl := ⟨_, rfl⟩
   have hxl := HVS.out x (by rw [hx]; exact List.getElem_mem _)
   rw [← hx] at c0 c1' c2 c3 c4
   have htk := List.take_succ_eq_append_getElem hkl
   rw [← hx] at htk
   have HNT : Hid (kidsL (l.take (k + 1)) p = kidsL (l.take k) p ++ (if parB x.path = some p then [x.path] else [])) := by
    show _ = _
    rw [htk, kidsL_snoc]
   obtain ⟨W0, hW0⟩ : ∃ W0, W0 = wr.alloc (.cells #[.string ⟨x.path.toArray⟩, .string ⟨x.org.toArray⟩, .slice x.body.A x.body.n x.body.c, .slice x.snaps.A x.snaps.n x.snaps.c, .slice x.own.A x.own.n x.own.c] 63) := ⟨_, rfl⟩
   have hblk : Blk W0 wr.heap.size 63 #[.string ⟨x.path.toArray⟩, .string ⟨x.org.toArray⟩, .slice x.body.A x.body.n x.body.c, .slice x.snaps.A x.snaps.n x.snaps.c, .slice x.own.A x.own.n x.own.c] := by rw [hW0]; exact Blk.new wr _ _
   have hszW : W0.heap.size = wr.heap.size + 1 := by rw [hW0]; show (wr.heap.push _).size = _; rw [Array.size_push]
   have hwr := hbw.size
   have hsz1 := HSZ1.out
   have hb1W : Below W1.heap.size W1 W0 := by rw [hW0]; exact hbw.alloc hbw.size _
   have HB2 := Lib.hid hb1W
   have HSZ := Lib.hid hszW
   have hpn := parent_any ⟨x.path.toArray⟩ W0 (by show x.path.length ≤ _; exact hxl) (hR.out _ hb1W).2
   rw [show (ByteArray.mk x.path.toArray).data.toList = x.path from rfl] at hpn
   have hown0 : Hid (∀ W, Below W0.heap.size W0 W → W.ownsRow W1.heap.size 9 1 (.slice A1 m c1) m (scells (kidsL (l.take k) p)) ∧ W.cell? ⟨wr.heap.size, 0, none⟩ = some (.string ⟨x.path.toArray⟩)) := by
    show ∀ W, _ → _
    intro W hb
    refine ⟨own_below (w := W0) ?_ hb, (hblk.below hb (by omega)).cell 0⟩
    rw [hW0]
    exact hown.alloc _
   obtain ⟨xp, xo, ⟨b1, b2, b3, bl⟩, ⟨s1, s2, s3, sl⟩, ⟨o1, o2, o3, ol⟩⟩ := x
   simp only at c0 c1' c2 c3 c4 HNT hW0 hpn hown0
   clear hx htk hxl hblk hrw hown hR hT hmw
   go_wp2_with fail
   rw [← hW0]
   clear hW0 hszW c0 c1' c2 c3 c4
   refine hpn.mono ?_
   clear hpn
   rintro e w4 ⟨hb4, ⟨hpar, rfl⟩ | ⟨hne, hpb, rfl⟩⟩
   ·have HNT2 : Hid (kidsL (l.take (k + 1)) p = kidsL (l.take k) p) := by
     show _ = _
     rw [HNT.out]
     unfold parB
     rw [if_pos hpar]
     simp
    have ho4 := (hown0.out _ hb4).1
    have hbf := HB2.out.trans (hb4.mono (by have := HSZ.out; omega))
    clear hpar hown0 hb4
    go_wp2_with fail
    go_roundw
    case rel => exact ⟨k + 1, m, A1, c1, by omega, by omega, rfl, by go_num, by rw [HNT2.out]; exact hml.out, by rw [HNT2.out]; exact ho4, hbf⟩
    case measure => simp [intOf]; omega
   ·have hpe : parB xp = some (upL xp) := by
     unfold parB
     rw [if_neg (by rw [hpb]; simp [hne])]
    rw [hpe] at HNT
    obtain ⟨ho4, q0⟩ := hown0.out _ hb4
    have hbf := HB2.out.trans (hb4.mono (by have := HSZ.out; omega))
    have hbF := HB1.out.trans (hbf.mono (by omega))
    have hbase := hbf.size
    obtain ⟨up, hup⟩ : ∃ u, u = upL xp := ⟨_, rfl⟩
    rw [← hup] at HNT ⊢
    clear hne hpb hpe hup hown0 hb4
    by_cases hupp : up = p
    ·subst hupp
     have HNT2 : Hid (kidsL (l.take (k + 1)) up = kidsL (l.take k) up ++ [xp]) := by
      show _ = _
      rw [HNT.out, if_pos rfl]
     clear HNT
     go_wp2_with (at_builtin; (refine wpList_push w4 rfl (.tmp 29) (.tmp 32) 68 rfl W1.heap.size 9 i0 (.string ByteArray.empty) 1 16 Tryz.underlying68 hi0 hz0 hz1 hz2 rfl (by omega) (.slice A1 m c1) m _ rfl ho4 1 #[.string ⟨xp.toArray⟩] 9 rfl rfl (by simp [Value.oneCell']) (by unfold maxLen; omega) (by omega) hbase ?_); intro v' w' ho' hb' hg')
     obtain ⟨A2, c2, rfl, _, _, _⟩ := own_form ho'
     have hb'2 := hbf.trans hb'
     go_wp2_with fail
     go_roundw
     case rel => exact ⟨k + 1, m + 1, A2, c2, by omega, by omega, rfl, by go_num, by show _ = _; rw [HNT2.out, List.length_append, ← hml.out]; rfl, by rw [HNT2.out, scells_append]; exact ho', hb'2⟩
     case measure => simp [intOf]; omega
    ·have hne : (up == p) = false := by simpa using hupp
     have HNT2 : Hid (kidsL (l.take (k + 1)) p = kidsL (l.take k) p) := by
      show _ = _
      rw [HNT.out, if_neg (by intro e; exact hupp (Option.some.inj e))]
      simp
     clear hupp
     go_wp2_with fail
     go_roundw
     case rel => exact ⟨k + 1, m, A1, c1, by omega, by omega, rfl, by go_num, by rw [HNT2.out]; exact hml.out, by rw [HNT2.out]; exact ho4, hbf⟩
     case measure => simp [intOf]; omega
  ·have hkn : k = n := by omega
   have hall : l.take k = l := List.take_of_length_le (by rw [hkn, HN.out]; exact Nat.le_refl _)
   rw [hall, ← HKL.out] at hown
   have HM : Hid (m = KL.length) := by show _ = _; rw [hml.out, hall, HKL.out]
   have HO := Lib.hid (own_mono hown (show w.heap.size ≤ W1.heap.size by have := HSZ1.out; omega))
   have HBF := Lib.hid (HB1.out.trans (hbw.mono (by have := HSZ1.out; omega)))
   clear hkn hall hml hown hbw
   go_wp2_with fail
   go_ret
   refine ⟨A1, c1, by rw [← HM.out]; rfl, by rw [← HM.out]; exact HO.out, HBF.out⟩
end Go.Proofs.YteafdncnnamakaaGreatDoor

/-
 tree.Clones, by its contract.
-/
namespace Go.Proofs.YteafdncnnamakaaGreatDoor
open Go.RowKit

/-- is a set a clone of a snapshot of a set's (or of any, where no name is asked)? -/
def clP (p q : BS) (o : BS) : Bool := match splitL o with
 | none => false
 | some (a, b) => a == p && (q == [] || b == q)
def clonesL (l : List SetR) (p q : BS) : List BS := (l.filter fun s => clP p q s.org).map (·.path)
theorem clonesL_snoc (l : List SetR) (x : SetR) (p q : BS) : clonesL (l ++ [x]) p q = clonesL l p q ++ (if clP p q x.org = true then [x.path] else []) := by
 unfold clonesL
 rw [List.filter_append, List.map_append]
 congr 1
 by_cases h : clP p q x.org = true
 ·rw [if_pos h, List.filter_cons_of_pos (by simpa using h)]; rfl
 ·rw [if_neg h, List.filter_cons_of_neg (by simpa using h)]; rfl
set_option maxRecDepth 100000 in
set_option maxHeartbeats 4000000 in
theorem clones_any (v0 v1 v2 v4 v5 v6 : Value) (l : List SetR) (n : Nat) (hnl : n = l.length) (A : Option Addr) (c : Nat) (p nq : BS) (w : World) (B : Nat) (hr : Reads w B 5 A n (cellsK encSet l)) (hB : B ≤ w.heap.size) (hn : n ≤ 1000000000000) (hv : ∀ y ∈ l, y.org.length ≤ 4000000000) (hmx : HasMax w) :
  Calls Tryz.prog 36 #[.agg #[v0, v1, v2, .slice A n c, v4, v5, v6], .string ⟨p.toArray⟩, .string ⟨nq.toArray⟩] w fun e w' => ∃ A1 c1, e = .returned (.slice A1 (clonesL l p nq).length c1) ∧ w'.ownsRow w.heap.size 9 1 (.slice A1 (clonesL l p nq).length c1) (clonesL l p nq).length (scells (clonesL l p nq)) ∧ Below w.heap.size w w' := by
 obtain ⟨i0, hi0, hz0, hz1, hz2⟩ := info_parts Tryz.infoS
 have HN := Lib.hid hnl
 have hb1 := (Below.refl w.heap.size w).alloc (Nat.le_refl _) (.cells #[v0, v1, v2, .slice A n c, v4, v5, v6] 27)
 have kT := Blk.new w 27 #[v0, v1, v2, .slice A n c, v4, v5, v6]
 obtain ⟨W1, hW1⟩ : ∃ W, W = w.alloc (.cells #[v0, v1, v2, .slice A n c, v4, v5, v6] 27) := ⟨_, rfl⟩
 have hsz1 : W1.heap.size = w.heap.size + 1 := by rw [hW1]; simp
 rw [← hW1] at hb1 kT
 have hT : Hid (∀ W', Below W1.heap.size W1 W' → W'.cell? ⟨w.heap.size, 3, none⟩ = some (.slice A n c)) := fun W' hB' => (kT.below hB' (by omega)).cell 3
 have hR := Lib.hid (fun (W' : World) (hB' : Below W1.heap.size W1 W') => (⟨hr.below ((hb1.trans (hB'.mono (by omega))).mono hB), hmx.below (hb1.trans (hB'.mono (by omega)))⟩ : Reads W' B 5 A n (cellsK encSet l) ∧ HasMax W'))
 have HB1 := Lib.hid hb1
 have HSZ1 := Lib.hid hsz1
 have HVS := Lib.hid hv
 obtain ⟨KL, hKL⟩ : ∃ K, K = clonesL l p nq := ⟨_, rfl⟩
 rw [← hKL]
 have HKL := Lib.hid hKL
 clear hnl hr kT hsz1 hv hKL
 go_enter Tryz.func36, Tryz.ntmps36
 go_wp2_with fail
 rw [← hW1]
 clear hW1
 go_loopw [7, 16] (fun a j wr => ∃ (k m : Nat) (A1 : Option Addr) (c1 : Nat), k ≤ n ∧ m ≤ k ∧ a = .slice A1 m c1 ∧ j = .int .i64 (k : Int) ∧ Hid (m = (clonesL (l.take k) p nq).length) ∧ wr.ownsRow W1.heap.size 9 1 (.slice A1 m c1) m (scells (clonesL (l.take k) p nq)) ∧ Below W1.heap.size W1 wr) (fun _ j _ => n - (intOf j).toNat)
 case atStart => exact ⟨0, 0, none, 0, Nat.zero_le _, Nat.zero_le _, rfl, rfl, rfl, ⟨rfl, .inl ⟨rfl, rfl⟩⟩, Below.refl _ _⟩
 case round =>
  clear hb1
  obtain ⟨k, m, A1, c1, hk, hmk, rfl, rfl, hml, hown, hbw⟩ := hrel
  by_cases hlt : k < n
  ·obtain ⟨hrw, hmw⟩ := hR.out _ hbw
   obtain ⟨ad, rfl, -, c0, c1', c2, c3, c4⟩ := set_at hrw HN.out hlt
   have hki : (k : Int) < (n : Int) := by omega
   have hkl : k < l.length := by have := HN.out; omega
   obtain ⟨x, hx⟩ : ∃ x, x = l[k]'hkl := ⟨_, rfl⟩
   have hxl := HVS.out x (by rw [hx]; exact List.getElem_mem _)
   rw [← hx] at c0 c1' c2 c3 c4
   have htk := List.take_succ_eq_append_getElem hkl
   rw [← hx] at htk
   have HNT : Hid (clonesL (l.take (k + 1)) p nq = clonesL (l.take k) p nq ++ (if clP p nq x.org = true then [x.path] else [])) := by
    show _ = _
    rw [htk, clonesL_snoc]
   obtain ⟨W0, hW0⟩ : ∃ W0, W0 = wr.alloc (.cells #[.string ⟨x.path.toArray⟩, .string ⟨x.org.toArray⟩, .slice x.body.A x.body.n x.body.c, .slice x.snaps.A x.snaps.n x.snaps.c, .slice x.own.A x.own.n x.own.c] 63) := ⟨_, rfl⟩
   have hblk : Blk W0 wr.heap.size 63 #[.string ⟨x.path.toArray⟩, .string ⟨x.org.toArray⟩, .slice x.body.A x.body.n x.body.c, .slice x.snaps.A x.snaps.n x.snaps.c, .slice x.own.A x.own.n x.own.c] := by rw [hW0]; exact Blk.new wr _ _
   have hszW : W0.heap.size = wr.heap.size + 1 := by rw [hW0]; show (wr.heap.push _).size = _; rw [Array.size_push]
   have hwr := hbw.size
   have hsz1 := HSZ1.out
   have hb1W : Below W1.heap.size W1 W0 := by rw [hW0]; exact hbw.alloc hbw.size _
   have HB2 := Lib.hid hb1W
   have HSZ := Lib.hid hszW
   have hpn := split_any ⟨x.org.toArray⟩ W0 (by show x.org.length ≤ _; exact hxl) (hR.out _ hb1W).2
   rw [show (ByteArray.mk x.org.toArray).data.toList = x.org from rfl] at hpn
   have hown0 : Hid (∀ W, Below W0.heap.size W0 W → W.ownsRow W1.heap.size 9 1 (.slice A1 m c1) m (scells (clonesL (l.take k) p nq)) ∧ W.cell? ⟨wr.heap.size, 0, none⟩ = some (.string ⟨x.path.toArray⟩)) := by
    show ∀ W, _ → _
    intro W hb
    refine ⟨own_below (w := W0) ?_ hb, (hblk.below hb (by omega)).cell 0⟩
    rw [hW0]
    exact hown.alloc _
   obtain ⟨xp, xo, ⟨b1, b2, b3, bl⟩, ⟨s1, s2, s3, sl⟩, ⟨o1, o2, o3, ol⟩⟩ := x
   simp only at c0 c1' c2 c3 c4 HNT hW0 hpn hown0
   clear hx htk hxl hblk hrw hown hR hT hmw
   go_wp2_with fail
   rw [← hW0]
   clear hW0 hszW c0 c1' c2 c3 c4
   refine hpn.mono ?_
   clear hpn
   rintro e w4 ⟨rfl, hb4⟩
   obtain ⟨ho4, q0⟩ := hown0.out _ hb4
   have hbf := HB2.out.trans (hb4.mono (by have := HSZ.out; omega))
   have hbF := HB1.out.trans (hbf.mono (by omega))
   have hbase := hbf.size
   clear hown0 hb4
   rcases splitV_cases xo with ⟨hs1, hs2⟩ | ⟨sa, sb, hs1, hs2, -, -⟩
   ·rw [hs2]
    have HS1 := Lib.hid hs1
    clear hs1 hs2
    have HNT2 : Hid (clonesL (l.take (k + 1)) p nq = clonesL (l.take k) p nq) := by
     show _ = _
     rw [HNT.out, if_neg (by unfold clP; rw [HS1.out]; simp)]
     simp
    clear HNT
    go_wp2_with fail
    go_roundw
    case rel => exact ⟨k + 1, m, A1, c1, by omega, by omega, rfl, by go_num, by rw [HNT2.out]; exact hml.out, by rw [HNT2.out]; exact ho4, hbf⟩
    case measure => simp [intOf]; omega
   ·rw [hs2]
    have HCL : Hid (clP p nq xo = (sa == p && (nq == [] || sb == nq))) := by show _ = _; unfold clP; rw [hs1]
    clear hs1 hs2
    by_cases hap : sa = p
    ·have hap1 : (sa == p) = true := by simpa using hap
     by_cases hq : nq = []
     ·subst hq
      have HNT2 : Hid (clonesL (l.take (k + 1)) p [] = clonesL (l.take k) p [] ++ [xp]) := by
       show _ = _
       rw [HNT.out, if_pos (by rw [HCL.out, hap1]; rfl)]
      clear HNT
      go_wp2_with (at_builtin; (refine wpList_push w4 rfl (.tmp 43) (.tmp 46) 68 rfl W1.heap.size 9 i0 (.string ByteArray.empty) 1 16 Tryz.underlying68 hi0 hz0 hz1 hz2 rfl (by omega) (.slice A1 m c1) m _ rfl ho4 1 #[.string ⟨xp.toArray⟩] 9 rfl rfl (by simp [Value.oneCell']) (by unfold maxLen; omega) (by omega) hbase ?_); intro v' w' ho' hb' hg')
      obtain ⟨A2, c2, rfl, _, _, _⟩ := own_form ho'
      have hb'2 := hbf.trans hb'
      go_wp2_with fail
      go_roundw
      case rel => exact ⟨k + 1, m + 1, A2, c2, by omega, by omega, rfl, by go_num, by show _ = _; rw [HNT2.out, List.length_append, ← hml.out]; rfl, by rw [HNT2.out, scells_append]; exact ho', hb'2⟩
      case measure => simp [intOf]; omega
     ·have hq1 : (nq == []) = false := by simpa using hq
      have hq2 : (nq.toArray == #[]) = false := by simpa using hq
      by_cases hb : sb = nq
      ·subst hb
       have hq3 : (sb == sb) = true := by simp
       have HNT2 : Hid (clonesL (l.take (k + 1)) p sb = clonesL (l.take k) p sb ++ [xp]) := by
        show _ = _
        rw [HNT.out, if_pos (by rw [HCL.out, hap1, hq3]; simp)]
       clear HNT
       go_wp2_with (at_builtin; (refine wpList_push w4 rfl (.tmp 43) (.tmp 46) 68 rfl W1.heap.size 9 i0 (.string ByteArray.empty) 1 16 Tryz.underlying68 hi0 hz0 hz1 hz2 rfl (by omega) (.slice A1 m c1) m _ rfl ho4 1 #[.string ⟨xp.toArray⟩] 9 rfl rfl (by simp [Value.oneCell']) (by unfold maxLen; omega) (by omega) hbase ?_); intro v' w' ho' hb' hg')
       obtain ⟨A2, c2, rfl, _, _, _⟩ := own_form ho'
       have hb'2 := hbf.trans hb'
       go_wp2_with fail
       go_roundw
       case rel => exact ⟨k + 1, m + 1, A2, c2, by omega, by omega, rfl, by go_num, by show _ = _; rw [HNT2.out, List.length_append, ← hml.out]; rfl, by rw [HNT2.out, scells_append]; exact ho', hb'2⟩
       case measure => simp [intOf]; omega
      ·have hb1 : (sb == nq) = false := by simpa using hb
       have HNT2 : Hid (clonesL (l.take (k + 1)) p nq = clonesL (l.take k) p nq) := by
        show _ = _
        rw [HNT.out, if_neg (by rw [HCL.out, hap1, hq1, hb1]; simp)]
        simp
       clear HNT
       go_wp2_with fail
       go_roundw
       case rel => exact ⟨k + 1, m, A1, c1, by omega, by omega, rfl, by go_num, by rw [HNT2.out]; exact hml.out, by rw [HNT2.out]; exact ho4, hbf⟩
       case measure => simp [intOf]; omega
    ·have hap1 : (sa == p) = false := by simpa using hap
     have HNT2 : Hid (clonesL (l.take (k + 1)) p nq = clonesL (l.take k) p nq) := by
      show _ = _
      rw [HNT.out, if_neg (by rw [HCL.out, hap1]; simp)]
      simp
     clear HNT
     go_wp2_with fail
     go_roundw
     case rel => exact ⟨k + 1, m, A1, c1, by omega, by omega, rfl, by go_num, by rw [HNT2.out]; exact hml.out, by rw [HNT2.out]; exact ho4, hbf⟩
     case measure => simp [intOf]; omega
  ·have hkn : k = n := by omega
   have hall : l.take k = l := List.take_of_length_le (by rw [hkn, HN.out]; exact Nat.le_refl _)
   rw [hall, ← HKL.out] at hown
   have HM : Hid (m = KL.length) := by show _ = _; rw [hml.out, hall, HKL.out]
   have HO := Lib.hid (own_mono hown (show w.heap.size ≤ W1.heap.size by have := HSZ1.out; omega))
   have HBF := Lib.hid (HB1.out.trans (hbw.mono (by have := HSZ1.out; omega)))
   clear hkn hall hml hown hbw
   go_wp2_with fail
   go_ret
   refine ⟨A1, c1, by rw [← HM.out]; rfl, by rw [← HM.out]; exact HO.out, HBF.out⟩
end Go.Proofs.YteafdncnnamakaaGreatDoor

/-
 Tenants that lie in memory of their own.
-/
namespace Go.Proofs.YteafdncnnamakaaGreatDoor
open Go.RowKit

structure SnapO (w : World) (base : Nat) (x : SnapR) : Prop where
 body : x.body.own w base 141 2 encB
 tags : x.tags.own w base 9 1 encS
 own : x.own.own w base 152 2 encP
structure SetO (w : World) (base : Nat) (x : SetR) : Prop where
 body : x.body.own w base 141 2 encB
 snaps : x.snaps.own w base 75 5 encSnap
 each : ∀ y ∈ x.snaps.l, SnapO w base y
 own : x.own.own w base 152 2 encP
structure StageO (w : World) (base : Nat) (x : StageR) : Prop where
 own : x.own.own w base 152 2 encP
 body : x.body.own w base 141 2 encB
structure TenO (w : World) (base : Nat) (t : TenR) : Prop where
 sets : t.sets.own w base 63 5 encSet
 eachS : ∀ y ∈ t.sets.l, SetO w base y
 grants : t.grants.own w base 122 3 encG
 stages : t.stages.own w base 47 21 encStage
 eachG : ∀ y ∈ t.stages.l, StageO w base y
 log : t.log.own w base 94 4 encEntry
section
variable {w w' : World} {base base' g : Nat}
theorem SnapO.kept {x : SnapR} (h : SnapO w base x) (hg : w.grownBy w' (some g)) (hb : g < base) : SnapO w' base x := ⟨h.body.kept hg hb, h.tags.kept hg hb, h.own.kept hg hb⟩
theorem SnapO.below {x : SnapR} (h : SnapO w base x) (hb : Below w.heap.size w w') : SnapO w' base x := ⟨h.body.below hb, h.tags.below hb, h.own.below hb⟩
theorem SnapO.mono {x : SnapR} (h : SnapO w base x) (hb : base' ≤ base) : SnapO w base' x := ⟨h.body.mono hb, h.tags.mono hb, h.own.mono hb⟩
theorem SnapO.rd {x : SnapR} (h : SnapO w base x) : x.rd w w.heap.size := ⟨h.body.rd, h.tags.rd, h.own.rd⟩
theorem SetO.kept {x : SetR} (h : SetO w base x) (hg : w.grownBy w' (some g)) (hb : g < base) : SetO w' base x := ⟨h.body.kept hg hb, h.snaps.kept hg hb, fun y hy => (h.each y hy).kept hg hb, h.own.kept hg hb⟩
theorem SetO.below {x : SetR} (h : SetO w base x) (hb : Below w.heap.size w w') : SetO w' base x := ⟨h.body.below hb, h.snaps.below hb, fun y hy => (h.each y hy).below hb, h.own.below hb⟩
theorem SetO.mono {x : SetR} (h : SetO w base x) (hb : base' ≤ base) : SetO w base' x := ⟨h.body.mono hb, h.snaps.mono hb, fun y hy => (h.each y hy).mono hb, h.own.mono hb⟩
theorem SetO.rd {x : SetR} (h : SetO w base x) : x.rd w w.heap.size := ⟨h.body.rd, h.snaps.rd, fun y hy => (h.each y hy).rd, h.own.rd⟩
theorem StageO.kept {x : StageR} (h : StageO w base x) (hg : w.grownBy w' (some g)) (hb : g < base) : StageO w' base x := ⟨h.own.kept hg hb, h.body.kept hg hb⟩
theorem StageO.below {x : StageR} (h : StageO w base x) (hb : Below w.heap.size w w') : StageO w' base x := ⟨h.own.below hb, h.body.below hb⟩
theorem StageO.mono {x : StageR} (h : StageO w base x) (hb : base' ≤ base) : StageO w base' x := ⟨h.own.mono hb, h.body.mono hb⟩
theorem StageO.rd {x : StageR} (h : StageO w base x) : x.rd w w.heap.size := ⟨h.own.rd, h.body.rd⟩
theorem TenO.kept {x : TenR} (h : TenO w base x) (hg : w.grownBy w' (some g)) (hb : g < base) : TenO w' base x := ⟨h.sets.kept hg hb, fun y hy => (h.eachS y hy).kept hg hb, h.grants.kept hg hb, h.stages.kept hg hb, fun y hy => (h.eachG y hy).kept hg hb, h.log.kept hg hb⟩
theorem TenO.below {x : TenR} (h : TenO w base x) (hb : Below w.heap.size w w') : TenO w' base x := ⟨h.sets.below hb, fun y hy => (h.eachS y hy).below hb, h.grants.below hb, h.stages.below hb, fun y hy => (h.eachG y hy).below hb, h.log.below hb⟩
theorem TenO.mono {x : TenR} (h : TenO w base x) (hb : base' ≤ base) : TenO w base' x := ⟨h.sets.mono hb, fun y hy => (h.eachS y hy).mono hb, h.grants.mono hb, h.stages.mono hb, fun y hy => (h.eachG y hy).mono hb, h.log.mono hb⟩
theorem TenO.rd {x : TenR} (h : TenO w base x) : x.rd w w.heap.size := ⟨h.sets.rd, fun y hy => (h.eachS y hy).rd, h.grants.rd, h.stages.rd, fun y hy => (h.eachG y hy).rd, h.log.rd⟩
end
/-- lists that stand in a relation, place by place -/
def EachR {α : Type} (r : α → α → Prop) (l l' : List α) : Prop := l.length = l'.length ∧ ∀ i (h : i < l.length) (h' : i < l'.length), r (l[i]'h) (l'[i]'h')
theorem EachR.nil {α : Type} {r : α → α → Prop} : EachR r [] [] := ⟨rfl, fun i h => absurd h (by simp)⟩
theorem EachR.snoc {α : Type} {r : α → α → Prop} {l l' : List α} {a b : α} (h : EachR r l l') (hr : r a b) : EachR r (l ++ [a]) (l' ++ [b]) := by
 refine ⟨by simp [h.1], fun i h1 h2 => ?_⟩
 by_cases hi : i < l.length
 ·rw [List.getElem_append_left hi, List.getElem_append_left (by rw [← h.1]; exact hi)]
  exact h.2 i hi _
 ·have : i = l.length := by simp at h1; omega
  subst this
  simp [h.1]
  simpa [h.1] using hr
theorem EachR.refl {α : Type} {r : α → α → Prop} (hr : ∀ a, r a a) (l : List α) : EachR r l l := ⟨rfl, fun _ _ _ => hr _⟩
theorem EachR.symm {α : Type} {r : α → α → Prop} (hr : ∀ a b, r a b → r b a) {l l' : List α} (h : EachR r l l') : EachR r l' l := ⟨h.1.symm, fun i a b => hr _ _ (h.2 i b a)⟩
theorem EachR.trans {α : Type} {r : α → α → Prop} (hr : ∀ a b c, r a b → r b c → r a c) {l l' l'' : List α} (h : EachR r l l') (h2 : EachR r l' l'') : EachR r l l'' := ⟨h.1.trans h2.1, fun i a b => hr _ _ _ (h.2 i a (by rw [← h.1]; exact a)) (h2.2 i _ b)⟩
theorem SnapR.eqv.refl (x : SnapR) : x.eqv x := ⟨rfl, rfl, rfl, rfl, rfl⟩
theorem SnapR.eqv.symm {x y : SnapR} (h : x.eqv y) : y.eqv x := ⟨h.nm.symm, h.gd.symm, h.body.symm, h.tags.symm, h.own.symm⟩
theorem SnapR.eqv.trans {x y z : SnapR} (h : x.eqv y) (k : y.eqv z) : x.eqv z := ⟨h.nm.trans k.nm, h.gd.trans k.gd, h.body.trans k.body, h.tags.trans k.tags, h.own.trans k.own⟩
theorem SetR.eqv.refl (x : SetR) : x.eqv x := ⟨rfl, rfl, rfl, rfl, fun _ _ _ => SnapR.eqv.refl _, rfl⟩
theorem SetR.eqv.symm {x y : SetR} (h : x.eqv y) : y.eqv x := ⟨h.path.symm, h.org.symm, h.body.symm, h.len.symm, fun i a b => (h.each i b a).symm, h.own.symm⟩
theorem SetR.eqv.trans {x y z : SetR} (h : x.eqv y) (k : y.eqv z) : x.eqv z := ⟨h.path.trans k.path, h.org.trans k.org, h.body.trans k.body, h.len.trans k.len, fun i a b => (h.each i a (by rw [← h.len]; exact a)).trans (k.each i _ b), h.own.trans k.own⟩
theorem StageR.eqv.refl (x : StageR) : x.eqv x := ⟨rfl, rfl, rfl, rfl, rfl, rfl, rfl, rfl, rfl, rfl, rfl, rfl, rfl, rfl, rfl⟩
theorem StageR.eqv.symm {x y : StageR} (h : x.eqv y) : y.eqv x := ⟨h.1.symm, h.2.symm, h.3.symm, h.4.symm, h.5.symm, h.6.symm, h.7.symm, h.8.symm, h.9.symm, h.10.symm, h.11.symm, h.12.symm, h.13.symm, h.14.symm, h.15.symm⟩
theorem StageR.eqv.trans {x y z : StageR} (h : x.eqv y) (k : y.eqv z) : x.eqv z := ⟨h.1.trans k.1, h.2.trans k.2, h.3.trans k.3, h.4.trans k.4, h.5.trans k.5, h.6.trans k.6, h.7.trans k.7, h.8.trans k.8, h.9.trans k.9, h.10.trans k.10, h.11.trans k.11, h.12.trans k.12, h.13.trans k.13, h.14.trans k.14, h.15.trans k.15⟩
theorem TenR.eqv.refl (x : TenR) : x.eqv x := ⟨rfl, rfl, rfl, rfl, fun _ _ _ => SetR.eqv.refl _, rfl, rfl, fun _ _ _ => StageR.eqv.refl _, rfl⟩
theorem TenR.eqv.symm {x y : TenR} (h : x.eqv y) : y.eqv x := ⟨h.nm.symm, h.quota.symm, h.next.symm, h.lenS.symm, fun i a b => (h.eachS i b a).symm, h.grants.symm, h.lenT.symm, fun i a b => (h.eachT i b a).symm, h.log.symm⟩
theorem TenR.eqv.trans {x y z : TenR} (h : x.eqv y) (k : y.eqv z) : x.eqv z := ⟨h.nm.trans k.nm, h.quota.trans k.quota, h.next.trans k.next, h.lenS.trans k.lenS, fun i a b => (h.eachS i a (by rw [← h.lenS]; exact a)).trans (k.eachS i _ b), h.grants.trans k.grants, h.lenT.trans k.lenT, fun i a b => (h.eachT i a (by rw [← h.lenT]; exact a)).trans (k.eachT i _ b), h.log.trans k.log⟩
/-! ### sizes hang on the content alone -/
theorem SnapR.eqv.sz {x y : SnapR} (h : x.eqv y) (hx : x.sz) (hb : y.body.n = x.body.n) (ht : y.tags.n = x.tags.n) (ho : y.own.n = x.own.n) : y.sz := ⟨by rw [← h.nm]; exact hx.nm, by rw [hb]; exact hx.body, by rw [ht]; exact hx.tags, by rw [← h.tags]; exact hx.each, by rw [ho]; exact hx.own, by rw [← h.own]; exact hx.props⟩
theorem EachR.mem {α : Type} {r : α → α → Prop} {l l' : List α} (h : EachR r l l') {y : α} (hy : y ∈ l') : ∃ x ∈ l, r x y := by
 obtain ⟨i, hi, rfl⟩ := List.getElem_of_mem hy
 exact ⟨l[i]'(by rw [h.1]; exact hi), List.getElem_mem _, h.2 i _ hi⟩
end Go.Proofs.YteafdncnnamakaaGreatDoor
