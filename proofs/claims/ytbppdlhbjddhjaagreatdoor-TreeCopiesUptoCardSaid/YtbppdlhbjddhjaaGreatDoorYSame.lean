/-
  The page's SameSnap, SameSet at equal contents: they answer true.
  The page's SameGrants, SameLog, SameRecord, SameStage at equal contents: they answer true.
  The page's Same at tenants of one content: it answers true.
  Tenants that lie in memory of their own.
  A tenant's rows that are written over, in themselves: what can be read of them stays good.
-/
import Derived.Test.YtbppdlhbjddhjaaGreatDoorRefPr
import Derived.Test.YtbppdlhbjddhjaaGreatDoorSc
import Derived.Test.YtbppdlhbjddhjaaGreatDoorBk1
import Derived.Test.YtbppdlhbjddhjaaGreatDoorTrTags
import Derived.Test.YtbppdlhbjddhjaaGreatDoorTrSnaps
import Derived.Test.YtbppdlhbjddhjaaGreatDoorCls2
import Derived.Test.YtbppdlhbjddhjaaGreatDoorPmCheck
import Derived.Test.YtbppdlhbjddhjaaGreatDoorQLd
import Derived.Test.YtbppdlhbjddhjaaGreatDoorTrChk
import Derived.Test.YtbppdlhbjddhjaaGreatDoorTrOrg
namespace Go.Proofs.YtbppdlhbjddhjaaGreatDoor
open Go.RowKit

theorem rsameT_any (l : List BlkT) (n : Nat) (hn : n = l.length) (A A' : Option Addr) (c c' : Nat) (w : World) (B : Nat) (hr : Reads w B 2 A n (bcells l)) (hr' : Reads w B 2 A' n (bcells l)) (hm : n ≤ 1000000000000) :
    Calls Tryz.prog 90 #[.slice A n c, .slice A' n c'] w fun e w' => e = .returned (.bool true) ∧ Below w.heap.size w w' := by
  refine (rsame_any l l n n hn hn A A' c c' w B B hr hr' (by omega)).mono ?_
  rintro e w1 ⟨rfl, q, rfl⟩
  exact ⟨by simp, below_drewN (Below.refl _ _) q⟩
theorem samePropsT_any (l : List (BS × BS)) (n : Nat) (hn : n = l.length) (A A' : Option Addr) (c c' : Nat) (w : World) (B : Nat) (hr : Reads w B 2 A n (pcells l)) (hr' : Reads w B 2 A' n (pcells l)) (hm : n ≤ 1000000000000) :
    Calls Tryz.prog 91 #[.slice A n c, .slice A' n c'] w fun e w' => e = .returned (.bool true) ∧ Below w.heap.size w w' := by
  refine (sameProps_any l l n n hn hn A A' c c' w B B hr hr' (by omega) (by omega)).mono ?_
  rintro e w1 ⟨rfl, q, rfl⟩
  exact ⟨by simp, below_drewN (Below.refl _ _) q⟩
set_option maxRecDepth 100000 in
set_option maxHeartbeats 4000000 in
theorem sameSnapT_any (nm : BS) (gd : Int) (bl : List BlkT) (tl : List BS) (ol : List (BS × BS)) (b1 b1' : Option Addr) (bn b3 b3' : Nat) (t1 t1' : Option Addr) (tn t3 t3' : Nat) (o1 o1' : Option Addr) (on o3 o3' : Nat) (w : World) (B : Nat) (hB : B ≤ w.heap.size)
    (hbn : bn = bl.length) (htn : tn = tl.length) (hon : on = ol.length) (hb : Reads w B 2 b1 bn (bcells bl)) (hb' : Reads w B 2 b1' bn (bcells bl)) (ht : Reads w B 1 t1 tn (scells tl)) (ht' : Reads w B 1 t1' tn (scells tl)) (ho : Reads w B 2 o1 on (pcells ol)) (ho' : Reads w B 2 o1' on (pcells ol))
    (hbm : bn ≤ 1000000000000) (htm : tn ≤ 1000000000000) (hom : on ≤ 1000000000000) :
    Calls Tryz.prog 92 #[.agg #[.string ⟨nm.toArray⟩, .int .i64 gd, .slice b1 bn b3, .slice t1 tn t3, .slice o1 on o3], .agg #[.string ⟨nm.toArray⟩, .int .i64 gd, .slice b1' bn b3', .slice t1' tn t3', .slice o1' on o3']] w fun e w' => e = .returned (.bool true) ∧ Below w.heap.size w w' := by
  have hb1 := (Below.refl w.heap.size w).alloc (Nat.le_refl _) (.cells #[.string ⟨nm.toArray⟩, .int .i64 gd, .slice b1 bn b3, .slice t1 tn t3, .slice o1 on o3] 66)
  have hb2 := hb1.alloc hb1.size (.cells #[.string ⟨nm.toArray⟩, .int .i64 gd, .slice b1' bn b3', .slice t1' tn t3', .slice o1' on o3'] 66)
  have k1 := (Blk.new w 66 #[.string ⟨nm.toArray⟩, .int .i64 gd, .slice b1 bn b3, .slice t1 tn t3, .slice o1 on o3]).alloc (.cells #[.string ⟨nm.toArray⟩, .int .i64 gd, .slice b1' bn b3', .slice t1' tn t3', .slice o1' on o3'] 66)
  have k2 := Blk.new (w.alloc (.cells #[.string ⟨nm.toArray⟩, .int .i64 gd, .slice b1 bn b3, .slice t1 tn t3, .slice o1 on o3] 66)) 66 #[.string ⟨nm.toArray⟩, .int .i64 gd, .slice b1' bn b3', .slice t1' tn t3', .slice o1' on o3']
  rw [show (w.alloc (.cells #[.string ⟨nm.toArray⟩, .int .i64 gd, .slice b1 bn b3, .slice t1 tn t3, .slice o1 on o3] 66)).heap.size = w.heap.size + 1 by simp] at k2
  obtain ⟨W2, hW2⟩ : ∃ W, W = (w.alloc (.cells #[.string ⟨nm.toArray⟩, .int .i64 gd, .slice b1 bn b3, .slice t1 tn t3, .slice o1 on o3] 66)).alloc (.cells #[.string ⟨nm.toArray⟩, .int .i64 gd, .slice b1' bn b3', .slice t1' tn t3', .slice o1' on o3'] 66) := ⟨_, rfl⟩
  have hsz : W2.heap.size = w.heap.size + 2 := by rw [hW2]; simp
  rw [← hW2] at hb2 k1 k2
  have hS := Lib.hid (fun (W' : World) (hB' : Below W2.heap.size W2 W') => (⟨(k1.below hB' (by omega)).cell 0, (k1.below hB' (by omega)).cell 1, (k1.below hB' (by omega)).cell 2, (k1.below hB' (by omega)).cell 3, (k1.below hB' (by omega)).cell 4, (k2.below hB' (by omega)).cell 0, (k2.below hB' (by omega)).cell 1, (k2.below hB' (by omega)).cell 2, (k2.below hB' (by omega)).cell 3, (k2.below hB' (by omega)).cell 4⟩ : W'.cell? ⟨w.heap.size, 0, none⟩ = some (.string ⟨nm.toArray⟩) ∧ W'.cell? ⟨w.heap.size, 1, none⟩ = some (.int .i64 gd) ∧ W'.cell? ⟨w.heap.size, 2, none⟩ = some (.slice b1 bn b3) ∧ W'.cell? ⟨w.heap.size, 3, none⟩ = some (.slice t1 tn t3) ∧ W'.cell? ⟨w.heap.size, 4, none⟩ = some (.slice o1 on o3) ∧ W'.cell? ⟨w.heap.size + 1, 0, none⟩ = some (.string ⟨nm.toArray⟩) ∧ W'.cell? ⟨w.heap.size + 1, 1, none⟩ = some (.int .i64 gd) ∧ W'.cell? ⟨w.heap.size + 1, 2, none⟩ = some (.slice b1' bn b3') ∧ W'.cell? ⟨w.heap.size + 1, 3, none⟩ = some (.slice t1' tn t3') ∧ W'.cell? ⟨w.heap.size + 1, 4, none⟩ = some (.slice o1' on o3')))
  have HSZ := Lib.hid hsz
  have HB2 := Lib.hid hb2
  have hmv : ∀ W', Below W2.heap.size W2 W' → Below B w W' := fun W' hB' => (hb2.trans (hB'.mono (by omega))).mono hB
  have hBd : Hid (∀ W, Below W2.heap.size W2 W → Calls Tryz.prog 90 #[.slice b1 bn b3, .slice b1' bn b3'] W fun e W' => e = .returned (.bool true) ∧ Below W.heap.size W W') := fun W h => rsameT_any bl bn hbn b1 b1' b3 b3' W B (hb.below (hmv W h)) (hb'.below (hmv W h)) hbm
  have hPr : Hid (∀ W, Below W2.heap.size W2 W → Calls Tryz.prog 91 #[.slice o1 on o3, .slice o1' on o3'] W fun e W' => e = .returned (.bool true) ∧ Below W.heap.size W W') := fun W h => samePropsT_any ol on hon o1 o1' o3 o3' W B (ho.below (hmv W h)) (ho'.below (hmv W h)) hom
  have hTg : Hid (∀ W, Below W2.heap.size W2 W → Reads W B 1 t1 tn (scells tl) ∧ Reads W B 1 t1' tn (scells tl)) := fun W h => ⟨ht.below (hmv W h), ht'.below (hmv W h)⟩
  have HTN := Lib.hid htn
  clear hb1 hb2 k1 k2 hsz hmv hb hb' ht ht' ho ho' hbn htn hon
  have hW0 := Below.refl W2.heap.size W2
  go_enter Tryz.func92, Tryz.ntmps92
  go_wp2_with fail
  rw [← hW2]
  clear hW2
  refine (hBd.out _ hW0).mono ?_
  rintro e w3 ⟨rfl, hb3⟩
  have hW3 := hW0.trans (hb3.mono hW0.size)
  clear hb3 hBd
  obtain ⟨p0, p1, p2, p3, p4, q0, q1, q2, q3, q4⟩ := hS.out _ hW3
  go_wp2_with fail
  refine (hPr.out _ hW3).mono ?_
  rintro e w4 ⟨rfl, hb4⟩
  have hW4 := hW3.trans (hb4.mono hW3.size)
  clear hb4 hPr p0 p1 p2 p3 p4 q0 q1 q2 q3 q4
  obtain ⟨p0, p1, p2, p3, p4, q0, q1, q2, q3, q4⟩ := hS.out _ hW4
  go_wp2_with fail
  clear p0 p1 p2 p3 p4 q0 q1 q2 q3 q4
  go_loopw [5] (fun j wr => ∃ k : Nat, k ≤ tn ∧ j = .int .i64 (k : Int) ∧ Below W2.heap.size W2 wr) (fun j _ => tn - (intOf j).toNat)
  case atStart => exact ⟨0, Nat.zero_le _, rfl, hW4⟩
  case round =>
    clear hW4 hW3 hW0
    obtain ⟨k, hk, rfl, hWr⟩ := hrel
    obtain ⟨p0, p1, p2, p3, p4, q0, q1, q2, q3, q4⟩ := hS.out _ hWr
    by_cases hlt : k < tn
    · have hki : (k : Int) < (tn : Int) := by omega
      obtain ⟨r1, r2⟩ := hTg.out _ hWr
      obtain ⟨ad, rfl, -, c0⟩ := strs_at r1 HTN.out hlt
      obtain ⟨ad2, rfl, -, d0⟩ := strs_at r2 HTN.out hlt
      obtain ⟨x, hx⟩ : ∃ x, x = tl[k]'(by have := HTN.out; omega) := ⟨_, rfl⟩
      rw [← hx] at c0 d0
      simp only [strV] at c0 d0
      clear hx r1 r2 hTg
      go_wp2_with fail
      go_big_quiet (fail)
      go_wp2_with fail
      go_roundw
      case rel => exact ⟨k + 1, by omega, by go_num, below_drewN hWr _⟩
      case measure => simp [intOf]; omega
    · clear hTg
      go_wp2_with fail
      go_ret
      exact ⟨rfl, HB2.out.trans (hWr.mono (by have := HSZ.out; omega))⟩
/-- snapshots of one content -/
structure SnapR.eqv (x y : SnapR) : Prop where
  nm : x.nm = y.nm
  gd : x.gd = y.gd
  body : x.body.l = y.body.l
  tags : x.tags.l = y.tags.l
  own : x.own.l = y.own.l
theorem sameSnapR_any (x y : SnapR) (h : x.eqv y) (w : World) (B : Nat) (hB : B ≤ w.heap.size) (hx : x.rd w B) (hy : y.rd w B) (hz : x.sz) :
    Calls Tryz.prog 92 #[.agg #[.string ⟨x.nm.toArray⟩, .int .i64 x.gd, .slice x.body.A x.body.n x.body.c, .slice x.tags.A x.tags.n x.tags.c, .slice x.own.A x.own.n x.own.c], .agg #[.string ⟨y.nm.toArray⟩, .int .i64 y.gd, .slice y.body.A y.body.n y.body.c, .slice y.tags.A y.tags.n y.tags.c, .slice y.own.A y.own.n y.own.c]] w fun e w' => e = .returned (.bool true) ∧ Below w.heap.size w w' := by
  obtain ⟨h1, h2, h3, h4, h5⟩ := h
  obtain ⟨nm, gd, ⟨b1, bn, b3, bl⟩, ⟨t1, tn, t3, tl⟩, ⟨o1, on, o3, ol⟩⟩ := x
  obtain ⟨nm', gd', ⟨b1', bn', b3', bl'⟩, ⟨t1', tn', t3', tl'⟩, ⟨o1', on', o3', ol'⟩⟩ := y
  simp only at h1 h2 h3 h4 h5
  subst h1 h2 h3 h4 h5
  have e1 : bn' = bn := hy.body.1.trans hx.body.1.symm
  have e2 : tn' = tn := hy.tags.1.trans hx.tags.1.symm
  have e3 : on' = on := hy.own.1.trans hx.own.1.symm
  subst e1 e2 e3
  exact sameSnapT_any nm gd bl tl ol b1 b1' bn' b3 b3' t1 t1' tn' t3 t3' o1 o1' on' o3 o3' w B hB hx.body.1 hx.tags.1 hx.own.1 hx.body.2.2 hy.body.2.2 (by rw [← scells_enc]; exact hx.tags.2.2) (by rw [← scells_enc]; exact hy.tags.2.2) hx.own.2.2 hy.own.2.2 hz.body hz.tags hz.own
set_option maxRecDepth 100000 in
set_option maxHeartbeats 4000000 in
theorem sameSetT_any (pa og : BS) (bl : List BlkT) (sl sl' : List SnapR) (ol : List (BS × BS)) (b1 b1' : Option Addr) (bn b3 b3' : Nat) (s1 s1' : Option Addr) (sn s3 s3' : Nat) (o1 o1' : Option Addr) (on o3 o3' : Nat) (w : World) (B : Nat) (hB : B ≤ w.heap.size)
    (hbn : bn = bl.length) (hsn : sn = sl.length) (hsn' : sn = sl'.length) (hon : on = ol.length) (hb : Reads w B 2 b1 bn (bcells bl)) (hb' : Reads w B 2 b1' bn (bcells bl)) (ht : Reads w B 5 s1 sn (cellsK encSnap sl)) (ht' : Reads w B 5 s1' sn (cellsK encSnap sl')) (ho : Reads w B 2 o1 on (pcells ol)) (ho' : Reads w B 2 o1' on (pcells ol))
    (he : ∀ y ∈ sl, y.rd w B) (he' : ∀ y ∈ sl', y.rd w B) (heq : ∀ i (h : i < sl.length) (h' : i < sl'.length), (sl[i]'h).eqv (sl'[i]'h')) (hz : ∀ y ∈ sl, y.sz) (hbm : bn ≤ 1000000000000) (htm : sn ≤ 1000000000000) (hom : on ≤ 1000000000000) :
    Calls Tryz.prog 41 #[.agg #[.string ⟨pa.toArray⟩, .string ⟨og.toArray⟩, .slice b1 bn b3, .slice s1 sn s3, .slice o1 on o3], .agg #[.string ⟨pa.toArray⟩, .string ⟨og.toArray⟩, .slice b1' bn b3', .slice s1' sn s3', .slice o1' on o3']] w fun e w' => e = .returned (.bool true) ∧ Below w.heap.size w w' := by
  have hb1 := (Below.refl w.heap.size w).alloc (Nat.le_refl _) (.cells #[.string ⟨pa.toArray⟩, .string ⟨og.toArray⟩, .slice b1 bn b3, .slice s1 sn s3, .slice o1 on o3] 61)
  have hb2 := hb1.alloc hb1.size (.cells #[.string ⟨pa.toArray⟩, .string ⟨og.toArray⟩, .slice b1' bn b3', .slice s1' sn s3', .slice o1' on o3'] 61)
  have k1 := (Blk.new w 61 #[.string ⟨pa.toArray⟩, .string ⟨og.toArray⟩, .slice b1 bn b3, .slice s1 sn s3, .slice o1 on o3]).alloc (.cells #[.string ⟨pa.toArray⟩, .string ⟨og.toArray⟩, .slice b1' bn b3', .slice s1' sn s3', .slice o1' on o3'] 61)
  have k2 := Blk.new (w.alloc (.cells #[.string ⟨pa.toArray⟩, .string ⟨og.toArray⟩, .slice b1 bn b3, .slice s1 sn s3, .slice o1 on o3] 61)) 61 #[.string ⟨pa.toArray⟩, .string ⟨og.toArray⟩, .slice b1' bn b3', .slice s1' sn s3', .slice o1' on o3']
  rw [show (w.alloc (.cells #[.string ⟨pa.toArray⟩, .string ⟨og.toArray⟩, .slice b1 bn b3, .slice s1 sn s3, .slice o1 on o3] 61)).heap.size = w.heap.size + 1 by simp] at k2
  obtain ⟨W2, hW2⟩ : ∃ W, W = (w.alloc (.cells #[.string ⟨pa.toArray⟩, .string ⟨og.toArray⟩, .slice b1 bn b3, .slice s1 sn s3, .slice o1 on o3] 61)).alloc (.cells #[.string ⟨pa.toArray⟩, .string ⟨og.toArray⟩, .slice b1' bn b3', .slice s1' sn s3', .slice o1' on o3'] 61) := ⟨_, rfl⟩
  have hsz : W2.heap.size = w.heap.size + 2 := by rw [hW2]; simp
  rw [← hW2] at hb2 k1 k2
  have hS := Lib.hid (fun (W' : World) (hB' : Below W2.heap.size W2 W') => (⟨(k1.below hB' (by omega)).cell 0, (k1.below hB' (by omega)).cell 1, (k1.below hB' (by omega)).cell 2, (k1.below hB' (by omega)).cell 3, (k1.below hB' (by omega)).cell 4, (k2.below hB' (by omega)).cell 0, (k2.below hB' (by omega)).cell 1, (k2.below hB' (by omega)).cell 2, (k2.below hB' (by omega)).cell 3, (k2.below hB' (by omega)).cell 4⟩ : W'.cell? ⟨w.heap.size, 0, none⟩ = some (.string ⟨pa.toArray⟩) ∧ W'.cell? ⟨w.heap.size, 1, none⟩ = some (.string ⟨og.toArray⟩) ∧ W'.cell? ⟨w.heap.size, 2, none⟩ = some (.slice b1 bn b3) ∧ W'.cell? ⟨w.heap.size, 3, none⟩ = some (.slice s1 sn s3) ∧ W'.cell? ⟨w.heap.size, 4, none⟩ = some (.slice o1 on o3) ∧ W'.cell? ⟨w.heap.size + 1, 0, none⟩ = some (.string ⟨pa.toArray⟩) ∧ W'.cell? ⟨w.heap.size + 1, 1, none⟩ = some (.string ⟨og.toArray⟩) ∧ W'.cell? ⟨w.heap.size + 1, 2, none⟩ = some (.slice b1' bn b3') ∧ W'.cell? ⟨w.heap.size + 1, 3, none⟩ = some (.slice s1' sn s3') ∧ W'.cell? ⟨w.heap.size + 1, 4, none⟩ = some (.slice o1' on o3')))
  have HSZ := Lib.hid hsz
  have HB2 := Lib.hid hb2
  have hmv : ∀ W', Below W2.heap.size W2 W' → Below B w W' := fun W' hB' => (hb2.trans (hB'.mono (by omega))).mono hB
  have hBd : Hid (∀ W, Below W2.heap.size W2 W → Calls Tryz.prog 90 #[.slice b1 bn b3, .slice b1' bn b3'] W fun e W' => e = .returned (.bool true) ∧ Below W.heap.size W W') := fun W h => rsameT_any bl bn hbn b1 b1' b3 b3' W B (hb.below (hmv W h)) (hb'.below (hmv W h)) hbm
  have hPr : Hid (∀ W, Below W2.heap.size W2 W → Calls Tryz.prog 91 #[.slice o1 on o3, .slice o1' on o3'] W fun e W' => e = .returned (.bool true) ∧ Below W.heap.size W W') := fun W h => samePropsT_any ol on hon o1 o1' o3 o3' W B (ho.below (hmv W h)) (ho'.below (hmv W h)) hom
  have hTg : Hid (∀ W, Below W2.heap.size W2 W → Reads W B 5 s1 sn (cellsK encSnap sl) ∧ Reads W B 5 s1' sn (cellsK encSnap sl') ∧ B ≤ W.heap.size ∧ (∀ y ∈ sl, y.rd W B) ∧ ∀ y ∈ sl', y.rd W B) := fun W h => ⟨ht.below (hmv W h), ht'.below (hmv W h), by have := h.size; omega, fun y hy => ⟨(he y hy).body.below (hmv W h), (he y hy).tags.below (hmv W h), (he y hy).own.below (hmv W h)⟩, fun y hy => ⟨(he' y hy).body.below (hmv W h), (he' y hy).tags.below (hmv W h), (he' y hy).own.below (hmv W h)⟩⟩
  have HSN := Lib.hid hsn
  have HSN' := Lib.hid hsn'
  have HEQ := Lib.hid heq
  have HZ := Lib.hid hz
  clear hb1 hb2 k1 k2 hsz hmv hb hb' ht ht' ho ho' hbn hsn hsn' hon he he' heq hz
  have hW0 := Below.refl W2.heap.size W2
  go_enter Tryz.func41, Tryz.ntmps41
  go_wp2_with fail
  rw [← hW2]
  clear hW2
  refine (hBd.out _ hW0).mono ?_
  rintro e w3 ⟨rfl, hb3⟩
  have hW3 := hW0.trans (hb3.mono hW0.size)
  clear hb3 hBd
  obtain ⟨p0, p1, p2, p3, p4, q0, q1, q2, q3, q4⟩ := hS.out _ hW3
  go_wp2_with fail
  refine (hPr.out _ hW3).mono ?_
  rintro e w4 ⟨rfl, hb4⟩
  have hW4 := hW3.trans (hb4.mono hW3.size)
  clear hb4 hPr p0 p1 p2 p3 p4 q0 q1 q2 q3 q4
  obtain ⟨p0, p1, p2, p3, p4, q0, q1, q2, q3, q4⟩ := hS.out _ hW4
  go_wp2_with fail
  clear p0 p1 p2 p3 p4 q0 q1 q2 q3 q4
  go_loopw [5] (fun j wr => ∃ k : Nat, k ≤ sn ∧ j = .int .i64 (k : Int) ∧ Below W2.heap.size W2 wr) (fun j _ => sn - (intOf j).toNat)
  case atStart => exact ⟨0, Nat.zero_le _, rfl, hW4⟩
  case round =>
    clear hW4 hW3 hW0
    obtain ⟨k, hk, rfl, hWr⟩ := hrel
    obtain ⟨p0, p1, p2, p3, p4, q0, q1, q2, q3, q4⟩ := hS.out _ hWr
    by_cases hlt : k < sn
    · have hki : (k : Int) < (sn : Int) := by omega
      obtain ⟨r1, r2, -⟩ := hTg.out _ hWr
      obtain ⟨ad, rfl, -⟩ := snap_at r1 HSN.out hlt
      obtain ⟨ad2, rfl, -⟩ := snap_at r2 HSN'.out hlt
      have hkl : k < sl.length := by have := HSN.out; omega
      have hkl' : k < sl'.length := by have := HSN'.out; omega
      have hev := HEQ.out k hkl hkl'
      have hxm : sl[k]'hkl ∈ sl := List.getElem_mem _
      have hym : sl'[k]'hkl' ∈ sl' := List.getElem_mem _
      have hX : Hid (∀ W, Below W2.heap.size W2 W → (W.cell? (ad.add (k * 5)) = some (.string ⟨(sl[k]'hkl).nm.toArray⟩) ∧ W.cell? ⟨(ad.add (k * 5)).block, (ad.add (k * 5)).off + 1, none⟩ = some (.int .i64 (sl[k]'hkl).gd) ∧ W.cell? ⟨(ad.add (k * 5)).block, (ad.add (k * 5)).off + 2, none⟩ = some (.slice (sl[k]'hkl).body.A (sl[k]'hkl).body.n (sl[k]'hkl).body.c) ∧ W.cell? ⟨(ad.add (k * 5)).block, (ad.add (k * 5)).off + 3, none⟩ = some (.slice (sl[k]'hkl).tags.A (sl[k]'hkl).tags.n (sl[k]'hkl).tags.c) ∧ W.cell? ⟨(ad.add (k * 5)).block, (ad.add (k * 5)).off + 4, none⟩ = some (.slice (sl[k]'hkl).own.A (sl[k]'hkl).own.n (sl[k]'hkl).own.c)) ∧ (W.cell? (ad2.add (k * 5)) = some (.string ⟨(sl'[k]'hkl').nm.toArray⟩) ∧ W.cell? ⟨(ad2.add (k * 5)).block, (ad2.add (k * 5)).off + 1, none⟩ = some (.int .i64 (sl'[k]'hkl').gd) ∧ W.cell? ⟨(ad2.add (k * 5)).block, (ad2.add (k * 5)).off + 2, none⟩ = some (.slice (sl'[k]'hkl').body.A (sl'[k]'hkl').body.n (sl'[k]'hkl').body.c) ∧ W.cell? ⟨(ad2.add (k * 5)).block, (ad2.add (k * 5)).off + 3, none⟩ = some (.slice (sl'[k]'hkl').tags.A (sl'[k]'hkl').tags.n (sl'[k]'hkl').tags.c) ∧ W.cell? ⟨(ad2.add (k * 5)).block, (ad2.add (k * 5)).off + 4, none⟩ = some (.slice (sl'[k]'hkl').own.A (sl'[k]'hkl').own.n (sl'[k]'hkl').own.c))) := by
        show ∀ W, _ → _
        intro W hb
        obtain ⟨u1, u2, -⟩ := hTg.out _ hb
        obtain ⟨ad3, e3, -, c⟩ := snap_at u1 HSN.out hlt
        obtain ⟨ad4, e4, -, d⟩ := snap_at u2 HSN'.out hlt
        injection e3 with e3
        injection e4 with e4
        subst e3 e4
        exact ⟨c, d⟩
      have hSS : Hid (∀ W, Below W2.heap.size W2 W → Calls Tryz.prog 92 #[.agg #[.string ⟨(sl[k]'hkl).nm.toArray⟩, .int .i64 (sl[k]'hkl).gd, .slice (sl[k]'hkl).body.A (sl[k]'hkl).body.n (sl[k]'hkl).body.c, .slice (sl[k]'hkl).tags.A (sl[k]'hkl).tags.n (sl[k]'hkl).tags.c, .slice (sl[k]'hkl).own.A (sl[k]'hkl).own.n (sl[k]'hkl).own.c], .agg #[.string ⟨(sl'[k]'hkl').nm.toArray⟩, .int .i64 (sl'[k]'hkl').gd, .slice (sl'[k]'hkl').body.A (sl'[k]'hkl').body.n (sl'[k]'hkl').body.c, .slice (sl'[k]'hkl').tags.A (sl'[k]'hkl').tags.n (sl'[k]'hkl').tags.c, .slice (sl'[k]'hkl').own.A (sl'[k]'hkl').own.n (sl'[k]'hkl').own.c]] W fun e W' => e = .returned (.bool true) ∧ Below W.heap.size W W') := fun W hb => by
        obtain ⟨-, -, u3, u4, u5⟩ := hTg.out _ hb
        exact sameSnapR_any _ _ hev W B u3 (u4 _ hxm) (u5 _ hym) (HZ.out _ hxm)
      obtain ⟨x, hx⟩ : ∃ x, x = sl[k]'hkl := ⟨_, rfl⟩
      obtain ⟨y, hy⟩ : ∃ y, y = sl'[k]'hkl' := ⟨_, rfl⟩
      rw [← hx, ← hy] at hX hSS
      obtain ⟨nm, gd, ⟨f1, f2, f3, fl⟩, ⟨t1, t2, t3, tl⟩, ⟨u1, u2, u3, ul⟩⟩ := x
      obtain ⟨nm', gd', ⟨f1', f2', f3', fl'⟩, ⟨t1', t2', t3', tl'⟩, ⟨u1', u2', u3', ul'⟩⟩ := y
      simp only at hX hSS
      clear hx hy hev hxm hym r1 r2 hTg HEQ HZ
      go_wp2_with fail
      clear p0 p1 p2 p3 p4 q0 q1 q2 q3 q4
      refine wpC_region (fun W' => Below W2.heap.size W2 W') (by kernel_rfl) (by kernel_rfl) (hWr.drew) (fun OPS D QQ HO hD hD2 hQQ => ?_)
      clear HO
      have HD := Lib.hid hD
      have HD2 := Lib.hid hD2
      have HQQ := Lib.hid hQQ
      clear hD hD2 hQQ
      refine wpC_readS (v := ?_) rfl rfl (fun W hW => ?_) ?_
      rotate_left
      · clear hW; go_simp; try (with_reducible rfl)
      dsimp only [List.set_cons_zero, List.set_cons_succ]
      refine wpC_readS (v := ?_) rfl rfl (fun W hW => ?_) ?_
      rotate_left
      · replace hW := HD.out W hW
        skip
        obtain ⟨-, -, -, p3, -⟩ := hS.out _ hW
        go_simp; try (with_reducible rfl)
      dsimp only [List.set_cons_zero, List.set_cons_succ]
      refine wpC_readS (v := ?_) rfl rfl (fun W hW => ?_) ?_
      rotate_left
      · clear hW; go_simp; try (with_reducible rfl)
      dsimp only [List.set_cons_zero, List.set_cons_succ]
      refine wpC_readS (v := ?_) rfl rfl (fun W hW => ?_) ?_
      rotate_left
      · clear hW; go_simp; try (with_reducible rfl)
      dsimp only [List.set_cons_zero, List.set_cons_succ]
      refine wpC_readS (v := ?_) rfl rfl (fun W hW => ?_) ?_
      rotate_left
      · replace hW := HD.out W hW
        skip
        obtain ⟨⟨c0, c1, c2, c3, c4⟩, -⟩ := hX.out W hW
        go_simp; try (with_reducible rfl)
      dsimp only [List.set_cons_zero, List.set_cons_succ]
      refine wpC_readS (v := ?_) rfl rfl (fun W hW => ?_) ?_
      rotate_left
      · clear hW; go_simp; try (with_reducible rfl)
      dsimp only [List.set_cons_zero, List.set_cons_succ]
      refine wpC_readS (v := ?_) rfl rfl (fun W hW => ?_) ?_
      rotate_left
      · replace hW := HD.out W hW
        skip
        obtain ⟨-, -, -, -, -, -, -, -, q3, -⟩ := hS.out _ hW
        go_simp; try (with_reducible rfl)
      dsimp only [List.set_cons_zero, List.set_cons_succ]
      refine wpC_readS (v := ?_) rfl rfl (fun W hW => ?_) ?_
      rotate_left
      · clear hW; go_simp; try (with_reducible rfl)
      dsimp only [List.set_cons_zero, List.set_cons_succ]
      refine wpC_readS (v := ?_) rfl rfl (fun W hW => ?_) ?_
      rotate_left
      · clear hW; go_simp; try (with_reducible rfl)
      dsimp only [List.set_cons_zero, List.set_cons_succ]
      refine wpC_readS (v := ?_) rfl rfl (fun W hW => ?_) ?_
      rotate_left
      · replace hW := HD.out W hW
        skip
        obtain ⟨-, ⟨d0, d1, d2, d3, d4⟩⟩ := hX.out W hW
        go_simp; try (with_reducible rfl)
      dsimp only [List.set_cons_zero, List.set_cons_succ]
      refine wpC_readS (v := .bool true) rfl rfl (fun W hW => ?_) ?_
      · replace hW := HD.out W hW
        skip
        go_simp
        refine (hSS.out _ hW).mono ?_
        rintro e w5 ⟨rfl, hbn⟩
        exact ⟨rfl, HD2.out _ (below_step hW hbn)⟩
      dsimp only [List.set_cons_zero, List.set_cons_succ]
      refine wpC_readS (v := ?_) rfl rfl (fun W hW => ?_) ?_
      rotate_left
      · clear hW; go_simp; try (with_reducible rfl)
      dsimp only [List.set_cons_zero, List.set_cons_succ]
      refine wpQuiet_nil (HQQ.out _ (fun W hW => ?_))
      skip
      go_wp2_with fail
      go_roundw
      case rel => exact ⟨k + 1, by omega, by go_num, hW⟩
      case measure => simp [intOf]; omega
    · clear hTg
      go_wp2_with fail
      go_ret
      exact ⟨rfl, HB2.out.trans (hWr.mono (by have := HSZ.out; omega))⟩
/-- sets of one content -/
structure SetR.eqv (x y : SetR) : Prop where
  path : x.path = y.path
  org : x.org = y.org
  body : x.body.l = y.body.l
  len : x.snaps.l.length = y.snaps.l.length
  each : ∀ i (h : i < x.snaps.l.length) (h' : i < y.snaps.l.length), (x.snaps.l[i]'h).eqv (y.snaps.l[i]'h')
  own : x.own.l = y.own.l
theorem sameSetR_any (x y : SetR) (h : x.eqv y) (w : World) (B : Nat) (hB : B ≤ w.heap.size) (hx : x.rd w B) (hy : y.rd w B) (hz : x.sz) :
    Calls Tryz.prog 41 #[.agg #[.string ⟨x.path.toArray⟩, .string ⟨x.org.toArray⟩, .slice x.body.A x.body.n x.body.c, .slice x.snaps.A x.snaps.n x.snaps.c, .slice x.own.A x.own.n x.own.c], .agg #[.string ⟨y.path.toArray⟩, .string ⟨y.org.toArray⟩, .slice y.body.A y.body.n y.body.c, .slice y.snaps.A y.snaps.n y.snaps.c, .slice y.own.A y.own.n y.own.c]] w fun e w' => e = .returned (.bool true) ∧ Below w.heap.size w w' := by
  obtain ⟨h1, h2, h3, h4, h5, h6⟩ := h
  obtain ⟨pa, og, ⟨b1, bn, b3, bl⟩, ⟨s1, sn, s3, sl⟩, ⟨o1, on, o3, ol⟩⟩ := x
  obtain ⟨pa', og', ⟨b1', bn', b3', bl'⟩, ⟨s1', sn', s3', sl'⟩, ⟨o1', on', o3', ol'⟩⟩ := y
  simp only at h1 h2 h3 h4 h5 h6
  subst h1 h2 h3 h6
  have e1 : bn' = bn := hy.body.1.trans hx.body.1.symm
  have e2 : sn' = sn := by rw [show sn' = sl'.length from hy.snaps.1, show sn = sl.length from hx.snaps.1, h4]
  have e3 : on' = on := hy.own.1.trans hx.own.1.symm
  subst e1 e2 e3
  exact sameSetT_any pa og bl sl sl' ol b1 b1' bn' b3 b3' s1 s1' sn' s3 s3' o1 o1' on' o3 o3' w B hB hx.body.1 hx.snaps.1 hy.snaps.1 hx.own.1 hx.body.2.2 hy.body.2.2 hx.snaps.2.2 hy.snaps.2.2 hx.own.2.2 hy.own.2.2 hx.each hy.each h5 hz.each hz.body hz.snaps hz.own
end Go.Proofs.YtbppdlhbjddhjaaGreatDoor
namespace Go.Proofs.YtbppdlhbjddhjaaGreatDoor
open Go.RowKit

set_option maxRecDepth 100000 in
set_option maxHeartbeats 1000000 in
theorem sameG_any (a b : GL) (n m : Nat) (hna : n = a.length) (hmb : m = b.length) (A1 A2 : Option Addr) (c1 c2 : Nat) (w : World) (B1 B2 : Nat) (hr1 : Reads w B1 3 A1 n (gcells a)) (hr2 : Reads w B2 3 A2 m (gcells b)) (hn : n ≤ 5000000000000) (hm : m ≤ 5000000000000) :
    Calls Tryz.prog 39 #[.slice A1 n c1, .slice A2 m c2] w fun e w' => e = .returned (.bool (decide (a = b))) ∧ ∃ q, w' = w.drewN q := by
  have HN := Lib.hid hna
  have HM := Lib.hid hmb
  clear hna hmb
  by_cases hnm : n = m
  · subst hnm
    go_enter Tryz.func39, Tryz.ntmps39
    go_wp2_with fail
    go_loopw [5] (fun i wr => ∃ k : Nat, k ≤ n ∧ i = .int .i64 (k : Int) ∧ Hid (a.take k = b.take k) ∧ ∃ q, wr = w.drewN q) (fun i _ => n - (intOf i).toNat)
    case atStart => exact ⟨0, Nat.zero_le _, rfl, (show a.take 0 = b.take 0 by simp), 0, rfl⟩
    case round =>
      obtain ⟨k, hk, rfl, hok, q, rfl⟩ := hrel
      by_cases hlt : k < n
      · have hki : (k : Int) < (n : Int) := by omega
        have hka : k < a.length := by have := HN.out; omega
        have hkb : k < b.length := by have := HM.out; omega
        obtain ⟨ad1, rfl, _, hc1, hc1', hc1''⟩ := hr1.el3 HN.out hlt
        obtain ⟨ad2, rfl, _, hc2, hc2', hc2''⟩ := hr2.el3 HM.out hlt
        obtain ⟨x, hx⟩ : ∃ x, x = a[k]'hka := ⟨_, rfl⟩
        obtain ⟨y, hy⟩ : ∃ y, y = b[k]'hkb := ⟨_, rfl⟩
        rw [← hx] at hc1 hc1' hc1''
        rw [← hy] at hc2 hc2' hc2''
        have t1 := List.take_succ_eq_append_getElem hka
        have t2 := List.take_succ_eq_append_getElem hkb
        rw [← hx] at t1
        rw [← hy] at t2
        have T1 := Lib.hid t1
        have T2 := Lib.hid t2
        have X1 := Lib.hid hx
        have X2 := Lib.hid hy
        obtain ⟨xu, xp, xz⟩ := x
        obtain ⟨yu, yp, yz⟩ := y
        simp only at hc1 hc1' hc1'' hc2 hc2' hc2''
        clear hx hy t1 t2 hr1 hr2
        have HD : Hid (¬ (xu = yu ∧ xp = yp ∧ xz = yz) → decide (a = b) = false) := by
          show _ → _
          intro hxy
          refine decide_eq_false (fun e => hxy ?_)
          have : (xu, xp, xz) = (yu, yp, yz) := by rw [X1.out, X2.out]; simp only [e]
          injection this with e1 e2
          injection e2 with e2 e3
          exact ⟨e1, e2, e3⟩
        by_cases e1 : xu = yu
        · subst e1
          by_cases e2 : xp = yp
          · subst e2
            by_cases e3 : xz = yz
            · subst e3
              go_wp2_with fail
              go_region
              go_wp2_with fail
              go_roundw
              case rel =>
                refine ⟨k + 1, by omega, by go_num, ?_, q + 1, rfl⟩
                show a.take (k + 1) = b.take (k + 1)
                rw [T1.out, T2.out, hok.out]
              case measure => simp [intOf]; omega
            · replace HD := Lib.hid (HD.out (fun h => e3 h.2.2))
              go_wp2_with fail
              go_region
              go_wp2_with fail
              go_ret
              exact ⟨by rw [HD.out]; rfl, q + 1, rfl⟩
          · replace HD := Lib.hid (HD.out (fun h => e2 h.2.1))
            go_wp2_with fail
            go_region
            go_wp2_with fail
            go_ret
            exact ⟨by rw [HD.out]; rfl, q + 1, rfl⟩
        · replace HD := Lib.hid (HD.out (fun h => e1 h.1))
          go_wp2_with fail
          go_region
          go_wp2_with fail
          go_ret
          exact ⟨by rw [HD.out]; rfl, q + 1, rfl⟩
      · have HD : Hid (decide (a = b) = true) := by
          show _ = _
          refine decide_eq_true ?_
          have := hok.out
          rwa [List.take_of_length_le (by have := HN.out; omega), List.take_of_length_le (by have := HM.out; omega)] at this
        clear hr1 hr2
        go_wp2_with fail
        go_ret
        exact ⟨by rw [HD.out]; rfl, q, rfl⟩
  · have hd : ((n : Int) != (m : Int)) = true := by simp; omega
    have HD : Hid (decide (a = b) = false) := by
      show _ = _
      refine decide_eq_false (fun e => hnm ?_)
      rw [HN.out, HM.out, e]
    clear hnm hr1 hr2
    go_enter Tryz.func39, Tryz.ntmps39
    go_wp2_with fail
    go_ret
    exact ⟨by rw [HD.out]; rfl, 0, rfl⟩
theorem sameGT_any (l : GL) (n : Nat) (hn : n = l.length) (A A' : Option Addr) (c c' : Nat) (w : World) (B : Nat) (hr : Reads w B 3 A n (gcells l)) (hr' : Reads w B 3 A' n (gcells l)) (hm : n ≤ 1000000000000) :
    Calls Tryz.prog 39 #[.slice A n c, .slice A' n c'] w fun e w' => e = .returned (.bool true) ∧ Below w.heap.size w w' := by
  refine (sameG_any l l n n hn hn A A' c c' w B B hr hr' (by omega) (by omega)).mono ?_
  rintro e w1 ⟨rfl, q, rfl⟩
  exact ⟨by simp, below_drewN (Below.refl _ _) q⟩
set_option maxRecDepth 100000 in
set_option maxHeartbeats 1000000 in
theorem sameLogT_any (l : List EntryR) (n : Nat) (hnl : n = l.length) (A A' : Option Addr) (c c' : Nat) (w : World) (B : Nat) (hr : Reads w B 4 A n (cellsK encEntry l)) (hr' : Reads w B 4 A' n (cellsK encEntry l)) (hn : n ≤ 1000000000000) :
    Calls Tryz.prog 40 #[.slice A n c, .slice A' n c'] w fun e w' => e = .returned (.bool true) ∧ Below w.heap.size w w' := by
  have HN := Lib.hid hnl
  clear hnl
  go_enter Tryz.func40, Tryz.ntmps40
  go_wp2_with fail
  go_loopw [5] (fun j wr => ∃ k : Nat, k ≤ n ∧ j = .int .i64 (k : Int) ∧ ∃ q, wr = w.drewN q) (fun j _ => n - (intOf j).toNat)
  case atStart => exact ⟨0, Nat.zero_le _, rfl, 0, rfl⟩
  case round =>
    obtain ⟨k, hk, rfl, q, rfl⟩ := hrel
    by_cases hlt : k < n
    · have hki : (k : Int) < (n : Int) := by omega
      obtain ⟨ad, rfl, -, c0, c1, c2, c3⟩ := Reads.el4 (f0 := fun x : EntryR => .string ⟨x.user.toArray⟩) (f1 := fun x => .int .i64 x.kind) (f2 := fun x => .string ⟨x.path.toArray⟩) (f3 := fun x => .int .i64 x.err) hr HN.out hlt
      obtain ⟨ad2, rfl, -, d0, d1, d2, d3⟩ := Reads.el4 (f0 := fun x : EntryR => .string ⟨x.user.toArray⟩) (f1 := fun x => .int .i64 x.kind) (f2 := fun x => .string ⟨x.path.toArray⟩) (f3 := fun x => .int .i64 x.err) hr' HN.out hlt
      obtain ⟨x, hx⟩ : ∃ x, x = l[k]'(by have := HN.out; omega) := ⟨_, rfl⟩
      rw [← hx] at c0 c1 c2 c3 d0 d1 d2 d3
      obtain ⟨xu, xk, xp, xe⟩ := x
      simp only at c0 c1 c2 c3 d0 d1 d2 d3
      clear hx hr hr'
      go_wp2_with fail
      go_region
      go_wp2_with fail
      go_roundw
      case rel => exact ⟨k + 1, by omega, by go_num, q + 1, rfl⟩
      case measure => simp [intOf]; omega
    · clear hr hr'
      go_wp2_with fail
      go_ret
      exact ⟨rfl, below_drewN (Below.refl _ _) q⟩
set_option maxRecDepth 100000 in
set_option maxHeartbeats 4000000 in
theorem sameRecT_any (kind : Int) (nm : BS) (frm gd : Int) (ol : List (BS × BS)) (o1 o1' : Option Addr) (on o3 o3' : Nat) (ix ct : Int) (dt : BS) (sa sb sc sd : Int) (w : World) (B : Nat) (hB : B ≤ w.heap.size) (hon : on = ol.length) (ho : Reads w B 2 o1 on (pcells ol)) (ho' : Reads w B 2 o1' on (pcells ol)) (hom : on ≤ 1000000000000) :
    Calls Tryz.prog 93 #[.agg #[.int .i64 kind, .string ⟨nm.toArray⟩, .int .i64 frm, .int .i64 gd, .slice o1 on o3, .int .i64 ix, .int .i64 ct, .string ⟨dt.toArray⟩, .int .u64 sa, .int .u64 sb, .int .u64 sc, .int .u64 sd], .agg #[.int .i64 kind, .string ⟨nm.toArray⟩, .int .i64 frm, .int .i64 gd, .slice o1' on o3', .int .i64 ix, .int .i64 ct, .string ⟨dt.toArray⟩, .int .u64 sa, .int .u64 sb, .int .u64 sc, .int .u64 sd]] w fun e w' => e = .returned (.bool true) ∧ Below w.heap.size w w' := by
  have hb1 := (Below.refl w.heap.size w).alloc (Nat.le_refl _) (.cells #[.int .i64 kind, .string ⟨nm.toArray⟩, .int .i64 frm, .int .i64 gd, .slice o1 on o3, .int .i64 ix, .int .i64 ct, .string ⟨dt.toArray⟩, .int .u64 sa, .int .u64 sb, .int .u64 sc, .int .u64 sd] 71)
  have hb2 := hb1.alloc hb1.size (.cells #[.int .i64 kind, .string ⟨nm.toArray⟩, .int .i64 frm, .int .i64 gd, .slice o1' on o3', .int .i64 ix, .int .i64 ct, .string ⟨dt.toArray⟩, .int .u64 sa, .int .u64 sb, .int .u64 sc, .int .u64 sd] 71)
  have k1 := (Blk.new w 71 #[.int .i64 kind, .string ⟨nm.toArray⟩, .int .i64 frm, .int .i64 gd, .slice o1 on o3, .int .i64 ix, .int .i64 ct, .string ⟨dt.toArray⟩, .int .u64 sa, .int .u64 sb, .int .u64 sc, .int .u64 sd]).alloc (.cells #[.int .i64 kind, .string ⟨nm.toArray⟩, .int .i64 frm, .int .i64 gd, .slice o1' on o3', .int .i64 ix, .int .i64 ct, .string ⟨dt.toArray⟩, .int .u64 sa, .int .u64 sb, .int .u64 sc, .int .u64 sd] 71)
  have k2 := Blk.new (w.alloc (.cells #[.int .i64 kind, .string ⟨nm.toArray⟩, .int .i64 frm, .int .i64 gd, .slice o1 on o3, .int .i64 ix, .int .i64 ct, .string ⟨dt.toArray⟩, .int .u64 sa, .int .u64 sb, .int .u64 sc, .int .u64 sd] 71)) 71 #[.int .i64 kind, .string ⟨nm.toArray⟩, .int .i64 frm, .int .i64 gd, .slice o1' on o3', .int .i64 ix, .int .i64 ct, .string ⟨dt.toArray⟩, .int .u64 sa, .int .u64 sb, .int .u64 sc, .int .u64 sd]
  rw [show (w.alloc (.cells #[.int .i64 kind, .string ⟨nm.toArray⟩, .int .i64 frm, .int .i64 gd, .slice o1 on o3, .int .i64 ix, .int .i64 ct, .string ⟨dt.toArray⟩, .int .u64 sa, .int .u64 sb, .int .u64 sc, .int .u64 sd] 71)).heap.size = w.heap.size + 1 by simp] at k2
  obtain ⟨W2, hW2⟩ : ∃ W, W = (w.alloc (.cells #[.int .i64 kind, .string ⟨nm.toArray⟩, .int .i64 frm, .int .i64 gd, .slice o1 on o3, .int .i64 ix, .int .i64 ct, .string ⟨dt.toArray⟩, .int .u64 sa, .int .u64 sb, .int .u64 sc, .int .u64 sd] 71)).alloc (.cells #[.int .i64 kind, .string ⟨nm.toArray⟩, .int .i64 frm, .int .i64 gd, .slice o1' on o3', .int .i64 ix, .int .i64 ct, .string ⟨dt.toArray⟩, .int .u64 sa, .int .u64 sb, .int .u64 sc, .int .u64 sd] 71) := ⟨_, rfl⟩
  have hsz : W2.heap.size = w.heap.size + 2 := by rw [hW2]; simp
  rw [← hW2] at hb2 k1 k2
  have hS := Lib.hid (fun (W' : World) (hB' : Below W2.heap.size W2 W') => (⟨(k1.below hB' (by omega)).cell 0, (k1.below hB' (by omega)).cell 1, (k1.below hB' (by omega)).cell 2, (k1.below hB' (by omega)).cell 3, (k1.below hB' (by omega)).cell 4, (k1.below hB' (by omega)).cell 5, (k1.below hB' (by omega)).cell 6, (k1.below hB' (by omega)).cell 7, (k1.below hB' (by omega)).cell 8, (k1.below hB' (by omega)).cell 9, (k1.below hB' (by omega)).cell 10, (k1.below hB' (by omega)).cell 11, (k2.below hB' (by omega)).cell 0, (k2.below hB' (by omega)).cell 1, (k2.below hB' (by omega)).cell 2, (k2.below hB' (by omega)).cell 3, (k2.below hB' (by omega)).cell 4, (k2.below hB' (by omega)).cell 5, (k2.below hB' (by omega)).cell 6, (k2.below hB' (by omega)).cell 7, (k2.below hB' (by omega)).cell 8, (k2.below hB' (by omega)).cell 9, (k2.below hB' (by omega)).cell 10, (k2.below hB' (by omega)).cell 11⟩ : W'.cell? ⟨w.heap.size, 0, none⟩ = some (.int .i64 kind) ∧ W'.cell? ⟨w.heap.size, 1, none⟩ = some (.string ⟨nm.toArray⟩) ∧ W'.cell? ⟨w.heap.size, 2, none⟩ = some (.int .i64 frm) ∧ W'.cell? ⟨w.heap.size, 3, none⟩ = some (.int .i64 gd) ∧ W'.cell? ⟨w.heap.size, 4, none⟩ = some (.slice o1 on o3) ∧ W'.cell? ⟨w.heap.size, 5, none⟩ = some (.int .i64 ix) ∧ W'.cell? ⟨w.heap.size, 6, none⟩ = some (.int .i64 ct) ∧ W'.cell? ⟨w.heap.size, 7, none⟩ = some (.string ⟨dt.toArray⟩) ∧ W'.cell? ⟨w.heap.size, 8, none⟩ = some (.int .u64 sa) ∧ W'.cell? ⟨w.heap.size, 9, none⟩ = some (.int .u64 sb) ∧ W'.cell? ⟨w.heap.size, 10, none⟩ = some (.int .u64 sc) ∧ W'.cell? ⟨w.heap.size, 11, none⟩ = some (.int .u64 sd) ∧ W'.cell? ⟨w.heap.size + 1, 0, none⟩ = some (.int .i64 kind) ∧ W'.cell? ⟨w.heap.size + 1, 1, none⟩ = some (.string ⟨nm.toArray⟩) ∧ W'.cell? ⟨w.heap.size + 1, 2, none⟩ = some (.int .i64 frm) ∧ W'.cell? ⟨w.heap.size + 1, 3, none⟩ = some (.int .i64 gd) ∧ W'.cell? ⟨w.heap.size + 1, 4, none⟩ = some (.slice o1' on o3') ∧ W'.cell? ⟨w.heap.size + 1, 5, none⟩ = some (.int .i64 ix) ∧ W'.cell? ⟨w.heap.size + 1, 6, none⟩ = some (.int .i64 ct) ∧ W'.cell? ⟨w.heap.size + 1, 7, none⟩ = some (.string ⟨dt.toArray⟩) ∧ W'.cell? ⟨w.heap.size + 1, 8, none⟩ = some (.int .u64 sa) ∧ W'.cell? ⟨w.heap.size + 1, 9, none⟩ = some (.int .u64 sb) ∧ W'.cell? ⟨w.heap.size + 1, 10, none⟩ = some (.int .u64 sc) ∧ W'.cell? ⟨w.heap.size + 1, 11, none⟩ = some (.int .u64 sd)))
  have HSZ := Lib.hid hsz
  have HB2 := Lib.hid hb2
  have hmv : ∀ W', Below W2.heap.size W2 W' → Below B w W' := fun W' hB' => (hb2.trans (hB'.mono (by omega))).mono hB
  have hPr : Hid (∀ W, Below W2.heap.size W2 W → Calls Tryz.prog 91 #[.slice o1 on o3, .slice o1' on o3'] W fun e W' => e = .returned (.bool true) ∧ Below W.heap.size W W') := fun W h => samePropsT_any ol on hon o1 o1' o3 o3' W B (ho.below (hmv W h)) (ho'.below (hmv W h)) hom
  clear hb1 hb2 k1 k2 hsz hmv ho ho' hon
  have hW0 := Below.refl W2.heap.size W2
  go_enter Tryz.func93, Tryz.ntmps93
  go_wp2_with fail
  rw [← hW2]
  clear hW2
  refine (hPr.out _ hW0).mono ?_
  rintro e w3 ⟨rfl, hb3⟩
  go_wp2_with fail
  go_ret
  exact ⟨rfl, HB2.out.trans (hb3.mono (by have := HSZ.out; omega))⟩
set_option maxRecDepth 100000 in
set_option maxHeartbeats 4000000 in
theorem sameStageT_any (into : BS) (kind : Int) (nm : BS) (frm gd : Int) (ol : List (BS × BS)) (o1 o1' : Option Addr) (on o3 o3' : Nat) (ix ct : Int) (dt : BS) (sa sb sc sd : Int) (bl : List BlkT) (b1 b1' : Option Addr) (bn b3 b3' : Nat) (at_ nx ua ub uc ud : Int) (done : Bool) (w : World) (B : Nat) (hB : B ≤ w.heap.size) (hon : on = ol.length) (ho : Reads w B 2 o1 on (pcells ol)) (ho' : Reads w B 2 o1' on (pcells ol)) (hom : on ≤ 1000000000000)
    (hbn : bn = bl.length) (hb : Reads w B 2 b1 bn (bcells bl)) (hb' : Reads w B 2 b1' bn (bcells bl)) (hbm : bn ≤ 1000000000000) :
    Calls Tryz.prog 42 #[.agg #[.string ⟨into.toArray⟩, .int .i64 kind, .string ⟨nm.toArray⟩, .int .i64 frm, .int .i64 gd, .slice o1 on o3, .int .i64 ix, .int .i64 ct, .string ⟨dt.toArray⟩, .int .u64 sa, .int .u64 sb, .int .u64 sc, .int .u64 sd, .slice b1 bn b3, .int .i64 at_, .int .i64 nx, .int .u64 ua, .int .u64 ub, .int .u64 uc, .int .u64 ud, .bool done], .agg #[.string ⟨into.toArray⟩, .int .i64 kind, .string ⟨nm.toArray⟩, .int .i64 frm, .int .i64 gd, .slice o1' on o3', .int .i64 ix, .int .i64 ct, .string ⟨dt.toArray⟩, .int .u64 sa, .int .u64 sb, .int .u64 sc, .int .u64 sd, .slice b1' bn b3', .int .i64 at_, .int .i64 nx, .int .u64 ua, .int .u64 ub, .int .u64 uc, .int .u64 ud, .bool done]] w fun e w' => e = .returned (.bool true) ∧ Below w.heap.size w w' := by
  have hb1 := (Below.refl w.heap.size w).alloc (Nat.le_refl _) (.cells #[.string ⟨into.toArray⟩, .int .i64 kind, .string ⟨nm.toArray⟩, .int .i64 frm, .int .i64 gd, .slice o1 on o3, .int .i64 ix, .int .i64 ct, .string ⟨dt.toArray⟩, .int .u64 sa, .int .u64 sb, .int .u64 sc, .int .u64 sd, .slice b1 bn b3, .int .i64 at_, .int .i64 nx, .int .u64 ua, .int .u64 ub, .int .u64 uc, .int .u64 ud, .bool done] 73)
  have hb2 := hb1.alloc hb1.size (.cells #[.string ⟨into.toArray⟩, .int .i64 kind, .string ⟨nm.toArray⟩, .int .i64 frm, .int .i64 gd, .slice o1' on o3', .int .i64 ix, .int .i64 ct, .string ⟨dt.toArray⟩, .int .u64 sa, .int .u64 sb, .int .u64 sc, .int .u64 sd, .slice b1' bn b3', .int .i64 at_, .int .i64 nx, .int .u64 ua, .int .u64 ub, .int .u64 uc, .int .u64 ud, .bool done] 73)
  have k1 := (Blk.new w 73 #[.string ⟨into.toArray⟩, .int .i64 kind, .string ⟨nm.toArray⟩, .int .i64 frm, .int .i64 gd, .slice o1 on o3, .int .i64 ix, .int .i64 ct, .string ⟨dt.toArray⟩, .int .u64 sa, .int .u64 sb, .int .u64 sc, .int .u64 sd, .slice b1 bn b3, .int .i64 at_, .int .i64 nx, .int .u64 ua, .int .u64 ub, .int .u64 uc, .int .u64 ud, .bool done]).alloc (.cells #[.string ⟨into.toArray⟩, .int .i64 kind, .string ⟨nm.toArray⟩, .int .i64 frm, .int .i64 gd, .slice o1' on o3', .int .i64 ix, .int .i64 ct, .string ⟨dt.toArray⟩, .int .u64 sa, .int .u64 sb, .int .u64 sc, .int .u64 sd, .slice b1' bn b3', .int .i64 at_, .int .i64 nx, .int .u64 ua, .int .u64 ub, .int .u64 uc, .int .u64 ud, .bool done] 73)
  have k2 := Blk.new (w.alloc (.cells #[.string ⟨into.toArray⟩, .int .i64 kind, .string ⟨nm.toArray⟩, .int .i64 frm, .int .i64 gd, .slice o1 on o3, .int .i64 ix, .int .i64 ct, .string ⟨dt.toArray⟩, .int .u64 sa, .int .u64 sb, .int .u64 sc, .int .u64 sd, .slice b1 bn b3, .int .i64 at_, .int .i64 nx, .int .u64 ua, .int .u64 ub, .int .u64 uc, .int .u64 ud, .bool done] 73)) 73 #[.string ⟨into.toArray⟩, .int .i64 kind, .string ⟨nm.toArray⟩, .int .i64 frm, .int .i64 gd, .slice o1' on o3', .int .i64 ix, .int .i64 ct, .string ⟨dt.toArray⟩, .int .u64 sa, .int .u64 sb, .int .u64 sc, .int .u64 sd, .slice b1' bn b3', .int .i64 at_, .int .i64 nx, .int .u64 ua, .int .u64 ub, .int .u64 uc, .int .u64 ud, .bool done]
  rw [show (w.alloc (.cells #[.string ⟨into.toArray⟩, .int .i64 kind, .string ⟨nm.toArray⟩, .int .i64 frm, .int .i64 gd, .slice o1 on o3, .int .i64 ix, .int .i64 ct, .string ⟨dt.toArray⟩, .int .u64 sa, .int .u64 sb, .int .u64 sc, .int .u64 sd, .slice b1 bn b3, .int .i64 at_, .int .i64 nx, .int .u64 ua, .int .u64 ub, .int .u64 uc, .int .u64 ud, .bool done] 73)).heap.size = w.heap.size + 1 by simp] at k2
  obtain ⟨W2, hW2⟩ : ∃ W, W = (w.alloc (.cells #[.string ⟨into.toArray⟩, .int .i64 kind, .string ⟨nm.toArray⟩, .int .i64 frm, .int .i64 gd, .slice o1 on o3, .int .i64 ix, .int .i64 ct, .string ⟨dt.toArray⟩, .int .u64 sa, .int .u64 sb, .int .u64 sc, .int .u64 sd, .slice b1 bn b3, .int .i64 at_, .int .i64 nx, .int .u64 ua, .int .u64 ub, .int .u64 uc, .int .u64 ud, .bool done] 73)).alloc (.cells #[.string ⟨into.toArray⟩, .int .i64 kind, .string ⟨nm.toArray⟩, .int .i64 frm, .int .i64 gd, .slice o1' on o3', .int .i64 ix, .int .i64 ct, .string ⟨dt.toArray⟩, .int .u64 sa, .int .u64 sb, .int .u64 sc, .int .u64 sd, .slice b1' bn b3', .int .i64 at_, .int .i64 nx, .int .u64 ua, .int .u64 ub, .int .u64 uc, .int .u64 ud, .bool done] 73) := ⟨_, rfl⟩
  have hsz : W2.heap.size = w.heap.size + 2 := by rw [hW2]; simp
  rw [← hW2] at hb2 k1 k2
  have hS := Lib.hid (fun (W' : World) (hB' : Below W2.heap.size W2 W') => (⟨(k1.below hB' (by omega)).cell 0, (k1.below hB' (by omega)).cell 1, (k1.below hB' (by omega)).cell 2, (k1.below hB' (by omega)).cell 3, (k1.below hB' (by omega)).cell 4, (k1.below hB' (by omega)).cell 5, (k1.below hB' (by omega)).cell 6, (k1.below hB' (by omega)).cell 7, (k1.below hB' (by omega)).cell 8, (k1.below hB' (by omega)).cell 9, (k1.below hB' (by omega)).cell 10, (k1.below hB' (by omega)).cell 11, (k1.below hB' (by omega)).cell 12, (k1.below hB' (by omega)).cell 13, (k1.below hB' (by omega)).cell 14, (k1.below hB' (by omega)).cell 15, (k1.below hB' (by omega)).cell 16, (k1.below hB' (by omega)).cell 17, (k1.below hB' (by omega)).cell 18, (k1.below hB' (by omega)).cell 19, (k1.below hB' (by omega)).cell 20, (k2.below hB' (by omega)).cell 0, (k2.below hB' (by omega)).cell 1, (k2.below hB' (by omega)).cell 2, (k2.below hB' (by omega)).cell 3, (k2.below hB' (by omega)).cell 4, (k2.below hB' (by omega)).cell 5, (k2.below hB' (by omega)).cell 6, (k2.below hB' (by omega)).cell 7, (k2.below hB' (by omega)).cell 8, (k2.below hB' (by omega)).cell 9, (k2.below hB' (by omega)).cell 10, (k2.below hB' (by omega)).cell 11, (k2.below hB' (by omega)).cell 12, (k2.below hB' (by omega)).cell 13, (k2.below hB' (by omega)).cell 14, (k2.below hB' (by omega)).cell 15, (k2.below hB' (by omega)).cell 16, (k2.below hB' (by omega)).cell 17, (k2.below hB' (by omega)).cell 18, (k2.below hB' (by omega)).cell 19, (k2.below hB' (by omega)).cell 20⟩ : W'.cell? ⟨w.heap.size, 0, none⟩ = some (.string ⟨into.toArray⟩) ∧ W'.cell? ⟨w.heap.size, 1, none⟩ = some (.int .i64 kind) ∧ W'.cell? ⟨w.heap.size, 2, none⟩ = some (.string ⟨nm.toArray⟩) ∧ W'.cell? ⟨w.heap.size, 3, none⟩ = some (.int .i64 frm) ∧ W'.cell? ⟨w.heap.size, 4, none⟩ = some (.int .i64 gd) ∧ W'.cell? ⟨w.heap.size, 5, none⟩ = some (.slice o1 on o3) ∧ W'.cell? ⟨w.heap.size, 6, none⟩ = some (.int .i64 ix) ∧ W'.cell? ⟨w.heap.size, 7, none⟩ = some (.int .i64 ct) ∧ W'.cell? ⟨w.heap.size, 8, none⟩ = some (.string ⟨dt.toArray⟩) ∧ W'.cell? ⟨w.heap.size, 9, none⟩ = some (.int .u64 sa) ∧ W'.cell? ⟨w.heap.size, 10, none⟩ = some (.int .u64 sb) ∧ W'.cell? ⟨w.heap.size, 11, none⟩ = some (.int .u64 sc) ∧ W'.cell? ⟨w.heap.size, 12, none⟩ = some (.int .u64 sd) ∧ W'.cell? ⟨w.heap.size, 13, none⟩ = some (.slice b1 bn b3) ∧ W'.cell? ⟨w.heap.size, 14, none⟩ = some (.int .i64 at_) ∧ W'.cell? ⟨w.heap.size, 15, none⟩ = some (.int .i64 nx) ∧ W'.cell? ⟨w.heap.size, 16, none⟩ = some (.int .u64 ua) ∧ W'.cell? ⟨w.heap.size, 17, none⟩ = some (.int .u64 ub) ∧ W'.cell? ⟨w.heap.size, 18, none⟩ = some (.int .u64 uc) ∧ W'.cell? ⟨w.heap.size, 19, none⟩ = some (.int .u64 ud) ∧ W'.cell? ⟨w.heap.size, 20, none⟩ = some (.bool done) ∧ W'.cell? ⟨w.heap.size + 1, 0, none⟩ = some (.string ⟨into.toArray⟩) ∧ W'.cell? ⟨w.heap.size + 1, 1, none⟩ = some (.int .i64 kind) ∧ W'.cell? ⟨w.heap.size + 1, 2, none⟩ = some (.string ⟨nm.toArray⟩) ∧ W'.cell? ⟨w.heap.size + 1, 3, none⟩ = some (.int .i64 frm) ∧ W'.cell? ⟨w.heap.size + 1, 4, none⟩ = some (.int .i64 gd) ∧ W'.cell? ⟨w.heap.size + 1, 5, none⟩ = some (.slice o1' on o3') ∧ W'.cell? ⟨w.heap.size + 1, 6, none⟩ = some (.int .i64 ix) ∧ W'.cell? ⟨w.heap.size + 1, 7, none⟩ = some (.int .i64 ct) ∧ W'.cell? ⟨w.heap.size + 1, 8, none⟩ = some (.string ⟨dt.toArray⟩) ∧ W'.cell? ⟨w.heap.size + 1, 9, none⟩ = some (.int .u64 sa) ∧ W'.cell? ⟨w.heap.size + 1, 10, none⟩ = some (.int .u64 sb) ∧ W'.cell? ⟨w.heap.size + 1, 11, none⟩ = some (.int .u64 sc) ∧ W'.cell? ⟨w.heap.size + 1, 12, none⟩ = some (.int .u64 sd) ∧ W'.cell? ⟨w.heap.size + 1, 13, none⟩ = some (.slice b1' bn b3') ∧ W'.cell? ⟨w.heap.size + 1, 14, none⟩ = some (.int .i64 at_) ∧ W'.cell? ⟨w.heap.size + 1, 15, none⟩ = some (.int .i64 nx) ∧ W'.cell? ⟨w.heap.size + 1, 16, none⟩ = some (.int .u64 ua) ∧ W'.cell? ⟨w.heap.size + 1, 17, none⟩ = some (.int .u64 ub) ∧ W'.cell? ⟨w.heap.size + 1, 18, none⟩ = some (.int .u64 uc) ∧ W'.cell? ⟨w.heap.size + 1, 19, none⟩ = some (.int .u64 ud) ∧ W'.cell? ⟨w.heap.size + 1, 20, none⟩ = some (.bool done)))
  have HSZ := Lib.hid hsz
  have HB2 := Lib.hid hb2
  have hmv : ∀ W', Below W2.heap.size W2 W' → Below B w W' := fun W' hB' => (hb2.trans (hB'.mono (by omega))).mono hB
  have hBd : Hid (∀ W, Below W2.heap.size W2 W → Calls Tryz.prog 90 #[.slice b1 bn b3, .slice b1' bn b3'] W fun e W' => e = .returned (.bool true) ∧ Below W.heap.size W W') := fun W h => rsameT_any bl bn hbn b1 b1' b3 b3' W B (hb.below (hmv W h)) (hb'.below (hmv W h)) hbm
  have hRc : Hid (∀ W, Below W2.heap.size W2 W → Calls Tryz.prog 93 #[.agg #[.int .i64 kind, .string ⟨nm.toArray⟩, .int .i64 frm, .int .i64 gd, .slice o1 on o3, .int .i64 ix, .int .i64 ct, .string ⟨dt.toArray⟩, .int .u64 sa, .int .u64 sb, .int .u64 sc, .int .u64 sd], .agg #[.int .i64 kind, .string ⟨nm.toArray⟩, .int .i64 frm, .int .i64 gd, .slice o1' on o3', .int .i64 ix, .int .i64 ct, .string ⟨dt.toArray⟩, .int .u64 sa, .int .u64 sb, .int .u64 sc, .int .u64 sd]] W fun e W' => e = .returned (.bool true) ∧ Below W.heap.size W W') := fun W h => sameRecT_any kind nm frm gd ol o1 o1' on o3 o3' ix ct dt sa sb sc sd W B (by have := h.size; omega) hon (ho.below (hmv W h)) (ho'.below (hmv W h)) hom
  clear hb1 hb2 k1 k2 hsz hmv ho ho' hon hb hb' hbn
  have hW0 := Below.refl W2.heap.size W2
  obtain ⟨p0, p1, p2, p3, p4, p5, p6, p7, p8, p9, p10, p11, p12, p13, p14, p15, p16, p17, p18, p19, p20, q0, q1, q2, q3, q4, q5, q6, q7, q8, q9, q10, q11, q12, q13, q14, q15, q16, q17, q18, q19, q20⟩ := hS.out _ hW0
  go_enter Tryz.func42, Tryz.ntmps42
  go_wp2_with fail
  rw [← hW2]
  clear hW2 p0 p1 p2 p3 p4 p5 p6 p7 p8 p9 p10 p11 p12 p13 p14 p15 p16 p17 p18 p19 p20 q0 q1 q2 q3 q4 q5 q6 q7 q8 q9 q10 q11 q12 q13 q14 q15 q16 q17 q18 q19 q20
  refine (hRc.out _ hW0).mono ?_
  rintro e w3 ⟨rfl, hb3⟩
  have hW3 := hW0.trans (hb3.mono hW0.size)
  clear hb3 hRc
  obtain ⟨p0, p1, p2, p3, p4, p5, p6, p7, p8, p9, p10, p11, p12, p13, p14, p15, p16, p17, p18, p19, p20, q0, q1, q2, q3, q4, q5, q6, q7, q8, q9, q10, q11, q12, q13, q14, q15, q16, q17, q18, q19, q20⟩ := hS.out _ hW3
  go_wp2_with fail
  refine (hBd.out _ hW3).mono ?_
  rintro e w4 ⟨rfl, hb4⟩
  have hW4 := hW3.trans (hb4.mono hW3.size)
  clear hb4 hBd p0 p1 p2 p3 p4 p5 p6 p7 p8 p9 p10 p11 p12 p13 p14 p15 p16 p17 p18 p19 p20 q0 q1 q2 q3 q4 q5 q6 q7 q8 q9 q10 q11 q12 q13 q14 q15 q16 q17 q18 q19 q20
  obtain ⟨p0, p1, p2, p3, p4, p5, p6, p7, p8, p9, p10, p11, p12, p13, p14, p15, p16, p17, p18, p19, p20, q0, q1, q2, q3, q4, q5, q6, q7, q8, q9, q10, q11, q12, q13, q14, q15, q16, q17, q18, q19, q20⟩ := hS.out _ hW4
  go_wp2_with fail
  clear p0 p1 p2 p3 p4 p5 p6 p7 p8 p9 p10 p11 p12 p13 p14 p15 p16 p17 p18 p19 p20 q0 q1 q2 q3 q4 q5 q6 q7 q8 q9 q10 q11 q12 q13 q14 q15 q16 q17 q18 q19 q20
  go_ret
  exact ⟨rfl, HB2.out.trans (hW4.mono (by have := HSZ.out; omega))⟩
end Go.Proofs.YtbppdlhbjddhjaaGreatDoor
namespace Go.Proofs.YtbppdlhbjddhjaaGreatDoor
open Go.RowKit

/-- stages of one content -/
structure StageR.eqv (x y : StageR) : Prop where
  into : x.into = y.into
  kind : x.kind = y.kind
  nm : x.nm = y.nm
  frm : x.frm = y.frm
  gd : x.gd = y.gd
  own : x.own.l = y.own.l
  ix : x.ix = y.ix
  ct : x.ct = y.ct
  dt : x.dt = y.dt
  sm : x.sm = y.sm
  body : x.body.l = y.body.l
  at_ : x.at_ = y.at_
  nx : x.nx = y.nx
  sum : x.sum = y.sum
  done : x.done = y.done
theorem sameStageR_any (x y : StageR) (h : x.eqv y) (w : World) (B : Nat) (hB : B ≤ w.heap.size) (hx : x.rd w B) (hy : y.rd w B) (hz : x.sz) :
    Calls Tryz.prog 42 #[.agg #[.string ⟨x.into.toArray⟩, .int .i64 x.kind, .string ⟨x.nm.toArray⟩, .int .i64 x.frm, .int .i64 x.gd, .slice x.own.A x.own.n x.own.c, .int .i64 x.ix, .int .i64 x.ct, .string ⟨x.dt.toArray⟩, .int .u64 x.sm.a, .int .u64 x.sm.b, .int .u64 x.sm.c, .int .u64 x.sm.d, .slice x.body.A x.body.n x.body.c, .int .i64 x.at_, .int .i64 x.nx, .int .u64 x.sum.a, .int .u64 x.sum.b, .int .u64 x.sum.c, .int .u64 x.sum.d, .bool x.done], .agg #[.string ⟨y.into.toArray⟩, .int .i64 y.kind, .string ⟨y.nm.toArray⟩, .int .i64 y.frm, .int .i64 y.gd, .slice y.own.A y.own.n y.own.c, .int .i64 y.ix, .int .i64 y.ct, .string ⟨y.dt.toArray⟩, .int .u64 y.sm.a, .int .u64 y.sm.b, .int .u64 y.sm.c, .int .u64 y.sm.d, .slice y.body.A y.body.n y.body.c, .int .i64 y.at_, .int .i64 y.nx, .int .u64 y.sum.a, .int .u64 y.sum.b, .int .u64 y.sum.c, .int .u64 y.sum.d, .bool y.done]] w fun e w' => e = .returned (.bool true) ∧ Below w.heap.size w w' := by
  obtain ⟨h1, h2, h3, h4, h5, h6, h7, h8, h9, h10, h11, h12, h13, h14, h15⟩ := h
  obtain ⟨into, kind, nm, frm, gd, ⟨o1, on, o3, ol⟩, ix, ct, dt, ⟨sa, sb, sc, sd⟩, ⟨b1, bn, b3, bl⟩, at_, nx, ⟨ua, ub, uc, ud⟩, done⟩ := x
  obtain ⟨into', kind', nm', frm', gd', ⟨o1', on', o3', ol'⟩, ix', ct', dt', sm', ⟨b1', bn', b3', bl'⟩, at_', nx', sum', done'⟩ := y
  simp only at h1 h2 h3 h4 h5 h6 h7 h8 h9 h10 h11 h12 h13 h14 h15
  subst h1 h2 h3 h4 h5 h6 h7 h8 h9 h10 h11 h12 h13 h14 h15
  have e1 : bn' = bn := hy.body.1.trans hx.body.1.symm
  have e3 : on' = on := hy.own.1.trans hx.own.1.symm
  subst e1 e3
  exact sameStageT_any into kind nm frm gd ol o1 o1' on' o3 o3' ix ct dt sa sb sc sd bl b1 b1' bn' b3 b3' at_ nx ua ub uc ud done w B hB hx.own.1 hx.own.2.2 hy.own.2.2 hz.own hx.body.1 hx.body.2.2 hy.body.2.2 hz.body
set_option maxRecDepth 100000 in
set_option maxHeartbeats 8000000 in
theorem sameTenT_any (nm : BS) (quota next : Int) (sl sl' : List SetR) (gl : GL) (tl tl' : List StageR) (ll : List EntryR) (s1 s1' : Option Addr) (sn s3 s3' : Nat) (g1 g1' : Option Addr) (gn g3 g3' : Nat) (t1 t1' : Option Addr) (tn t3 t3' : Nat) (l1 l1' : Option Addr) (ln l3 l3' : Nat) (w : World) (B : Nat) (hB : B ≤ w.heap.size)
    (hx : TenR.rd w B ⟨nm, quota, next, ⟨s1, sn, s3, sl⟩, ⟨g1, gn, g3, gl⟩, ⟨t1, tn, t3, tl⟩, ⟨l1, ln, l3, ll⟩⟩) (hy : TenR.rd w B ⟨nm, quota, next, ⟨s1', sn, s3', sl'⟩, ⟨g1', gn, g3', gl⟩, ⟨t1', tn, t3', tl'⟩, ⟨l1', ln, l3', ll⟩⟩) (hz : TenR.sz ⟨nm, quota, next, ⟨s1, sn, s3, sl⟩, ⟨g1, gn, g3, gl⟩, ⟨t1, tn, t3, tl⟩, ⟨l1, ln, l3, ll⟩⟩)
    (heS : ∀ i (h : i < sl.length) (h' : i < sl'.length), (sl[i]'h).eqv (sl'[i]'h')) (heT : ∀ i (h : i < tl.length) (h' : i < tl'.length), (tl[i]'h).eqv (tl'[i]'h')) :
    Calls Tryz.prog 11 #[.agg #[.string ⟨nm.toArray⟩, .int .i64 quota, .int .i64 next, .slice s1 sn s3, .slice g1 gn g3, .slice t1 tn t3, .slice l1 ln l3], .agg #[.string ⟨nm.toArray⟩, .int .i64 quota, .int .i64 next, .slice s1' sn s3', .slice g1' gn g3', .slice t1' tn t3', .slice l1' ln l3']] w fun e w' => e = .returned (.bool true) ∧ Below w.heap.size w w' := by
  have hb1 := (Below.refl w.heap.size w).alloc (Nat.le_refl _) (.cells #[.string ⟨nm.toArray⟩, .int .i64 quota, .int .i64 next, .slice s1 sn s3, .slice g1 gn g3, .slice t1 tn t3, .slice l1 ln l3] 27)
  have hb2 := hb1.alloc hb1.size (.cells #[.string ⟨nm.toArray⟩, .int .i64 quota, .int .i64 next, .slice s1' sn s3', .slice g1' gn g3', .slice t1' tn t3', .slice l1' ln l3'] 27)
  have k1 := (Blk.new w 27 #[.string ⟨nm.toArray⟩, .int .i64 quota, .int .i64 next, .slice s1 sn s3, .slice g1 gn g3, .slice t1 tn t3, .slice l1 ln l3]).alloc (.cells #[.string ⟨nm.toArray⟩, .int .i64 quota, .int .i64 next, .slice s1' sn s3', .slice g1' gn g3', .slice t1' tn t3', .slice l1' ln l3'] 27)
  have k2 := Blk.new (w.alloc (.cells #[.string ⟨nm.toArray⟩, .int .i64 quota, .int .i64 next, .slice s1 sn s3, .slice g1 gn g3, .slice t1 tn t3, .slice l1 ln l3] 27)) 27 #[.string ⟨nm.toArray⟩, .int .i64 quota, .int .i64 next, .slice s1' sn s3', .slice g1' gn g3', .slice t1' tn t3', .slice l1' ln l3']
  rw [show (w.alloc (.cells #[.string ⟨nm.toArray⟩, .int .i64 quota, .int .i64 next, .slice s1 sn s3, .slice g1 gn g3, .slice t1 tn t3, .slice l1 ln l3] 27)).heap.size = w.heap.size + 1 by simp] at k2
  obtain ⟨W2, hW2⟩ : ∃ W, W = (w.alloc (.cells #[.string ⟨nm.toArray⟩, .int .i64 quota, .int .i64 next, .slice s1 sn s3, .slice g1 gn g3, .slice t1 tn t3, .slice l1 ln l3] 27)).alloc (.cells #[.string ⟨nm.toArray⟩, .int .i64 quota, .int .i64 next, .slice s1' sn s3', .slice g1' gn g3', .slice t1' tn t3', .slice l1' ln l3'] 27) := ⟨_, rfl⟩
  have hsz : W2.heap.size = w.heap.size + 2 := by rw [hW2]; simp
  rw [← hW2] at hb2 k1 k2
  have hS := Lib.hid (fun (W' : World) (hB' : Below W2.heap.size W2 W') => (⟨(k1.below hB' (by omega)).cell 0, (k1.below hB' (by omega)).cell 1, (k1.below hB' (by omega)).cell 2, (k1.below hB' (by omega)).cell 3, (k1.below hB' (by omega)).cell 4, (k1.below hB' (by omega)).cell 5, (k1.below hB' (by omega)).cell 6, (k2.below hB' (by omega)).cell 0, (k2.below hB' (by omega)).cell 1, (k2.below hB' (by omega)).cell 2, (k2.below hB' (by omega)).cell 3, (k2.below hB' (by omega)).cell 4, (k2.below hB' (by omega)).cell 5, (k2.below hB' (by omega)).cell 6⟩ : W'.cell? ⟨w.heap.size, 0, none⟩ = some (.string ⟨nm.toArray⟩) ∧ W'.cell? ⟨w.heap.size, 1, none⟩ = some (.int .i64 quota) ∧ W'.cell? ⟨w.heap.size, 2, none⟩ = some (.int .i64 next) ∧ W'.cell? ⟨w.heap.size, 3, none⟩ = some (.slice s1 sn s3) ∧ W'.cell? ⟨w.heap.size, 4, none⟩ = some (.slice g1 gn g3) ∧ W'.cell? ⟨w.heap.size, 5, none⟩ = some (.slice t1 tn t3) ∧ W'.cell? ⟨w.heap.size, 6, none⟩ = some (.slice l1 ln l3) ∧ W'.cell? ⟨w.heap.size + 1, 0, none⟩ = some (.string ⟨nm.toArray⟩) ∧ W'.cell? ⟨w.heap.size + 1, 1, none⟩ = some (.int .i64 quota) ∧ W'.cell? ⟨w.heap.size + 1, 2, none⟩ = some (.int .i64 next) ∧ W'.cell? ⟨w.heap.size + 1, 3, none⟩ = some (.slice s1' sn s3') ∧ W'.cell? ⟨w.heap.size + 1, 4, none⟩ = some (.slice g1' gn g3') ∧ W'.cell? ⟨w.heap.size + 1, 5, none⟩ = some (.slice t1' tn t3') ∧ W'.cell? ⟨w.heap.size + 1, 6, none⟩ = some (.slice l1' ln l3')))
  have HSZ := Lib.hid hsz
  have HB2 := Lib.hid hb2
  have hmv : ∀ W', Below W2.heap.size W2 W' → Below B w W' := fun W' hB' => (hb2.trans (hB'.mono (by omega))).mono hB
  have hGr : Hid (∀ W, Below W2.heap.size W2 W → Calls Tryz.prog 39 #[.slice g1 gn g3, .slice g1' gn g3'] W fun e W' => e = .returned (.bool true) ∧ Below W.heap.size W W') := fun W h => sameGT_any gl gn hx.grants.1 g1 g1' g3 g3' W B (hx.grants.2.2.below (hmv W h)) (hy.grants.2.2.below (hmv W h)) hz.grants
  have hLg : Hid (∀ W, Below W2.heap.size W2 W → Calls Tryz.prog 40 #[.slice l1 ln l3, .slice l1' ln l3'] W fun e W' => e = .returned (.bool true) ∧ Below W.heap.size W W') := fun W h => sameLogT_any ll ln hx.log.1 l1 l1' l3 l3' W B (hx.log.2.2.below (hmv W h)) (hy.log.2.2.below (hmv W h)) hz.log
  have hTs : Hid (∀ W, Below W2.heap.size W2 W → Reads W B 5 s1 sn (cellsK encSet sl) ∧ Reads W B 5 s1' sn (cellsK encSet sl') ∧ B ≤ W.heap.size ∧ (∀ y ∈ sl, y.rd W B) ∧ ∀ y ∈ sl', y.rd W B) := fun W h => ⟨(hx.below (hmv W h)).sets.2.2, (hy.below (hmv W h)).sets.2.2, by have := h.size; omega, (hx.below (hmv W h)).eachS, (hy.below (hmv W h)).eachS⟩
  have hTt : Hid (∀ W, Below W2.heap.size W2 W → Reads W B 21 t1 tn (cellsK encStage tl) ∧ Reads W B 21 t1' tn (cellsK encStage tl') ∧ B ≤ W.heap.size ∧ (∀ y ∈ tl, y.rd W B) ∧ ∀ y ∈ tl', y.rd W B) := fun W h => ⟨(hx.below (hmv W h)).stages.2.2, (hy.below (hmv W h)).stages.2.2, by have := h.size; omega, (hx.below (hmv W h)).eachG, (hy.below (hmv W h)).eachG⟩
  have HSN := Lib.hid (show sn = sl.length from hx.sets.1)
  have HSN' := Lib.hid (show sn = sl'.length from hy.sets.1)
  have HTN := Lib.hid (show tn = tl.length from hx.stages.1)
  have HTN' := Lib.hid (show tn = tl'.length from hy.stages.1)
  have HEQS := Lib.hid heS
  have HEQT := Lib.hid heT
  have HZS := Lib.hid (show ∀ y ∈ sl, y.sz from hz.eachS)
  have HZT := Lib.hid (show ∀ y ∈ tl, y.sz from hz.eachT)
  have hsm : sn ≤ 1000000000000 := hz.sets
  have htm : tn ≤ 1000000000000 := hz.stages
  clear hb1 hb2 k1 k2 hsz hmv hx hy hz heS heT
  have hW0 := Below.refl W2.heap.size W2
  go_enter Tryz.func11, Tryz.ntmps11
  go_wp2_with fail
  rw [← hW2]
  clear hW2
  refine (hGr.out _ hW0).mono ?_
  rintro e w3 ⟨rfl, hb3⟩
  have hW3 := hW0.trans (hb3.mono hW0.size)
  clear hb3 hGr
  obtain ⟨p0, p1, p2, p3, p4, p5, p6, q0, q1, q2, q3, q4, q5, q6⟩ := hS.out _ hW3
  go_wp2_with fail
  refine (hLg.out _ hW3).mono ?_
  rintro e w4 ⟨rfl, hb4⟩
  have hW4 := hW3.trans (hb4.mono hW3.size)
  clear hb4 hLg p0 p1 p2 p3 p4 p5 p6 q0 q1 q2 q3 q4 q5 q6
  obtain ⟨p0, p1, p2, p3, p4, p5, p6, q0, q1, q2, q3, q4, q5, q6⟩ := hS.out _ hW4
  go_wp2_with fail
  clear p0 p1 p2 p3 p4 p5 p6 q0 q1 q2 q3 q4 q5 q6
  go_loopw [5] (fun j wr => ∃ k : Nat, k ≤ sn ∧ j = .int .i64 (k : Int) ∧ Below W2.heap.size W2 wr) (fun j _ => sn - (intOf j).toNat)
  case atStart => exact ⟨0, Nat.zero_le _, rfl, hW4⟩
  case round =>
    clear hW4 hW3 hW0
    obtain ⟨k, hk, rfl, hWr⟩ := hrel
    obtain ⟨p0, p1, p2, p3, p4, p5, p6, q0, q1, q2, q3, q4, q5, q6⟩ := hS.out _ hWr
    by_cases hlt : k < sn
    · have hki : (k : Int) < (sn : Int) := by omega
      obtain ⟨r1, r2, -⟩ := hTs.out _ hWr
      obtain ⟨ad, rfl, -⟩ := set_at r1 HSN.out hlt
      obtain ⟨ad2, rfl, -⟩ := set_at r2 HSN'.out hlt
      have hkl : k < sl.length := by have := HSN.out; omega
      have hkl' : k < sl'.length := by have := HSN'.out; omega
      have hev := HEQS.out k hkl hkl'
      have hxm : sl[k]'hkl ∈ sl := List.getElem_mem _
      have hym : sl'[k]'hkl' ∈ sl' := List.getElem_mem _
      have hX : Hid (∀ W, Below W2.heap.size W2 W → (W.cell? (ad.add (k * 5)) = some (.string ⟨(sl[k]'hkl).path.toArray⟩) ∧ W.cell? ⟨(ad.add (k * 5)).block, (ad.add (k * 5)).off + 1, none⟩ = some (.string ⟨(sl[k]'hkl).org.toArray⟩) ∧ W.cell? ⟨(ad.add (k * 5)).block, (ad.add (k * 5)).off + 2, none⟩ = some (.slice (sl[k]'hkl).body.A (sl[k]'hkl).body.n (sl[k]'hkl).body.c) ∧ W.cell? ⟨(ad.add (k * 5)).block, (ad.add (k * 5)).off + 3, none⟩ = some (.slice (sl[k]'hkl).snaps.A (sl[k]'hkl).snaps.n (sl[k]'hkl).snaps.c) ∧ W.cell? ⟨(ad.add (k * 5)).block, (ad.add (k * 5)).off + 4, none⟩ = some (.slice (sl[k]'hkl).own.A (sl[k]'hkl).own.n (sl[k]'hkl).own.c)) ∧ (W.cell? (ad2.add (k * 5)) = some (.string ⟨(sl'[k]'hkl').path.toArray⟩) ∧ W.cell? ⟨(ad2.add (k * 5)).block, (ad2.add (k * 5)).off + 1, none⟩ = some (.string ⟨(sl'[k]'hkl').org.toArray⟩) ∧ W.cell? ⟨(ad2.add (k * 5)).block, (ad2.add (k * 5)).off + 2, none⟩ = some (.slice (sl'[k]'hkl').body.A (sl'[k]'hkl').body.n (sl'[k]'hkl').body.c) ∧ W.cell? ⟨(ad2.add (k * 5)).block, (ad2.add (k * 5)).off + 3, none⟩ = some (.slice (sl'[k]'hkl').snaps.A (sl'[k]'hkl').snaps.n (sl'[k]'hkl').snaps.c) ∧ W.cell? ⟨(ad2.add (k * 5)).block, (ad2.add (k * 5)).off + 4, none⟩ = some (.slice (sl'[k]'hkl').own.A (sl'[k]'hkl').own.n (sl'[k]'hkl').own.c))) := by
        show ∀ W, _ → _
        intro W hb
        obtain ⟨u1, u2, -⟩ := hTs.out _ hb
        obtain ⟨ad3, e3, -, c⟩ := set_at u1 HSN.out hlt
        obtain ⟨ad4, e4, -, d⟩ := set_at u2 HSN'.out hlt
        injection e3 with e3
        injection e4 with e4
        subst e3 e4
        exact ⟨c, d⟩
      have hSS : Hid (∀ W, Below W2.heap.size W2 W → Calls Tryz.prog 41 #[.agg #[.string ⟨(sl[k]'hkl).path.toArray⟩, .string ⟨(sl[k]'hkl).org.toArray⟩, .slice (sl[k]'hkl).body.A (sl[k]'hkl).body.n (sl[k]'hkl).body.c, .slice (sl[k]'hkl).snaps.A (sl[k]'hkl).snaps.n (sl[k]'hkl).snaps.c, .slice (sl[k]'hkl).own.A (sl[k]'hkl).own.n (sl[k]'hkl).own.c], .agg #[.string ⟨(sl'[k]'hkl').path.toArray⟩, .string ⟨(sl'[k]'hkl').org.toArray⟩, .slice (sl'[k]'hkl').body.A (sl'[k]'hkl').body.n (sl'[k]'hkl').body.c, .slice (sl'[k]'hkl').snaps.A (sl'[k]'hkl').snaps.n (sl'[k]'hkl').snaps.c, .slice (sl'[k]'hkl').own.A (sl'[k]'hkl').own.n (sl'[k]'hkl').own.c]] W fun e W' => e = .returned (.bool true) ∧ Below W.heap.size W W') := fun W hb => by
        obtain ⟨-, -, u3, u4, u5⟩ := hTs.out _ hb
        exact sameSetR_any _ _ hev W B u3 (u4 _ hxm) (u5 _ hym) (HZS.out _ hxm)
      obtain ⟨x, hx⟩ : ∃ x, x = sl[k]'hkl := ⟨_, rfl⟩
      obtain ⟨y, hy⟩ : ∃ y, y = sl'[k]'hkl' := ⟨_, rfl⟩
      rw [← hx, ← hy] at hX hSS
      obtain ⟨xa, xb, ⟨f1, f2, f3, fl⟩, ⟨h1, h2, h3, hl⟩, ⟨u1, u2, u3, ul⟩⟩ := x
      obtain ⟨ya, yb, ⟨f1', f2', f3', fl'⟩, ⟨h1', h2', h3', hl'⟩, ⟨u1', u2', u3', ul'⟩⟩ := y
      simp only at hX hSS
      clear hx hy hev hxm hym r1 r2 hTs HEQS HZS
      go_wp2_with fail
      clear p0 p1 p2 p3 p4 p5 p6 q0 q1 q2 q3 q4 q5 q6
      refine wpC_region (fun W' => Below W2.heap.size W2 W') (by kernel_rfl) (by kernel_rfl) (hWr.drew) (fun OPS D QQ HO hD hD2 hQQ => ?_)
      clear HO
      have HD := Lib.hid hD
      have HD2 := Lib.hid hD2
      have HQQ := Lib.hid hQQ
      clear hD hD2 hQQ
      refine wpC_readS (v := ?_) rfl rfl (fun W hW => ?_) ?_
      rotate_left
      · clear hW; go_simp; try (with_reducible rfl)
      dsimp only [List.set_cons_zero, List.set_cons_succ]
      refine wpC_readS (v := ?_) rfl rfl (fun W hW => ?_) ?_
      rotate_left
      · replace hW := HD.out W hW
        skip
        obtain ⟨-, -, -, p3, -⟩ := hS.out _ hW
        go_simp; try (with_reducible rfl)
      dsimp only [List.set_cons_zero, List.set_cons_succ]
      refine wpC_readS (v := ?_) rfl rfl (fun W hW => ?_) ?_
      rotate_left
      · clear hW; go_simp; try (with_reducible rfl)
      dsimp only [List.set_cons_zero, List.set_cons_succ]
      refine wpC_readS (v := ?_) rfl rfl (fun W hW => ?_) ?_
      rotate_left
      · clear hW; go_simp; try (with_reducible rfl)
      dsimp only [List.set_cons_zero, List.set_cons_succ]
      refine wpC_readS (v := ?_) rfl rfl (fun W hW => ?_) ?_
      rotate_left
      · replace hW := HD.out W hW
        skip
        obtain ⟨⟨c0, c1, c2, c3, c4⟩, -⟩ := hX.out W hW
        go_simp; try (with_reducible rfl)
      dsimp only [List.set_cons_zero, List.set_cons_succ]
      refine wpC_readS (v := ?_) rfl rfl (fun W hW => ?_) ?_
      rotate_left
      · clear hW; go_simp; try (with_reducible rfl)
      dsimp only [List.set_cons_zero, List.set_cons_succ]
      refine wpC_readS (v := ?_) rfl rfl (fun W hW => ?_) ?_
      rotate_left
      · replace hW := HD.out W hW
        skip
        obtain ⟨-, -, -, -, -, -, -, -, -, -, q3, -⟩ := hS.out _ hW
        go_simp; try (with_reducible rfl)
      dsimp only [List.set_cons_zero, List.set_cons_succ]
      refine wpC_readS (v := ?_) rfl rfl (fun W hW => ?_) ?_
      rotate_left
      · clear hW; go_simp; try (with_reducible rfl)
      dsimp only [List.set_cons_zero, List.set_cons_succ]
      refine wpC_readS (v := ?_) rfl rfl (fun W hW => ?_) ?_
      rotate_left
      · clear hW; go_simp; try (with_reducible rfl)
      dsimp only [List.set_cons_zero, List.set_cons_succ]
      refine wpC_readS (v := ?_) rfl rfl (fun W hW => ?_) ?_
      rotate_left
      · replace hW := HD.out W hW
        skip
        obtain ⟨-, ⟨d0, d1, d2, d3, d4⟩⟩ := hX.out W hW
        go_simp; try (with_reducible rfl)
      dsimp only [List.set_cons_zero, List.set_cons_succ]
      refine wpC_readS (v := .bool true) rfl rfl (fun W hW => ?_) ?_
      · replace hW := HD.out W hW
        skip
        go_simp
        refine (hSS.out _ hW).mono ?_
        rintro e w5 ⟨rfl, hbn⟩
        exact ⟨rfl, HD2.out _ (below_step hW hbn)⟩
      dsimp only [List.set_cons_zero, List.set_cons_succ]
      refine wpC_readS (v := ?_) rfl rfl (fun W hW => ?_) ?_
      rotate_left
      · clear hW; go_simp; try (with_reducible rfl)
      dsimp only [List.set_cons_zero, List.set_cons_succ]
      refine wpQuiet_nil (HQQ.out _ (fun W hW => ?_))
      skip
      go_wp2_with fail
      go_roundw
      case rel => exact ⟨k + 1, by omega, by go_num, hW⟩
      case measure => simp [intOf]; omega
    · clear hTs HEQS HZS
      as_aux_lemma =>
        go_wp2_with fail
        clear p0 p1 p2 p3 p4 p5 p6 q0 q1 q2 q3 q4 q5 q6
        go_loopw [6] (fun j wr => ∃ k : Nat, k ≤ tn ∧ j = .int .i64 (k : Int) ∧ Below W2.heap.size W2 wr) (fun j _ => tn - (intOf j).toNat)
        case atStart => exact ⟨0, Nat.zero_le _, rfl, hWr⟩
        case round =>
          clear hWr
          obtain ⟨k, hk, rfl, hWr⟩ := hrel
          obtain ⟨p0, p1, p2, p3, p4, p5, p6, q0, q1, q2, q3, q4, q5, q6⟩ := hS.out _ hWr
          by_cases hlt : k < tn
          · have hki : (k : Int) < (tn : Int) := by omega
            obtain ⟨r1, r2, -⟩ := hTt.out _ hWr
            obtain ⟨ad, rfl, -⟩ := Reads.elK (k := 21) (fun _ => rfl) r1 HTN.out hlt
            obtain ⟨ad2, rfl, -⟩ := Reads.elK (k := 21) (fun _ => rfl) r2 HTN'.out hlt
            have hkl : k < tl.length := by have := HTN.out; omega
            have hkl' : k < tl'.length := by have := HTN'.out; omega
            have hev := HEQT.out k hkl hkl'
            have hxm : tl[k]'hkl ∈ tl := List.getElem_mem _
            have hym : tl'[k]'hkl' ∈ tl' := List.getElem_mem _
            obtain ⟨x, hx⟩ : ∃ x, x = tl[k]'hkl := ⟨_, rfl⟩
            obtain ⟨y, hy⟩ : ∃ y, y = tl'[k]'hkl' := ⟨_, rfl⟩
            rw [← hx] at hxm hev
            rw [← hy] at hym hev
            have hL1 : Hid (∀ W, Below W2.heap.size W2 W → ∀ (j : Nat) (v : Value), ([.string ⟨x.into.toArray⟩, .int .i64 x.kind, .string ⟨x.nm.toArray⟩, .int .i64 x.frm, .int .i64 x.gd, .slice x.own.A x.own.n x.own.c, .int .i64 x.ix, .int .i64 x.ct, .string ⟨x.dt.toArray⟩, .int .u64 x.sm.a, .int .u64 x.sm.b, .int .u64 x.sm.c, .int .u64 x.sm.d, .slice x.body.A x.body.n x.body.c, .int .i64 x.at_, .int .i64 x.nx, .int .u64 x.sum.a, .int .u64 x.sum.b, .int .u64 x.sum.c, .int .u64 x.sum.d, .bool x.done])[j]? = some v → W.cell? ((ad.add (k * 21)).add j) = some v) := by
              show ∀ W, _ → ∀ j v, _ → _
              intro W hb j v hv
              obtain ⟨ad3, e3, -, hce⟩ := Reads.elK (k := 21) (fun _ => rfl) (hTt.out _ hb).1 HTN.out hlt
              injection e3 with e3
              subst e3
              rw [← hx] at hce
              rw [hce j (by have := (List.getElem?_eq_some_iff.1 hv).1; simpa using this)]
              exact hv
            have hL2 : Hid (∀ W, Below W2.heap.size W2 W → ∀ (j : Nat) (v : Value), ([.string ⟨y.into.toArray⟩, .int .i64 y.kind, .string ⟨y.nm.toArray⟩, .int .i64 y.frm, .int .i64 y.gd, .slice y.own.A y.own.n y.own.c, .int .i64 y.ix, .int .i64 y.ct, .string ⟨y.dt.toArray⟩, .int .u64 y.sm.a, .int .u64 y.sm.b, .int .u64 y.sm.c, .int .u64 y.sm.d, .slice y.body.A y.body.n y.body.c, .int .i64 y.at_, .int .i64 y.nx, .int .u64 y.sum.a, .int .u64 y.sum.b, .int .u64 y.sum.c, .int .u64 y.sum.d, .bool y.done])[j]? = some v → W.cell? ((ad2.add (k * 21)).add j) = some v) := by
              show ∀ W, _ → ∀ j v, _ → _
              intro W hb j v hv
              obtain ⟨ad3, e3, -, hce⟩ := Reads.elK (k := 21) (fun _ => rfl) (hTt.out _ hb).2.1 HTN'.out hlt
              injection e3 with e3
              subst e3
              rw [← hy] at hce
              rw [hce j (by have := (List.getElem?_eq_some_iff.1 hv).1; simpa using this)]
              exact hv
            obtain ⟨G1, hG1⟩ : ∃ G, G = Value.agg #[.string ⟨x.into.toArray⟩, .int .i64 x.kind, .string ⟨x.nm.toArray⟩, .int .i64 x.frm, .int .i64 x.gd, .slice x.own.A x.own.n x.own.c, .int .i64 x.ix, .int .i64 x.ct, .string ⟨x.dt.toArray⟩, .int .u64 x.sm.a, .int .u64 x.sm.b, .int .u64 x.sm.c, .int .u64 x.sm.d, .slice x.body.A x.body.n x.body.c, .int .i64 x.at_, .int .i64 x.nx, .int .u64 x.sum.a, .int .u64 x.sum.b, .int .u64 x.sum.c, .int .u64 x.sum.d, .bool x.done] := ⟨_, rfl⟩
            obtain ⟨G2, hG2⟩ : ∃ G, G = Value.agg #[.string ⟨y.into.toArray⟩, .int .i64 y.kind, .string ⟨y.nm.toArray⟩, .int .i64 y.frm, .int .i64 y.gd, .slice y.own.A y.own.n y.own.c, .int .i64 y.ix, .int .i64 y.ct, .string ⟨y.dt.toArray⟩, .int .u64 y.sm.a, .int .u64 y.sm.b, .int .u64 y.sm.c, .int .u64 y.sm.d, .slice y.body.A y.body.n y.body.c, .int .i64 y.at_, .int .i64 y.nx, .int .u64 y.sum.a, .int .u64 y.sum.b, .int .u64 y.sum.c, .int .u64 y.sum.d, .bool y.done] := ⟨_, rfl⟩
            have HG1 := Lib.hid hG1
            have HG2 := Lib.hid hG2
            have hSS : Hid (∀ W, Below W2.heap.size W2 W → Calls Tryz.prog 42 #[G1, G2] W fun e W' => e = .returned (.bool true) ∧ Below W.heap.size W W') := fun W hb => by
              obtain ⟨-, -, u3, u4, u5⟩ := hTt.out _ hb
              rw [hG1, hG2]
              exact sameStageR_any x y hev W B u3 (u4 _ hxm) (u5 _ hym) (HZT.out _ hxm)
            clear hx hy hev hxm hym r1 r2 hTt HEQT HZT hG1 hG2
            go_wp2_with fail
            clear p0 p1 p2 p3 p4 p5 p6 q0 q1 q2 q3 q4 q5 q6
            refine wpC_region (fun W' => Below W2.heap.size W2 W') (by kernel_rfl) (by kernel_rfl) (hWr.drew) (fun OPS D QQ HO hD hD2 hQQ => ?_)
            clear HO
            have HD := Lib.hid hD
            have HD2 := Lib.hid hD2
            have HQQ := Lib.hid hQQ
            clear hD hD2 hQQ
            refine wpC_readS (v := ?_) rfl rfl (fun W hW => ?_) ?_
            rotate_left
            · clear hW; go_simp; try (with_reducible rfl)
            dsimp only [List.set_cons_zero, List.set_cons_succ]
            refine wpC_readS (v := ?_) rfl rfl (fun W hW => ?_) ?_
            rotate_left
            · replace hW := HD.out W hW
              skip
              obtain ⟨-, -, -, -, -, p5, -⟩ := hS.out _ hW
              go_simp; try (with_reducible rfl)
            dsimp only [List.set_cons_zero, List.set_cons_succ]
            refine wpC_readS (v := ?_) rfl rfl (fun W hW => ?_) ?_
            rotate_left
            · clear hW; go_simp; try (with_reducible rfl)
            dsimp only [List.set_cons_zero, List.set_cons_succ]
            refine wpC_readS (v := ?_) rfl rfl (fun W hW => ?_) ?_
            rotate_left
            · clear hW; go_simp; try (with_reducible rfl)
            dsimp only [List.set_cons_zero, List.set_cons_succ]
            refine wpC_readS (v := G1) rfl rfl (fun W hW => ?_) ?_
            · replace hW := HD.out W hW
              rw [HG1.out]
              exact quiet_load_at 73 _ rfl (ad.add (k * 21)) rfl [.string ⟨x.into.toArray⟩, .int .i64 x.kind, .string ⟨x.nm.toArray⟩, .int .i64 x.frm, .int .i64 x.gd, .slice x.own.A x.own.n x.own.c, .int .i64 x.ix, .int .i64 x.ct, .string ⟨x.dt.toArray⟩, .int .u64 x.sm.a, .int .u64 x.sm.b, .int .u64 x.sm.c, .int .u64 x.sm.d, .slice x.body.A x.body.n x.body.c, .int .i64 x.at_, .int .i64 x.nx, .int .u64 x.sum.a, .int .u64 x.sum.b, .int .u64 x.sum.c, .int .u64 x.sum.d, .bool x.done] _ (hL1.out W hW) Tryz.underlying73 rfl (by kernel_rfl)
            dsimp only [List.set_cons_zero, List.set_cons_succ]
            refine wpC_readS (v := ?_) rfl rfl (fun W hW => ?_) ?_
            rotate_left
            · clear hW; go_simp; try (with_reducible rfl)
            dsimp only [List.set_cons_zero, List.set_cons_succ]
            refine wpC_readS (v := ?_) rfl rfl (fun W hW => ?_) ?_
            rotate_left
            · replace hW := HD.out W hW
              skip
              obtain ⟨-, -, -, -, -, -, -, -, -, -, -, -, q5, -⟩ := hS.out _ hW
              go_simp; try (with_reducible rfl)
            dsimp only [List.set_cons_zero, List.set_cons_succ]
            refine wpC_readS (v := ?_) rfl rfl (fun W hW => ?_) ?_
            rotate_left
            · clear hW; go_simp; try (with_reducible rfl)
            dsimp only [List.set_cons_zero, List.set_cons_succ]
            refine wpC_readS (v := ?_) rfl rfl (fun W hW => ?_) ?_
            rotate_left
            · clear hW; go_simp; try (with_reducible rfl)
            dsimp only [List.set_cons_zero, List.set_cons_succ]
            refine wpC_readS (v := G2) rfl rfl (fun W hW => ?_) ?_
            · replace hW := HD.out W hW
              rw [HG2.out]
              exact quiet_load_at 73 _ rfl (ad2.add (k * 21)) rfl [.string ⟨y.into.toArray⟩, .int .i64 y.kind, .string ⟨y.nm.toArray⟩, .int .i64 y.frm, .int .i64 y.gd, .slice y.own.A y.own.n y.own.c, .int .i64 y.ix, .int .i64 y.ct, .string ⟨y.dt.toArray⟩, .int .u64 y.sm.a, .int .u64 y.sm.b, .int .u64 y.sm.c, .int .u64 y.sm.d, .slice y.body.A y.body.n y.body.c, .int .i64 y.at_, .int .i64 y.nx, .int .u64 y.sum.a, .int .u64 y.sum.b, .int .u64 y.sum.c, .int .u64 y.sum.d, .bool y.done] _ (hL2.out W hW) Tryz.underlying73 rfl (by kernel_rfl)
            dsimp only [List.set_cons_zero, List.set_cons_succ]
            refine wpC_readS (v := .bool true) rfl rfl (fun W hW => ?_) ?_
            · replace hW := HD.out W hW
              skip
              go_simp
              refine (hSS.out _ hW).mono ?_
              rintro e w5 ⟨rfl, hbn⟩
              exact ⟨rfl, HD2.out _ (below_step hW hbn)⟩
            dsimp only [List.set_cons_zero, List.set_cons_succ]
            refine wpC_readS (v := ?_) rfl rfl (fun W hW => ?_) ?_
            rotate_left
            · clear hW; go_simp; try (with_reducible rfl)
            dsimp only [List.set_cons_zero, List.set_cons_succ]
            refine wpQuiet_nil (HQQ.out _ (fun W hW => ?_))
            skip
            go_wp2_with fail
            go_roundw
            case rel => exact ⟨k + 1, by omega, by go_num, hW⟩
            case measure => simp [intOf]; omega
          · clear hTt
            go_wp2_with fail
            go_ret
            exact ⟨rfl, HB2.out.trans (hWr.mono (by have := HSZ.out; omega))⟩
/-- tenants of one content -/
structure TenR.eqv (x y : TenR) : Prop where
  nm : x.nm = y.nm
  quota : x.quota = y.quota
  next : x.next = y.next
  lenS : x.sets.l.length = y.sets.l.length
  eachS : ∀ i (h : i < x.sets.l.length) (h' : i < y.sets.l.length), (x.sets.l[i]'h).eqv (y.sets.l[i]'h')
  grants : x.grants.l = y.grants.l
  lenT : x.stages.l.length = y.stages.l.length
  eachT : ∀ i (h : i < x.stages.l.length) (h' : i < y.stages.l.length), (x.stages.l[i]'h).eqv (y.stages.l[i]'h')
  log : x.log.l = y.log.l
theorem same14_any (x y : TenR) (h : x.eqv y) (w : World) (B : Nat) (hB : B ≤ w.heap.size) (hx : x.rd w B) (hy : y.rd w B) (hz : x.sz) :
    Calls Tryz.prog 11 #[x.val, y.val] w fun e w' => e = .returned (.bool true) ∧ Below w.heap.size w w' := by
  obtain ⟨h1, h2, h3, h4, h5, h6, h7, h8, h9⟩ := h
  obtain ⟨nm, quota, next, ⟨s1, sn, s3, sl⟩, ⟨g1, gn, g3, gl⟩, ⟨t1, tn, t3, tl⟩, ⟨l1, ln, l3, ll⟩⟩ := x
  obtain ⟨nm', quota', next', ⟨s1', sn', s3', sl'⟩, ⟨g1', gn', g3', gl'⟩, ⟨t1', tn', t3', tl'⟩, ⟨l1', ln', l3', ll'⟩⟩ := y
  simp only at h1 h2 h3 h4 h5 h6 h7 h8 h9
  subst h1 h2 h3 h6 h9
  have e1 : sn' = sn := by rw [show sn' = sl'.length from hy.sets.1, show sn = sl.length from hx.sets.1, h4]
  have e2 : gn' = gn := hy.grants.1.trans hx.grants.1.symm
  have e3 : tn' = tn := by rw [show tn' = tl'.length from hy.stages.1, show tn = tl.length from hx.stages.1, h7]
  have e4 : ln' = ln := hy.log.1.trans hx.log.1.symm
  subst e1 e2 e3 e4
  exact sameTenT_any nm quota next sl sl' gl tl tl' ll s1 s1' sn' s3 s3' g1 g1' gn' g3 g3' t1 t1' tn' t3 t3' l1 l1' ln' l3 l3' w B hB hx hy hz h5 h8
end Go.Proofs.YtbppdlhbjddhjaaGreatDoor
namespace Go.Proofs.YtbppdlhbjddhjaaGreatDoor
open Go.RowKit

theorem FS.own.kept {α : Type} {w w' : World} {base k g : Nat} {t : TypeId} {enc : α → List Value} {s : FS α} (h : s.own w base t k enc) (hg : w.grownBy w' (some g)) (hb : g < base) : s.own w' base t k enc := by
  refine ⟨h.1, h.2.kept hg (.inr fun e => ?_)⟩
  have := (h.2.lt _ e).1
  omega
structure SnapO (w : World) (base : Nat) (x : SnapR) : Prop where
  body : x.body.own w base 85 2 encB
  tags : x.tags.own w base 9 1 encS
  own : x.own.own w base 87 2 encP
structure SetO (w : World) (base : Nat) (x : SetR) : Prop where
  body : x.body.own w base 85 2 encB
  snaps : x.snaps.own w base 66 5 encSnap
  each : ∀ y ∈ x.snaps.l, SnapO w base y
  own : x.own.own w base 87 2 encP
structure StageO (w : World) (base : Nat) (x : StageR) : Prop where
  own : x.own.own w base 87 2 encP
  body : x.body.own w base 85 2 encB
structure TenO (w : World) (base : Nat) (t : TenR) : Prop where
  sets : t.sets.own w base 61 5 encSet
  eachS : ∀ y ∈ t.sets.l, SetO w base y
  grants : t.grants.own w base 78 3 encG
  stages : t.stages.own w base 73 21 encStage
  eachG : ∀ y ∈ t.stages.l, StageO w base y
  log : t.log.own w base 83 4 encEntry
section
variable {w w' : World} {base base' g : Nat}
theorem SnapO.kept {x : SnapR} (h : SnapO w base x) (hg : w.grownBy w' (some g)) (hb : g < base) : SnapO w' base x := ⟨h.body.kept hg hb, h.tags.kept hg hb, h.own.kept hg hb⟩
theorem SnapO.below {x : SnapR} (h : SnapO w base x) (hb : Below w.heap.size w w') : SnapO w' base x := ⟨h.body.below hb, h.tags.below hb, h.own.below hb⟩
theorem SnapO.mono {x : SnapR} (h : SnapO w base x) (hb : base' ≤ base) : SnapO w base' x := ⟨h.body.mono hb, h.tags.mono hb, h.own.mono hb⟩
theorem SnapO.rd {x : SnapR} (h : SnapO w base x) : x.rd w w.heap.size := ⟨h.body.rd, h.tags.rd, h.own.rd⟩
theorem SetO.kept {x : SetR} (h : SetO w base x) (hg : w.grownBy w' (some g)) (hb : g < base) : SetO w' base x := ⟨h.body.kept hg hb, h.snaps.kept hg hb, fun y hy => (h.each y hy).kept hg hb, h.own.kept hg hb⟩
theorem SetO.below {x : SetR} (h : SetO w base x) (hb : Below w.heap.size w w') : SetO w' base x := ⟨h.body.below hb, h.snaps.below hb, fun y hy => (h.each y hy).below hb, h.own.below hb⟩
theorem SetO.mono {x : SetR} (h : SetO w base x) (hb : base' ≤ base) : SetO w base' x := ⟨h.body.mono hb, h.snaps.mono hb, fun y hy => (h.each y hy).mono hb, h.own.mono hb⟩
theorem SetO.rd {x : SetR} (h : SetO w base x) : x.rd w w.heap.size := ⟨h.body.rd, h.snaps.rd, fun y hy => (h.each y hy).rd, h.own.rd⟩
theorem StageO.kept {x : StageR} (h : StageO w base x) (hg : w.grownBy w' (some g)) (hb : g < base) : StageO w' base x := ⟨h.own.kept hg hb, h.body.kept hg hb⟩
theorem StageO.below {x : StageR} (h : StageO w base x) (hb : Below w.heap.size w w') : StageO w' base x := ⟨h.own.below hb, h.body.below hb⟩
theorem StageO.mono {x : StageR} (h : StageO w base x) (hb : base' ≤ base) : StageO w base' x := ⟨h.own.mono hb, h.body.mono hb⟩
theorem StageO.rd {x : StageR} (h : StageO w base x) : x.rd w w.heap.size := ⟨h.own.rd, h.body.rd⟩
theorem TenO.kept {x : TenR} (h : TenO w base x) (hg : w.grownBy w' (some g)) (hb : g < base) : TenO w' base x := ⟨h.sets.kept hg hb, fun y hy => (h.eachS y hy).kept hg hb, h.grants.kept hg hb, h.stages.kept hg hb, fun y hy => (h.eachG y hy).kept hg hb, h.log.kept hg hb⟩
theorem TenO.below {x : TenR} (h : TenO w base x) (hb : Below w.heap.size w w') : TenO w' base x := ⟨h.sets.below hb, fun y hy => (h.eachS y hy).below hb, h.grants.below hb, h.stages.below hb, fun y hy => (h.eachG y hy).below hb, h.log.below hb⟩
theorem TenO.mono {x : TenR} (h : TenO w base x) (hb : base' ≤ base) : TenO w base' x := ⟨h.sets.mono hb, fun y hy => (h.eachS y hy).mono hb, h.grants.mono hb, h.stages.mono hb, fun y hy => (h.eachG y hy).mono hb, h.log.mono hb⟩
theorem TenO.rd {x : TenR} (h : TenO w base x) : x.rd w w.heap.size := ⟨h.sets.rd, fun y hy => (h.eachS y hy).rd, h.grants.rd, h.stages.rd, fun y hy => (h.eachG y hy).rd, h.log.rd⟩
end
/-- lists that stand in a relation, place by place -/
def EachR {α : Type} (r : α → α → Prop) (l l' : List α) : Prop := l.length = l'.length ∧ ∀ i (h : i < l.length) (h' : i < l'.length), r (l[i]'h) (l'[i]'h')
theorem EachR.nil {α : Type} {r : α → α → Prop} : EachR r [] [] := ⟨rfl, fun i h => absurd h (by simp)⟩
theorem EachR.snoc {α : Type} {r : α → α → Prop} {l l' : List α} {a b : α} (h : EachR r l l') (hr : r a b) : EachR r (l ++ [a]) (l' ++ [b]) := by
  refine ⟨by simp [h.1], fun i h1 h2 => ?_⟩
  by_cases hi : i < l.length
  · rw [List.getElem_append_left hi, List.getElem_append_left (by rw [← h.1]; exact hi)]
    exact h.2 i hi _
  · have : i = l.length := by simp at h1; omega
    subst this
    simp [h.1]
    simpa [h.1] using hr
theorem EachR.refl {α : Type} {r : α → α → Prop} (hr : ∀ a, r a a) (l : List α) : EachR r l l := ⟨rfl, fun _ _ _ => hr _⟩
theorem EachR.symm {α : Type} {r : α → α → Prop} (hr : ∀ a b, r a b → r b a) {l l' : List α} (h : EachR r l l') : EachR r l' l := ⟨h.1.symm, fun i a b => hr _ _ (h.2 i b a)⟩
theorem EachR.trans {α : Type} {r : α → α → Prop} (hr : ∀ a b c, r a b → r b c → r a c) {l l' l'' : List α} (h : EachR r l l') (h2 : EachR r l' l'') : EachR r l l'' := ⟨h.1.trans h2.1, fun i a b => hr _ _ _ (h.2 i a (by rw [← h.1]; exact a)) (h2.2 i _ b)⟩
theorem SnapR.eqv.refl (x : SnapR) : x.eqv x := ⟨rfl, rfl, rfl, rfl, rfl⟩
theorem SnapR.eqv.symm {x y : SnapR} (h : x.eqv y) : y.eqv x := ⟨h.nm.symm, h.gd.symm, h.body.symm, h.tags.symm, h.own.symm⟩
theorem SnapR.eqv.trans {x y z : SnapR} (h : x.eqv y) (k : y.eqv z) : x.eqv z := ⟨h.nm.trans k.nm, h.gd.trans k.gd, h.body.trans k.body, h.tags.trans k.tags, h.own.trans k.own⟩
theorem SetR.eqv.refl (x : SetR) : x.eqv x := ⟨rfl, rfl, rfl, rfl, fun _ _ _ => SnapR.eqv.refl _, rfl⟩
theorem SetR.eqv.symm {x y : SetR} (h : x.eqv y) : y.eqv x := ⟨h.path.symm, h.org.symm, h.body.symm, h.len.symm, fun i a b => (h.each i b a).symm, h.own.symm⟩
theorem SetR.eqv.trans {x y z : SetR} (h : x.eqv y) (k : y.eqv z) : x.eqv z := ⟨h.path.trans k.path, h.org.trans k.org, h.body.trans k.body, h.len.trans k.len, fun i a b => (h.each i a (by rw [← h.len]; exact a)).trans (k.each i _ b), h.own.trans k.own⟩
theorem StageR.eqv.refl (x : StageR) : x.eqv x := ⟨rfl, rfl, rfl, rfl, rfl, rfl, rfl, rfl, rfl, rfl, rfl, rfl, rfl, rfl, rfl⟩
theorem StageR.eqv.symm {x y : StageR} (h : x.eqv y) : y.eqv x := ⟨h.1.symm, h.2.symm, h.3.symm, h.4.symm, h.5.symm, h.6.symm, h.7.symm, h.8.symm, h.9.symm, h.10.symm, h.11.symm, h.12.symm, h.13.symm, h.14.symm, h.15.symm⟩
theorem StageR.eqv.trans {x y z : StageR} (h : x.eqv y) (k : y.eqv z) : x.eqv z := ⟨h.1.trans k.1, h.2.trans k.2, h.3.trans k.3, h.4.trans k.4, h.5.trans k.5, h.6.trans k.6, h.7.trans k.7, h.8.trans k.8, h.9.trans k.9, h.10.trans k.10, h.11.trans k.11, h.12.trans k.12, h.13.trans k.13, h.14.trans k.14, h.15.trans k.15⟩
theorem TenR.eqv.refl (x : TenR) : x.eqv x := ⟨rfl, rfl, rfl, rfl, fun _ _ _ => SetR.eqv.refl _, rfl, rfl, fun _ _ _ => StageR.eqv.refl _, rfl⟩
theorem TenR.eqv.symm {x y : TenR} (h : x.eqv y) : y.eqv x := ⟨h.nm.symm, h.quota.symm, h.next.symm, h.lenS.symm, fun i a b => (h.eachS i b a).symm, h.grants.symm, h.lenT.symm, fun i a b => (h.eachT i b a).symm, h.log.symm⟩
theorem TenR.eqv.trans {x y z : TenR} (h : x.eqv y) (k : y.eqv z) : x.eqv z := ⟨h.nm.trans k.nm, h.quota.trans k.quota, h.next.trans k.next, h.lenS.trans k.lenS, fun i a b => (h.eachS i a (by rw [← h.lenS]; exact a)).trans (k.eachS i _ b), h.grants.trans k.grants, h.lenT.trans k.lenT, fun i a b => (h.eachT i a (by rw [← h.lenT]; exact a)).trans (k.eachT i _ b), h.log.trans k.log⟩
/-! ### sizes hang on the content alone -/
theorem SnapR.eqv.sz {x y : SnapR} (h : x.eqv y) (hx : x.sz) (hb : y.body.n = x.body.n) (ht : y.tags.n = x.tags.n) (ho : y.own.n = x.own.n) : y.sz := ⟨by rw [← h.nm]; exact hx.nm, by rw [hb]; exact hx.body, by rw [ht]; exact hx.tags, by rw [← h.tags]; exact hx.each, by rw [ho]; exact hx.own, by rw [← h.own]; exact hx.props⟩
theorem FS.len_eq {α : Type} {s s' : FS α} (h : s.n = s.l.length) (h' : s'.n = s'.l.length) (he : s.l = s'.l) : s'.n = s.n := by rw [h, h', he]
theorem EachR.mem {α : Type} {r : α → α → Prop} {l l' : List α} (h : EachR r l l') {y : α} (hy : y ∈ l') : ∃ x ∈ l, r x y := by
  obtain ⟨i, hi, rfl⟩ := List.getElem_of_mem hy
  exact ⟨l[i]'(by rw [h.1]; exact hi), List.getElem_mem _, h.2 i _ hi⟩
end Go.Proofs.YtbppdlhbjddhjaaGreatDoor
namespace Go.Proofs.YtbppdlhbjddhjaaGreatDoor
open Go.RowKit

def setL (xs : List Value) : Nat → List Value → List Value
  | _, [] => xs
  | o, u :: r => setL (xs.set o u) (o + 1) r
theorem setL_get (cs : List Value) : ∀ (xs : List Value) (o j : Nat), o + cs.length ≤ xs.length → (setL xs o cs)[j]? = if o ≤ j ∧ j < o + cs.length then cs[j - o]? else xs[j]? := by
  induction cs with
  | nil => intro xs o j h; simp only [setL, List.length_nil]; rw [if_neg (by omega)]
  | cons u r ih =>
    intro xs o j h
    simp only [List.length_cons] at h
    rw [setL, ih _ _ _ (by rw [List.length_set]; omega), List.getElem?_set]
    by_cases h1 : o = j
    · subst h1
      rw [if_neg (by omega), if_pos rfl, if_pos (by omega), if_pos ⟨Nat.le_refl _, by simp⟩]
      simp
    · rw [if_neg h1]
      by_cases h2 : o + 1 ≤ j ∧ j < o + 1 + r.length
      · rw [if_pos h2, if_pos ⟨by omega, by simp only [List.length_cons]; omega⟩, show j - o = (j - (o + 1)) + 1 by omega]
        rfl
      · rw [if_neg h2, if_neg (by simp only [List.length_cons]; omega)]
theorem setL_low (cs : List Value) : ∀ (xs : List Value) (o j : Nat), j < o → (setL xs o cs)[j]? = xs[j]? := by
  induction cs with
  | nil => intro xs o j h; rfl
  | cons u r ih => intro xs o j h; rw [setL, ih _ _ _ (by omega), List.getElem?_set, if_neg (by omega)]
theorem setL_length (cs : List Value) : ∀ (xs : List Value) (o : Nat), (setL xs o cs).length = xs.length := by
  induction cs with
  | nil => intro xs o; rfl
  | cons u r ih => intro xs o; rw [setL, ih, List.length_set]
theorem grown_trans {a b c : World} {r : Option Nat} (h : a.grownBy b r) (k : b.grownBy c r) : a.grownBy c r :=
  ⟨k.os.trans h.os, k.tape.trans h.tape, k.output.trans h.output, Nat.le_trans h.size k.size, fun x hx hr => (k.block x (Nat.lt_of_lt_of_le hx h.size) hr).trans (h.block x hx hr)⟩
theorem stored_all {base size n cap g : Nat} {e : TypeId} (cs : List Value) : ∀ (w : World) (xs : List Value) (o : Nat), w.ownsRow base e size (.slice (some ⟨g, 0, none⟩) n cap) n xs →
    (w.setCells g o cs).ownsRow base e size (.slice (some ⟨g, 0, none⟩) n cap) n (setL xs o cs) ∧ w.grownBy (w.setCells g o cs) (some g) := by
  induction cs with
  | nil => intro w xs o h; exact ⟨h, rfl, rfl, rfl, Nat.le_refl _, fun _ _ _ => rfl⟩
  | cons u r ih =>
    intro w xs o h
    obtain ⟨h1, h2⟩ := h.stored o u
    obtain ⟨h3, h4⟩ := ih _ _ (o + 1) h1
    exact ⟨h3, grown_trans h2 h4⟩
/-- a row of lo ..< hi -/
def RowW (w : World) (lo hi : Nat) (T : TypeId) (k : Nat) (v : Value) (n : Nat) (xs : List Value) : Prop := w.ownsRow lo T k v n xs ∧ ∀ g, v.ownBlock = some g → g < hi
def RowX (w : World) (lo hi : Nat) (T : TypeId) (k : Nat) (v : Value) : Prop := ∃ n xs, RowW w lo hi T k v n xs
def SnapsW (w : World) (lo hi : Nat) (v : Value) : Prop := ∃ n xs, RowW w lo hi 66 5 v n xs ∧ ∀ i, i < n → ∃ b, xs[i * 5 + 2]? = some b ∧ RowX w lo hi 85 2 b
def SetsW (w : World) (lo hi : Nat) (v : Value) : Prop := ∃ n xs, RowW w lo hi 61 5 v n xs ∧ ∀ i, i < n → ∃ b s o, xs[i * 5 + 2]? = some b ∧ xs[i * 5 + 3]? = some s ∧ xs[i * 5 + 4]? = some o ∧ RowX w lo hi 85 2 b ∧ SnapsW w lo hi s ∧ RowX w lo hi 87 2 o
theorem RowX.nil (w : World) (lo hi : Nat) (T : TypeId) (k : Nat) : RowX w lo hi T k (.slice none 0 0) := ⟨0, [], World.ownsRow_nil _ _ _ _, fun g h => by simp [Value.ownBlock] at h⟩
theorem SnapsW.nil (w : World) (lo hi : Nat) : SnapsW w lo hi (.slice none 0 0) := ⟨0, [], ⟨World.ownsRow_nil _ _ _ _, fun g h => by simp [Value.ownBlock] at h⟩, fun i hi => absurd hi (by omega)⟩
section
variable {w w' : World} {lo hi base size n cap g : Nat} {e : TypeId} {xs : List Value}
theorem RowW.kept {T : TypeId} {k m : Nat} {v : Value} {ys : List Value} (h : RowW w lo hi T k v m ys) (hg : w.grownBy w' (some g)) (hne : v.ownBlock ≠ some g) : RowW w' lo hi T k v m ys := ⟨h.1.kept hg (.inr hne), h.2⟩
theorem own_blk {T : TypeId} {k m c : Nat} {ys : List Value} (h : w.ownsRow lo T k (.slice (some ⟨g, 0, none⟩) m c) m ys) : ∃ cur, Blk w g T cur := by
  rcases h.2 with ⟨h0, _⟩ | ⟨g', cap', cur, hv, _, hg, _⟩
  · cases h0
  · cases hv
    exact ⟨cur, hg⟩
/-- a row is as it was, or it is the row that is written -/
theorem RowW.or (hrow : w.ownsRow base e size (.slice (some ⟨g, 0, none⟩) n cap) n xs) {T : TypeId} {k m : Nat} {v : Value} {ys : List Value} (h : RowW w lo hi T k v m ys) (o : Nat) (cs : List Value) :
    RowW (w.setCells g o cs) lo hi T k v m ys ∨ T = e ∧ v.ownBlock = some g ∧ RowW (w.setCells g o cs) lo hi T k v m (setL ys o cs) := by
  by_cases hb : v.ownBlock = some g
  · refine .inr ?_
    rcases h.1.2 with ⟨rfl, _⟩ | ⟨g', cap', cur, hv, hlo, hg, h1, h2, h3, h4⟩
    · simp [Value.ownBlock] at hb
    · subst hv
      have : g' = g := by simpa [Value.ownBlock] using hb
      subst this
      obtain ⟨cur2, hk⟩ := own_blk hrow
      have hk' : Blk w g' T cur := hg
      have hT : T = e := by
        unfold Blk at hk hk'
        rw [hk'] at hk
        injection hk with hk
        injection hk
      exact ⟨hT, rfl, (stored_all cs w ys o h.1).1, h.2⟩
  · exact .inl (h.kept (stored_all cs w xs o hrow).2 hb)
theorem RowX.set (hrow : w.ownsRow base e size (.slice (some ⟨g, 0, none⟩) n cap) n xs) {T : TypeId} {k : Nat} {v : Value} (h : RowX w lo hi T k v) (o : Nat) (cs : List Value) : RowX (w.setCells g o cs) lo hi T k v := by
  obtain ⟨m, ys, h⟩ := h
  rcases h.or hrow o cs with h | ⟨_, _, h⟩
  · exact ⟨m, ys, h⟩
  · exact ⟨m, _, h⟩
theorem len_of {T : TypeId} {k m : Nat} {v : Value} {ys : List Value} (h : RowW w lo hi T k v m ys) : ys.length = m * k := h.1.1
/-- a store into a row that is no snapshots' -/
theorem SnapsW.set (hrow : w.ownsRow base e size (.slice (some ⟨g, 0, none⟩) n cap) n xs) (hne : 66 ≠ e) {v : Value} (h : SnapsW w lo hi v) (o : Nat) (cs : List Value) : SnapsW (w.setCells g o cs) lo hi v := by
  obtain ⟨m, ys, h, hs⟩ := h
  rcases h.or hrow o cs with h | ⟨he, _, _⟩
  · exact ⟨m, ys, h, fun i hi => let ⟨b, h1, h2⟩ := hs i hi; ⟨b, h1, h2.set hrow o cs⟩⟩
  · exact absurd he hne
/-- a snapshot's cells, written over -/
theorem SnapsW.setSnap (hrow : w.ownsRow base e size (.slice (some ⟨g, 0, none⟩) n cap) n xs) {v : Value} (h : SnapsW w lo hi v) (j : Nat) (hj : (j + 1) * 5 ≤ xs.length) (_hx : xs.length = n * 5) (a0 a1 a3 a4 : Value) : SnapsW (w.setCells g (j * 5) [a0, a1, .slice none 0 0, a3, a4]) lo hi v := by
  obtain ⟨m, ys, h, hs⟩ := h
  rcases h.or hrow (j * 5) [a0, a1, .slice none 0 0, a3, a4] with h' | ⟨he, hb, h'⟩
  · exact ⟨m, ys, h', fun i hi => let ⟨b, h1, h2⟩ := hs i hi; ⟨b, h1, h2.set hrow _ _⟩⟩
  · refine ⟨m, _, h', fun i hi => ?_⟩
    obtain ⟨b, h1, h2⟩ := hs i hi
    by_cases hij : (j + 1) * 5 ≤ ys.length
    · rw [setL_get _ _ _ _ (by simp only [List.length_cons, List.length_nil]; omega)]
      by_cases hi2 : i = j
      · subst hi2
        rw [if_pos (by simp only [List.length_cons, List.length_nil]; omega), show i * 5 + 2 - i * 5 = 2 by omega]
        exact ⟨_, rfl, RowX.nil _ _ _ _ _⟩
      · rw [if_neg (by simp only [List.length_cons, List.length_nil]; omega)]
        exact ⟨b, h1, h2.set hrow _ _⟩
    · have hl := len_of h
      exact ⟨b, by rw [setL_low _ _ _ _ (by omega)]; exact h1, h2.set hrow _ _⟩
/-- a store into a row that is neither sets' nor snapshots' -/
theorem SetsW.set (hrow : w.ownsRow base e size (.slice (some ⟨g, 0, none⟩) n cap) n xs) (hne : 66 ≠ e) (hne2 : 61 ≠ e) {v : Value} (h : SetsW w lo hi v) (o : Nat) (cs : List Value) : SetsW (w.setCells g o cs) lo hi v := by
  obtain ⟨m, ys, h, hs⟩ := h
  rcases h.or hrow o cs with h | ⟨he, _, _⟩
  · exact ⟨m, ys, h, fun i hi => let ⟨b, s, p, h1, h2, h3, h4, h5, h6⟩ := hs i hi; ⟨b, s, p, h1, h2, h3, h4.set hrow o cs, h5.set hrow hne o cs, h6.set hrow o cs⟩⟩
  · exact absurd he hne2
theorem SetsW.setSnap (hrow : w.ownsRow base 66 size (.slice (some ⟨g, 0, none⟩) n cap) n xs) {v : Value} (h : SetsW w lo hi v) (j : Nat) (hj : (j + 1) * 5 ≤ xs.length) (_hx : xs.length = n * 5) (a0 a1 a3 a4 : Value) : SetsW (w.setCells g (j * 5) [a0, a1, .slice none 0 0, a3, a4]) lo hi v := by
  obtain ⟨m, ys, h, hs⟩ := h
  rcases h.or hrow (j * 5) [a0, a1, .slice none 0 0, a3, a4] with h' | ⟨he, hb, h'⟩
  · exact ⟨m, ys, h', fun i hi => let ⟨b, s, p, h1, h2, h3, h4, h5, h6⟩ := hs i hi; ⟨b, s, p, h1, h2, h3, h4.set hrow _ _, h5.setSnap hrow j hj _hx _ _ _ _, h6.set hrow _ _⟩⟩
  · exact absurd he (by decide)
/-- a set's cells, written over -/
theorem SetsW.setSet (hrow : w.ownsRow base 61 size (.slice (some ⟨g, 0, none⟩) n cap) n xs) {v : Value} (h : SetsW w lo hi v) (j : Nat) (hj : (j + 1) * 5 ≤ xs.length) (_hx : xs.length = n * 5) (a0 a1 : Value) : SetsW (w.setCells g (j * 5) [a0, a1, .slice none 0 0, .slice none 0 0, .slice none 0 0]) lo hi v := by
  obtain ⟨m, ys, h, hs⟩ := h
  rcases h.or hrow (j * 5) [a0, a1, .slice none 0 0, .slice none 0 0, .slice none 0 0] with h' | ⟨he, hb, h'⟩
  · exact ⟨m, ys, h', fun i hi => let ⟨b, s, p, h1, h2, h3, h4, h5, h6⟩ := hs i hi; ⟨b, s, p, h1, h2, h3, h4.set hrow _ _, h5.set hrow (by decide) _ _, h6.set hrow _ _⟩⟩
  · refine ⟨m, _, h', fun i hi => ?_⟩
    obtain ⟨b, s, p, h1, h2, h3, h4, h5, h6⟩ := hs i hi
    by_cases hij : (j + 1) * 5 ≤ ys.length
    · by_cases hi2 : i = j
      · subst hi2
        refine ⟨.slice none 0 0, .slice none 0 0, .slice none 0 0, ?_, ?_, ?_, RowX.nil _ _ _ _ _, SnapsW.nil _ _ _, RowX.nil _ _ _ _ _⟩
        · rw [setL_get _ _ _ _ (by simp only [List.length_cons, List.length_nil]; omega), if_pos (by simp only [List.length_cons, List.length_nil]; omega), show i * 5 + 2 - i * 5 = 2 by omega]
          rfl
        · rw [setL_get _ _ _ _ (by simp only [List.length_cons, List.length_nil]; omega), if_pos (by simp only [List.length_cons, List.length_nil]; omega), show i * 5 + 3 - i * 5 = 3 by omega]
          rfl
        · rw [setL_get _ _ _ _ (by simp only [List.length_cons, List.length_nil]; omega), if_pos (by simp only [List.length_cons, List.length_nil]; omega), show i * 5 + 4 - i * 5 = 4 by omega]
          rfl
      · have hget : ∀ q, q < 5 → (setL ys (j * 5) [a0, a1, .slice none 0 0, .slice none 0 0, .slice none 0 0])[i * 5 + q]? = ys[i * 5 + q]? := by
          intro q hq
          rw [setL_get _ _ _ _ (by simp only [List.length_cons, List.length_nil]; omega), if_neg (by simp only [List.length_cons, List.length_nil]; omega)]
        exact ⟨b, s, p, by rw [hget 2 (by omega)]; exact h1, by rw [hget 3 (by omega)]; exact h2, by rw [hget 4 (by omega)]; exact h3, h4.set hrow _ _, h5.set hrow (by decide) _ _, h6.set hrow _ _⟩
    · have hl := len_of h
      exact ⟨b, s, p, by rw [setL_low _ _ _ _ (by omega)]; exact h1, by rw [setL_low _ _ _ _ (by omega)]; exact h2, by rw [setL_low _ _ _ _ (by omega)]; exact h3, h4.set hrow _ _, h5.set hrow (by decide) _ _, h6.set hrow _ _⟩
theorem RowX.below {T : TypeId} {k : Nat} {v : Value} (h : RowX w lo hi T k v) (hb : Below w.heap.size w w') : RowX w' lo hi T k v := by
  obtain ⟨n, xs, h⟩ := h
  exact ⟨n, xs, own_below h.1 hb, h.2⟩
theorem SnapsW.below {v : Value} (h : SnapsW w lo hi v) (hb : Below w.heap.size w w') : SnapsW w' lo hi v := by
  obtain ⟨n, xs, h, hs⟩ := h
  exact ⟨n, xs, ⟨own_below h.1 hb, h.2⟩, fun i hi => let ⟨b, h1, h2⟩ := hs i hi; ⟨b, h1, h2.below hb⟩⟩
theorem SetsW.below {v : Value} (h : SetsW w lo hi v) (hb : Below w.heap.size w w') : SetsW w' lo hi v := by
  obtain ⟨n, xs, h, hs⟩ := h
  exact ⟨n, xs, ⟨own_below h.1 hb, h.2⟩, fun i hi => let ⟨b, s, p, h1, h2, h3, h4, h5, h6⟩ := hs i hi; ⟨b, s, p, h1, h2, h3, h4.below hb, h5.below hb, h6.below hb⟩⟩
end
/-- what changed lies in lo ..< hi -/
structure OnlyIn (lo hi : Nat) (w w' : World) : Prop where
  low : Below lo w w'
  high : ∀ k, hi ≤ k → k < w.heap.size → w'.heap[k]? = w.heap[k]?
theorem OnlyIn.refl (lo hi : Nat) (w : World) : OnlyIn lo hi w w := ⟨Below.refl _ _, fun _ _ _ => rfl⟩
theorem OnlyIn.trans {lo hi : Nat} {a b c : World} (h : OnlyIn lo hi a b) (k : OnlyIn lo hi b c) : OnlyIn lo hi a c :=
  ⟨h.low.trans k.low, fun x hx hs => (k.high x hx (Nat.lt_of_lt_of_le hs h.low.size)).trans (h.high x hx hs)⟩
theorem OnlyIn.of_below {lo hi : Nat} {w w' : World} (h : Below w.heap.size w w') (hlo : lo ≤ w.heap.size) : OnlyIn lo hi w w' := ⟨h.mono hlo, fun k _ hs => h.block k hs⟩
theorem OnlyIn.grown {lo hi g : Nat} {w w' : World} (h : w.grownBy w' (some g)) (h1 : lo ≤ g) (h2 : g < hi) (hlo : lo ≤ w.heap.size) : OnlyIn lo hi w w' :=
  ⟨⟨h.os, h.tape, h.output, h.size, fun k hk => h.block k (by omega) (by simp; omega)⟩, fun k hk hs => h.block k hs (by simp; omega)⟩
theorem own_only {lo hi base size n : Nat} {e : TypeId} {v : Value} {xs : List Value} {w w' : World} (h : w.ownsRow base e size v n xs) (hb : hi ≤ base) (ho : OnlyIn lo hi w w') : w'.ownsRow base e size v n xs := by
  refine ⟨h.1, ?_⟩
  rcases h.2 with h0 | ⟨g, cap, cur, h1, h2, h3, h4⟩
  · exact .inl h0
  · refine .inr ⟨g, cap, cur, h1, h2, ?_, h4⟩
    rw [ho.high g (by omega) (Blk.lt (cs := cur) (t := e) h3)]
    exact h3
theorem FS.own.only {α : Type} {w w' : World} {lo hi base k : Nat} {t : TypeId} {enc : α → List Value} {s : FS α} (h : s.own w base t k enc) (hb : hi ≤ base) (ho : OnlyIn lo hi w w') : s.own w' base t k enc := ⟨h.1, own_only h.2 hb ho⟩
section
variable {w w' : World} {base lo hi : Nat}
theorem SnapO.only {x : SnapR} (h : SnapO w base x) (hb : hi ≤ base) (ho : OnlyIn lo hi w w') : SnapO w' base x := ⟨h.body.only hb ho, h.tags.only hb ho, h.own.only hb ho⟩
theorem SetO.only {x : SetR} (h : SetO w base x) (hb : hi ≤ base) (ho : OnlyIn lo hi w w') : SetO w' base x := ⟨h.body.only hb ho, h.snaps.only hb ho, fun y hy => (h.each y hy).only hb ho, h.own.only hb ho⟩
theorem StageO.only {x : StageR} (h : StageO w base x) (hb : hi ≤ base) (ho : OnlyIn lo hi w w') : StageO w' base x := ⟨h.own.only hb ho, h.body.only hb ho⟩
theorem TenO.only {x : TenR} (h : TenO w base x) (hb : hi ≤ base) (ho : OnlyIn lo hi w w') : TenO w' base x := ⟨h.sets.only hb ho, fun y hy => (h.eachS y hy).only hb ho, h.grants.only hb ho, h.stages.only hb ho, fun y hy => (h.eachG y hy).only hb ho, h.log.only hb ho⟩
/-! ### a tenant of one's own lies in lo ..< hi, hi the size of the heap -/
theorem RowW.of_own {T : TypeId} {k n : Nat} {v : Value} {xs : List Value} (h : w.ownsRow lo T k v n xs) : RowW w lo w.heap.size T k v n xs := ⟨h, fun g hg => (h.lt g hg).2⟩
theorem FS.own.rowx {α : Type} {k : Nat} {t : TypeId} {enc : α → List Value} {s : FS α} (h : s.own w lo t k enc) : RowX w lo w.heap.size t k s.val := ⟨_, _, RowW.of_own h.2⟩
theorem FS.own.snaps {s : FS SnapR} (h : s.own w lo 66 5 encSnap) (he : ∀ y ∈ s.l, SnapO w lo y) : SnapsW w lo w.heap.size s.val := by
  refine ⟨_, _, RowW.of_own h.2, fun i hi => ?_⟩
  have hl : i < s.l.length := by rw [← h.1]; exact hi
  refine ⟨(s.l[i]'hl).body.val, ?_, (he _ (List.getElem_mem hl)).body.rowx⟩
  rw [show i * 5 + 2 = i * 5 + 2 from rfl, cellsK_get (k := 5) (fun x => by cases x; rfl) s.l i hl 2 (by omega)]
  rfl
theorem FS.own.setsw {s : FS SetR} (h : s.own w lo 61 5 encSet) (he : ∀ y ∈ s.l, SetO w lo y) : SetsW w lo w.heap.size s.val := by
  refine ⟨_, _, RowW.of_own h.2, fun i hi => ?_⟩
  have hl : i < s.l.length := by rw [← h.1]; exact hi
  have ho := he _ (List.getElem_mem hl)
  refine ⟨(s.l[i]'hl).body.val, (s.l[i]'hl).snaps.val, (s.l[i]'hl).own.val, ?_, ?_, ?_, ho.body.rowx, ho.snaps.snaps ho.each, ho.own.rowx⟩
  · rw [cellsK_get (k := 5) (fun x => by cases x; rfl) s.l i hl 2 (by omega)]
    rfl
  · rw [cellsK_get (k := 5) (fun x => by cases x; rfl) s.l i hl 3 (by omega)]
    rfl
  · rw [cellsK_get (k := 5) (fun x => by cases x; rfl) s.l i hl 4 (by omega)]
    rfl
end
/-! ### an element of a row -/
theorem RowW.el {w : World} {lo hi k n : Nat} {T : TypeId} {v : Value} {xs : List Value} (h : RowW w lo hi T k v n xs) {i : Nat} (hi' : i < n) :
    ∃ g c, v = .slice (some ⟨g, 0, none⟩) n c ∧ lo ≤ g ∧ g < hi ∧ n ≤ maxLen ∧ (∀ j, j < n * k → w.cell? ⟨g, j, none⟩ = xs[j]?) ∧ w.there g (i * k) k ∧ w.ownsRow lo T k (.slice (some ⟨g, 0, none⟩) n c) n xs := by
  obtain ⟨ho, hh⟩ := h
  rcases ho.2 with ⟨_, h0⟩ | ⟨g, cap, cur, hv, hlo, hg, hnc, hcm, hcs, htk⟩
  · omega
  · subst hv
    have hle : (i + 1) * k ≤ n * k := Nat.mul_le_mul_right _ hi'
    rw [Nat.add_mul, Nat.one_mul] at hle
    have hk2 : n * k ≤ cap * k := Nat.mul_le_mul_right _ hnc
    have hc : ∀ j, w.cell? ⟨g, j, none⟩ = cur[j]? := fun j => cell_of_row w g j cur T (0, 0) hg
    refine ⟨g, cap, rfl, hlo, hh g rfl, by omega, fun j hj => ?_, fun j hj => ⟨?_, (Blk.frozen (w := w) (g := g) (t := T) (cs := cur) hg) _⟩, ho⟩
    · rw [hc, ← htk, List.getElem?_take, if_pos hj, Array.getElem?_toList]
    · rw [hc]
      simp
      omega
/-- what is known of a tenant's rows while they are written over -/
structure SpI (lo hi : Nat) (S G T L : Value) (W0 w : World) : Prop where
  sets : SetsW w lo hi S
  gr : RowX w lo hi 78 3 G
  st : RowX w lo hi 73 21 T
  lg : RowX w lo hi 83 4 L
  only : OnlyIn lo hi W0 w
section
variable {lo hi size n cap g : Nat} {S G T L : Value} {W0 w : World} {e : TypeId} {xs : List Value}
theorem SpI.store (h : SpI lo hi S G T L W0 w) (hrow : w.ownsRow lo e size (.slice (some ⟨g, 0, none⟩) n cap) n xs) (hlo : lo ≤ g) (hhi : g < hi) (hW : lo ≤ w.heap.size) (hne : 66 ≠ e) (hne2 : 61 ≠ e) (o : Nat) (cs : List Value) : SpI lo hi S G T L W0 (w.setCells g o cs) :=
  ⟨h.sets.set hrow hne hne2 o cs, h.gr.set hrow o cs, h.st.set hrow o cs, h.lg.set hrow o cs, h.only.trans (.grown (stored_all cs w xs o hrow).2 hlo hhi hW)⟩
theorem SpI.storeSnap (h : SpI lo hi S G T L W0 w) (hrow : w.ownsRow lo 66 5 (.slice (some ⟨g, 0, none⟩) n cap) n xs) (hlo : lo ≤ g) (hhi : g < hi) (hW : lo ≤ w.heap.size) (j : Nat) (hj : j < n) (a0 a1 a3 a4 : Value) : SpI lo hi S G T L W0 (w.setCells g (j * 5) [a0, a1, .slice none 0 0, a3, a4]) :=
  have hl : xs.length = n * 5 := hrow.1
  ⟨h.sets.setSnap hrow j (by omega) hl _ _ _ _, h.gr.set hrow _ _, h.st.set hrow _ _, h.lg.set hrow _ _, h.only.trans (.grown (stored_all _ w xs _ hrow).2 hlo hhi hW)⟩
theorem SpI.storeSet (h : SpI lo hi S G T L W0 w) (hrow : w.ownsRow lo 61 5 (.slice (some ⟨g, 0, none⟩) n cap) n xs) (hlo : lo ≤ g) (hhi : g < hi) (hW : lo ≤ w.heap.size) (j : Nat) (hj : j < n) (a0 a1 : Value) : SpI lo hi S G T L W0 (w.setCells g (j * 5) [a0, a1, .slice none 0 0, .slice none 0 0, .slice none 0 0]) :=
  have hl : xs.length = n * 5 := hrow.1
  ⟨h.sets.setSet hrow j (by omega) hl _ _, h.gr.set hrow _ _, h.st.set hrow _ _, h.lg.set hrow _ _, h.only.trans (.grown (stored_all _ w xs _ hrow).2 hlo hhi hW)⟩
/-- set i, as it can be read now -/
theorem SetsW.at {n c : Nat} {A : Option Addr} (h : SetsW w lo hi (.slice A n c)) {i : Nat} (hi' : i < n) :
    ∃ g bA bn bc sA sn sc oA on oc xs, A = some ⟨g, 0, none⟩ ∧ lo ≤ g ∧ g < hi ∧ w.cell? ⟨g, i * 5 + 2, none⟩ = some (.slice bA bn bc) ∧ w.cell? ⟨g, i * 5 + 3, none⟩ = some (.slice sA sn sc) ∧ w.cell? ⟨g, i * 5 + 4, none⟩ = some (.slice oA on oc) ∧
      w.there g (i * 5) 5 ∧ w.ownsRow lo 61 5 (.slice (some ⟨g, 0, none⟩) n c) n xs ∧ (∃ ys, RowW w lo hi 85 2 (.slice bA bn bc) bn ys) ∧ SnapsW w lo hi (.slice sA sn sc) ∧ (∃ ys, RowW w lo hi 87 2 (.slice oA on oc) on ys) := by
  obtain ⟨m, xs, hr, hs⟩ := h
  obtain ⟨_, _, e, _⟩ := own_form hr.1
  injection e with _ e1 _
  subst e1
  obtain ⟨g, c', e2, hlo, hhi, _, hc, hth, hown⟩ := hr.el hi'
  injection e2 with e3 _ e4
  subst e3 e4
  obtain ⟨b, s, o, h1, h2, h3, ⟨bm, bx, h4⟩, h5, ⟨om, ox, h6⟩⟩ := hs i hi'
  obtain ⟨bA, bc, rfl, _⟩ := own_form h4.1
  obtain ⟨oA, oc, rfl, _⟩ := own_form h6.1
  obtain ⟨sm, sx, h7, h8⟩ := h5
  obtain ⟨sA, sc, rfl, _⟩ := own_form h7.1
  exact ⟨g, bA, bm, bc, sA, sm, sc, oA, om, oc, xs, rfl, hlo, hhi, by rw [hc _ (by omega)]; exact h1, by rw [hc _ (by omega)]; exact h2, by rw [hc _ (by omega)]; exact h3, hth, hown, ⟨_, h4⟩, ⟨_, _, h7, h8⟩, ⟨_, h6⟩⟩
theorem SnapsW.at {n c : Nat} {A : Option Addr} (h : SnapsW w lo hi (.slice A n c)) {i : Nat} (hi' : i < n) :
    ∃ g bA bn bc xs, A = some ⟨g, 0, none⟩ ∧ lo ≤ g ∧ g < hi ∧ n ≤ maxLen ∧ w.cell? ⟨g, i * 5 + 2, none⟩ = some (.slice bA bn bc) ∧ w.there g (i * 5) 5 ∧ w.ownsRow lo 66 5 (.slice (some ⟨g, 0, none⟩) n c) n xs ∧ (∃ ys, RowW w lo hi 85 2 (.slice bA bn bc) bn ys) := by
  obtain ⟨m, xs, hr, hs⟩ := h
  obtain ⟨_, _, e, _⟩ := own_form hr.1
  injection e with _ e1 _
  subst e1
  obtain ⟨g, c', e2, hlo, hhi, hm, hc, hth, hown⟩ := hr.el hi'
  injection e2 with e3 _ e4
  subst e3 e4
  obtain ⟨b, h1, ⟨bm, bx, h4⟩⟩ := hs i hi'
  obtain ⟨bA, bc, rfl, _⟩ := own_form h4.1
  exact ⟨g, bA, bm, bc, xs, rfl, hlo, hhi, hm, by rw [hc _ (by omega)]; exact h1, hth, hown, ⟨_, h4⟩⟩
end
end Go.Proofs.YtbppdlhbjddhjaaGreatDoor
