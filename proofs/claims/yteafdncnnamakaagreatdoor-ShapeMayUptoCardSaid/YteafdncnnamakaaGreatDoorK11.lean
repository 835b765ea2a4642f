/-
  tree.origin, by its contract. shape.Destroy's look at the stages: is one of them to go into a path? shape.held: has a set a snapshot with tags?
-/
import Derived.Test.YteafdncnnamakaaGreatDoorK0
import Derived.Test.YteafdncnnamakaaGreatDoorK10
import Derived.Test.YteafdncnnamakaaGreatDoorK7
import Derived.Test.YteafdncnnamakaaGreatDoorK2
namespace Go.Proofs.YteafdncnnamakaaGreatDoor
open Go.RowKit
theorem set_at {w : World} {B n : Nat} {A : Option Addr} {l : List SetR} (h : Reads w B 5 A n (cellsK encSet l)) (hn : n = l.length) {i : Nat} (hi : i < n) :
  ∃ ad, A = some ad ∧ ad.block < B ∧ w.cell? (ad.add (i * 5)) = some (.string ⟨(l[i]'(by omega)).path.toArray⟩) ∧ w.cell? ⟨(ad.add (i * 5)).block, (ad.add (i * 5)).off + 1, none⟩ = some (.string ⟨(l[i]'(by omega)).org.toArray⟩) ∧
   w.cell? ⟨(ad.add (i * 5)).block, (ad.add (i * 5)).off + 2, none⟩ = some (.slice (l[i]'(by omega)).body.A (l[i]'(by omega)).body.n (l[i]'(by omega)).body.c) ∧ w.cell? ⟨(ad.add (i * 5)).block, (ad.add (i * 5)).off + 3, none⟩ = some (.slice (l[i]'(by omega)).snaps.A (l[i]'(by omega)).snaps.n (l[i]'(by omega)).snaps.c) ∧ w.cell? ⟨(ad.add (i * 5)).block, (ad.add (i * 5)).off + 4, none⟩ = some (.slice (l[i]'(by omega)).own.A (l[i]'(by omega)).own.n (l[i]'(by omega)).own.c) :=
 Reads.el5 (f0 := fun x : SetR => .string ⟨x.path.toArray⟩) (f1 := fun x => .string ⟨x.org.toArray⟩) (f2 := fun x => .slice x.body.A x.body.n x.body.c) (f3 := fun x => .slice x.snaps.A x.snaps.n x.snaps.c) (f4 := fun x => .slice x.own.A x.own.n x.own.c) h hn hi
theorem firstI_cases {α : Type} (p : α → Bool) (l : List α) : (firstI p l = -1 ∧ l.find? p = none) ∨ ∃ (k : Nat) (h : k < l.length), firstI p l = (k : Int) ∧ l.find? p = some (l[k]'h) := by
 cases hf : l.find? p with
 | none =>
  have h := List.find?_eq_none.1 hf
  refine .inl ⟨?_, rfl⟩
  unfold firstI
  rw [firstP_none p l (fun y hy => by simpa using h y hy), if_neg (Nat.lt_irrefl _)]
 | some x =>
  obtain ⟨hp, i, hi, e, hb⟩ := List.find?_eq_some_iff_getElem.1 hf
  refine .inr ⟨i, hi, ?_, by rw [e]⟩
  have : firstP p l = i := firstP_eq p l i x (fun y hy => by
   obtain ⟨j, hj, e2⟩ := List.mem_iff_getElem.1 hy
   rw [List.getElem_take] at e2
   have := hb j (by rw [List.length_take] at hj; omega)
   rw [e2] at this
   simpa using this) (by rw [List.getElem?_eq_getElem hi, e]) hp
  unfold firstI
  rw [this, if_pos hi]
theorem splitV_cases (l : BS) : (splitL l = none ∧ splitV l = .tuple #[.string ⟨#[]⟩, .string ⟨#[]⟩, .int .i64 31]) ∨ ∃ p n : BS, splitL l = some (p, n) ∧ splitV l = .tuple #[.string ⟨p.toArray⟩, .string ⟨n.toArray⟩, .int .i64 0] ∧ p.length ≤ l.length ∧ n.length ≤ l.length := by
 unfold splitL splitV
 cases h : atL l with
 | none => exact .inl ⟨rfl, rfl⟩
 | some pn =>
  obtain ⟨p, n⟩ := pn
  have := atL_len _ _ _ h
  by_cases hc : (pathB p && nameB n) = true
  ·exact .inr ⟨p, n, by simp only [if_pos hc], by simp only [if_pos hc], by omega, by omega⟩
  ·exact .inl ⟨by simp only [if_neg hc], by simp only [if_neg hc]⟩
def originP (all : List SetR) (sp so : BS) : Bool := so == [] || match splitL so with
 | none => false
 | some (p, n) => !(p == sp) && match all.find? (fun x => x.path == p) with
  | none => false
  | some x => x.snaps.l.any fun y => y.nm == n
set_option maxRecDepth 100000 in
set_option maxHeartbeats 2000000 in
theorem origin_any (v0 v1 v2 v4 v5 v6 v7 v8 v9 : Value) (all : List SetR) (n : Nat) (hnl : n = all.length) (A : Option Addr) (c : Nat) (sp so : BS) (w : World) (B : Nat) (hr : Reads w B 5 A n (cellsK encSet all)) (he : ∀ y ∈ all, y.rd w B) (hB : B ≤ w.heap.size) (hn : n ≤ 1000000000000) (hv : ∀ y ∈ all, y.sz) (hs : so.length ≤ 4000000000) (hmx : HasMax w) :
  Calls Tryz.prog 143 #[.agg #[v0, v1, v2, .slice A n c, v4, v5, v6], .agg #[.string ⟨sp.toArray⟩, .string ⟨so.toArray⟩, v7, v8, v9]] w fun e w' => e = .returned (.bool (originP all sp so)) ∧ Below w.heap.size w w' := by
 have hb1 := (Below.refl w.heap.size w).alloc (Nat.le_refl _) (.cells #[v0, v1, v2, .slice A n c, v4, v5, v6] 27)
 have hb2 := hb1.alloc hb1.size (.cells #[.string ⟨sp.toArray⟩, .string ⟨so.toArray⟩, v7, v8, v9] 63)
 have k1 := (Blk.new w 27 #[v0, v1, v2, .slice A n c, v4, v5, v6]).alloc (.cells #[.string ⟨sp.toArray⟩, .string ⟨so.toArray⟩, v7, v8, v9] 63)
 have k2 := Blk.new (w.alloc (.cells #[v0, v1, v2, .slice A n c, v4, v5, v6] 27)) 63 #[.string ⟨sp.toArray⟩, .string ⟨so.toArray⟩, v7, v8, v9]
 rw [show (w.alloc (.cells #[v0, v1, v2, .slice A n c, v4, v5, v6] 27)).heap.size = w.heap.size + 1 by simp] at k2
 obtain ⟨W2, hW2⟩ : ∃ W, W = (w.alloc (.cells #[v0, v1, v2, .slice A n c, v4, v5, v6] 27)).alloc (.cells #[.string ⟨sp.toArray⟩, .string ⟨so.toArray⟩, v7, v8, v9] 63) := ⟨_, rfl⟩
 have hsz : W2.heap.size = w.heap.size + 2 := by rw [hW2]; simp
 rw [← hW2] at hb2 k1 k2
 have hS := Lib.hid (fun (W' : World) (hB' : Below W2.heap.size W2 W') =>
  (⟨(k1.below hB' (by omega)).cell 0, (k1.below hB' (by omega)).cell 1, (k1.below hB' (by omega)).cell 2, (k1.below hB' (by omega)).cell 3, (k1.below hB' (by omega)).cell 4, (k1.below hB' (by omega)).cell 5, (k1.below hB' (by omega)).cell 6, (k2.below hB' (by omega)).cell 0⟩ :
   W'.cell? ⟨w.heap.size, 0, none⟩ = some v0 ∧ W'.cell? ⟨w.heap.size, 1, none⟩ = some v1 ∧ W'.cell? ⟨w.heap.size, 2, none⟩ = some v2 ∧ W'.cell? ⟨w.heap.size, 3, none⟩ = some (.slice A n c) ∧ W'.cell? ⟨w.heap.size, 4, none⟩ = some v4 ∧ W'.cell? ⟨w.heap.size, 5, none⟩ = some v5 ∧ W'.cell? ⟨w.heap.size, 6, none⟩ = some v6 ∧ W'.cell? ⟨w.heap.size + 1, 0, none⟩ = some (.string ⟨sp.toArray⟩)))
 have HSZ := Lib.hid hsz
 have HB := Lib.hid hb2
 have HNL := Lib.hid hnl
 have hR := Lib.hid (fun (W' : World) (hB' : Below W2.heap.size W2 W') => (⟨hr.below ((hb2.trans (hB'.mono (by omega))).mono hB), hB'.size, hmx.below (hb2.trans (hB'.mono (by omega))), fun y hy => ⟨(he y hy).body.below ((hb2.trans (hB'.mono (by omega))).mono hB), (he y hy).snaps.below ((hb2.trans (hB'.mono (by omega))).mono hB)⟩⟩ : Reads W' B 5 A n (cellsK encSet all) ∧ W2.heap.size ≤ W'.heap.size ∧ HasMax W' ∧ ∀ y ∈ all, y.body.rd W' B 2 encB ∧ y.snaps.rd W' B 5 encSnap))
 have HV := Lib.hid hv
 clear k1 k2 hsz hb1 hb2 hnl hr he hv
 by_cases ho : so = []
 ·subst ho
  have HE : Hid (originP all sp [] = true) := rfl
  go_enter Tryz.func143, Tryz.ntmps143
  go_wp2_with fail
  rw [← hW2]
  go_ret
  exact ⟨by rw [HE.out]; rfl, HB.out⟩
 ·have ho1 : (so == []) = false := by simpa using ho
  have ho2 : so.isEmpty = false := by cases so <;> simp_all
  have HE : Hid (originP all sp so = match splitL so with
   | none => false
   | some (p, n) => !(p == sp) && match all.find? (fun x => x.path == p) with
    | none => false
    | some x => x.snaps.l.any fun y => y.nm == n) := by show _ = _; unfold originP; rw [ho1]; rfl
  obtain ⟨V, hV⟩ : ∃ V, V = originP all sp so := ⟨_, rfl⟩
  rw [← hV] at HE ⊢
  have hspl := fun (hm : HasMax W2) => split_any ⟨so.toArray⟩ W2 (by show so.length ≤ _; exact hs) hm
  rw [show (ByteArray.mk so.toArray).data.toList = so from rfl] at hspl
  have hspl := hspl (hmx.below HB.out)
  have HO := Lib.hid ho
  clear hV ho
  rcases splitV_cases so with ⟨h1, h2⟩ | ⟨p, m, h1, h2, h3, h4⟩
  ·rw [h2] at hspl
   rw [h1] at HE
   clear h1 h2
   go_enter Tryz.func143, Tryz.ntmps143
   go_wp2_with fail
   rw [← hW2]
   refine hspl.mono ?_
   clear hspl
   rintro e w1 ⟨rfl, hb1⟩
   obtain ⟨q0, q1, q2, q3, q4, q5, q6, q7⟩ := hS.out _ hb1
   obtain ⟨r1, r2, r3, r4⟩ := hR.out _ hb1
   have hfi := find_any v0 v1 v2 v4 v5 v6 all n HNL.out A c [] w1 B r1 (by have := HSZ.out; omega) (by omega)
   have HB1 := Lib.hid hb1
   clear r1 r2 r3 r4 hb1
   go_wp2_with fail
   refine hfi.mono ?_
   clear hfi
   rintro e w2 ⟨rfl, hb2⟩
   go_wp2_with fail
   go_ret
   exact ⟨by rw [HE.out]; rfl, HB.out.trans ((HB1.out.trans (hb2.mono HB1.out.size)).mono (by have := HSZ.out; omega))⟩
  ·rw [h2] at hspl
   rw [h1] at HE
   clear h1 h2
   have HE : Hid (V = (!(p == sp) && match all.find? (fun x => x.path == p) with
    | none => false
    | some x => x.snaps.l.any fun y => y.nm == m)) := HE
   go_enter Tryz.func143, Tryz.ntmps143
   go_wp2_with fail
   rw [← hW2]
   refine hspl.mono ?_
   clear hspl
   rintro e w1 ⟨rfl, hb1⟩
   obtain ⟨q0, q1, q2, q3, q4, q5, q6, q7⟩ := hS.out _ hb1
   obtain ⟨r1, r2, r3, r4⟩ := hR.out _ hb1
   have hfi := find_any v0 v1 v2 v4 v5 v6 all n HNL.out A c p w1 B r1 (by have := HSZ.out; omega) (by omega)
   obtain ⟨z, hz⟩ : ∃ z, z = findS all p := ⟨_, rfl⟩
   rw [← hz] at hfi
   have HB1 := Lib.hid hb1
   have HZ := Lib.hid hz
   clear r1 r2 r3 r4 hb1 hz
   go_wp2_with fail
   refine hfi.mono ?_
   clear hfi q0 q1 q2 q3 q4 q5 q6 q7
   rintro e w2 ⟨rfl, hb2⟩
   have HB2 := Lib.hid (HB1.out.trans (hb2.mono HB1.out.size))
   clear hb2 HB1
   obtain ⟨q0, q1, q2, q3, q4, q5, q6, q7⟩ := hS.out _ HB2.out
   by_cases hps : p = sp
   ·have hpb : (p == sp) = true := by simpa using hps
    have HE2 : Hid (V = false) := by show _ = _; rw [HE.out, hpb]; rfl
    subst hps
    go_wp2_with fail
    go_ret
    exact ⟨by rw [HE2.out]; rfl, HB.out.trans (HB2.out.mono (by have := HSZ.out; omega))⟩
   ·have hpb : (p == sp) = false := by simpa using hps
    have HE2 : Hid (V = match all.find? (fun x => x.path == p) with
     | none => false
     | some x => x.snaps.l.any fun y => y.nm == m) := by show _ = _; rw [HE.out, hpb]; rfl
    clear hps HE
    rcases firstI_cases (fun x : SetR => x.path == p) all with ⟨f1, f2⟩ | ⟨k, hk, f1, f2⟩
    ·have hz : z = -1 := HZ.out.trans f1
     rw [f2] at HE2
     subst hz
     clear f1 f2
     go_wp2_with fail
     go_ret
     exact ⟨by rw [HE2.out]; rfl, HB.out.trans (HB2.out.mono (by have := HSZ.out; omega))⟩
    ·have hz : z = (k : Int) := HZ.out.trans f1
     rw [f2] at HE2
     subst hz
     obtain ⟨r1, r2, r3, r4⟩ := hR.out _ HB2.out
     have hkn : k < n := by have := HNL.out; omega
     have hki : (k : Int) < (n : Int) := by omega
     obtain ⟨ad, rfl, -, c0, c1, c2, c3, c4⟩ := set_at r1 HNL.out hkn
     obtain ⟨x, hx⟩ : ∃ x, x = all[k]'hk := ⟨_, rfl⟩
     rw [← hx] at c0 c1 c2 c3 c4 HE2
     have hxm : x ∈ all := by rw [hx]; exact List.getElem_mem _
     obtain ⟨_, r5⟩ := r4 x hxm
     have hsn := HV.out x hxm
     have HC := Lib.hid (snapAt_any (.string ⟨x.path.toArray⟩) (.string ⟨x.org.toArray⟩) (.slice x.body.A x.body.n x.body.c) (.slice x.own.A x.own.n x.own.c) x.snaps.l x.snaps.n r5.1 x.snaps.A x.snaps.c m w2 B r5.2.2 (by have := HSZ.out; omega) (by have := hsn.snaps; omega))
     have HA := Lib.hid (firstI_any (fun y : SnapR => y.nm == m) x.snaps.l)
     have HE3 : Hid (V = x.snaps.l.any fun y => y.nm == m) := HE2
     obtain ⟨xp, xo, ⟨b1, b2, b3, bl⟩, ⟨s1, s2, s3, sl⟩, ⟨o1, o2, o3, ol⟩⟩ := x
     simp only at c0 c1 c2 c3 c4 HC HA HE3
     clear hx f1 f2 HE2 r1 r2 r3 r4 r5 hsn hxm hR HZ HV HNL
     go_wp2_with fail
     refine HC.out.mono ?_
     rintro e w3 ⟨rfl, hb3⟩
     have HBF := Lib.hid (HB.out.trans ((HB2.out.trans (hb3.mono HB2.out.size)).mono (by have := HSZ.out; omega)))
     have HA2 : Hid (V = decide ((0 : Int) ≤ findN sl m)) := by show _ = _; rw [HE3.out]; exact HA.out.symm
     clear c0 c1 c2 c3 c4 hb3 HC HA HE3
     go_wp2_with fail
     go_ret
     exact ⟨by rw [HA2.out]; rfl, HBF.out⟩
end Go.Proofs.YteafdncnnamakaaGreatDoor
namespace Go.Proofs.YteafdncnnamakaaGreatDoor
open Go.RowKit
set_option maxRecDepth 100000 in
set_option maxHeartbeats 2000000 in
theorem stagedC_any (x : StageR) (p0 : Addr) (q : BS) (w : World) (hc : w.cell? p0 = some (.string ⟨q.toArray⟩)) (hlt : p0.block < w.heap.size) :
  Calls Tryz.prog 34 (#[.agg (encStage x).toArray] ++ #[.pointer (some p0)]) w fun e w' => e = .returned (.bool (x.into == q)) ∧ Below w.heap.size w w' := by
 obtain ⟨into, kind, nm, frm, gd, ⟨o1, on, o3, ol⟩, ix, ct, dt, ⟨sa, sb, sc, sd⟩, ⟨b1, bn, b3, bl⟩, at_, nx, ⟨ua, ub, uc, ud⟩, done⟩ := x
 show Calls Tryz.prog 34 #[.agg #[.string ⟨into.toArray⟩, .int .i64 kind, .string ⟨nm.toArray⟩, .int .i64 frm, .int .i64 gd, .slice o1 on o3, .int .i64 ix, .int .i64 ct, .string ⟨dt.toArray⟩, .int .u64 sa, .int .u64 sb, .int .u64 sc, .int .u64 sd, .slice b1 bn b3, .int .i64 at_, .int .i64 nx, .int .u64 ua, .int .u64 ub, .int .u64 uc, .int .u64 ud, .bool done], .pointer (some p0)] w _
 have hb1 := (Below.refl w.heap.size w).alloc (Nat.le_refl _) (.cells #[.string ⟨into.toArray⟩, .int .i64 kind, .string ⟨nm.toArray⟩, .int .i64 frm, .int .i64 gd, .slice o1 on o3, .int .i64 ix, .int .i64 ct, .string ⟨dt.toArray⟩, .int .u64 sa, .int .u64 sb, .int .u64 sc, .int .u64 sd, .slice b1 bn b3, .int .i64 at_, .int .i64 nx, .int .u64 ua, .int .u64 ub, .int .u64 uc, .int .u64 ud, .bool done] 47)
 have k1 := Blk.new w 47 #[.string ⟨into.toArray⟩, .int .i64 kind, .string ⟨nm.toArray⟩, .int .i64 frm, .int .i64 gd, .slice o1 on o3, .int .i64 ix, .int .i64 ct, .string ⟨dt.toArray⟩, .int .u64 sa, .int .u64 sb, .int .u64 sc, .int .u64 sd, .slice b1 bn b3, .int .i64 at_, .int .i64 nx, .int .u64 ua, .int .u64 ub, .int .u64 uc, .int .u64 ud, .bool done]
 have hc1 := (hb1.cell hlt).trans hc
 have e0 := k1.cell 0
 simp only [zF, zE] at e0
 obtain ⟨W1, hW1⟩ : ∃ W, W = w.alloc (.cells #[.string ⟨into.toArray⟩, .int .i64 kind, .string ⟨nm.toArray⟩, .int .i64 frm, .int .i64 gd, .slice o1 on o3, .int .i64 ix, .int .i64 ct, .string ⟨dt.toArray⟩, .int .u64 sa, .int .u64 sb, .int .u64 sc, .int .u64 sd, .slice b1 bn b3, .int .i64 at_, .int .i64 nx, .int .u64 ua, .int .u64 ub, .int .u64 uc, .int .u64 ud, .bool done] 47) := ⟨_, rfl⟩
 rw [← hW1] at hb1 hc1 e0
 have HB1 := Lib.hid hb1
 clear hb1 k1 hc
 go_enter Tryz.func34, Tryz.ntmps34
 go_wp2_with (rw [← hW1]; clear hW1)
 by_cases h : into = q
 ·subst h
  have h1 : (into == into) = true := by simp
  go_wp2_with fail
  go_ret
  exact ⟨by simp [go_sem], HB1.out⟩
 ·have h1 : (into == q) = false := by simpa using h
  go_wp2_with fail
  go_ret
  exact ⟨by simp [go_sem, h1], HB1.out⟩
set_option maxRecDepth 100000 in
set_option maxHeartbeats 2000000 in
theorem stagedI_any (l : List StageR) (n : Nat) (hnl : n = l.length) (A : Option Addr) (c : Nat) (p0 : Addr) (q : BS) (w : World) (B : Nat) (hr : Reads w B 21 A n (cellsK encStage l)) (hB : B ≤ w.heap.size) (hn : n ≤ 5000000000000) (hc : w.cell? p0 = some (.string ⟨q.toArray⟩)) (hlt : p0.block < w.heap.size) :
  Calls Tryz.prog 80 #[.slice A n c, .func (.func 34) #[] #[.pointer (some p0)]] w fun e w' => e = .returned (.int .i64 (firstI (fun x : StageR => x.into == q) l)) ∧ Below w.heap.size w w' := by
 have HN := Lib.hid hnl
 have HCL : Hid (∀ (x : StageR) W, Below w.heap.size w W → Calls Tryz.prog 34 (#[.agg (encStage x).toArray] ++ #[.pointer (some p0)]) W fun e w' => e = .returned (.bool (x.into == q)) ∧ Below W.heap.size W w') := fun x W h =>
  stagedC_any x p0 q W ((h.cell hlt).trans hc) (Nat.lt_of_lt_of_le hlt h.size)
 clear hnl hc
 go_enter Tryz.func80, Tryz.ntmps80
 go_wp2_with fail
 go_loopw [8] (fun j wr => ∃ k : Nat, k ≤ n ∧ j = .int .i64 (k : Int) ∧ Hid (∀ y ∈ l.take k, (y.into == q) = false) ∧ Below w.heap.size w wr) (fun j _ => n - (intOf j).toNat)
 case atStart => exact ⟨0, Nat.zero_le _, rfl, (show ∀ y ∈ _, _ by simp), Below.refl _ _⟩
 case round =>
  obtain ⟨k, hk, rfl, hno, hbw⟩ := hrel
  by_cases hlt2 : k < n
  ·have hki : (k : Int) < (n : Int) := by omega
   have hkl : k < l.length := by have := HN.out; omega
   obtain ⟨ad, rfl, _, hel⟩ := Reads.elK (k := 21) (enc := encStage) (fun _ => rfl) (hr.below (hbw.mono hB)) HN.out hlt2
   have hel2 : ∀ j v, (encStage (l[k]'hkl))[j]? = some v → wr.cell? ((ad.add (k * 21)).add j) = some v := fun j v hv => by
    rw [hel j (by have := (List.getElem?_eq_some_iff.1 hv).1; simpa [encStage, smV] using this)]
    exact hv
   obtain ⟨x, hx⟩ : ∃ x, x = l[k]'hkl := ⟨_, rfl⟩
   rw [← hx] at hel2
   have htk := List.take_succ_eq_append_getElem hkl
   rw [← hx] at htk
   have HTK := Lib.hid htk
   have HX := Lib.hid (show l[k]? = some x by rw [hx]; exact List.getElem?_eq_getElem _)
   have hc := HCL.out x wr hbw
   obtain ⟨b, hb⟩ : ∃ b, b = (x.into == q) := ⟨_, rfl⟩
   rw [← hb] at hc
   have HBX := Lib.hid hb
   obtain ⟨into, kind, nm, frm, gd, ⟨o1, on, o3, ol⟩, ix, ct, dt, ⟨sa, sb, sc, sd⟩, ⟨b1, bn, b3, bl⟩, at_, nx, ⟨ua, ub, uc, ud⟩, done⟩ := x
   have HEL : Hid (∀ j v, ([.string ⟨into.toArray⟩, .int .i64 kind, .string ⟨nm.toArray⟩, .int .i64 frm, .int .i64 gd, .slice o1 on o3, .int .i64 ix, .int .i64 ct, .string ⟨dt.toArray⟩, .int .u64 sa, .int .u64 sb, .int .u64 sc, .int .u64 sd, .slice b1 bn b3, .int .i64 at_, .int .i64 nx, .int .u64 ua, .int .u64 ub, .int .u64 uc, .int .u64 ud, .bool done] : List Value)[j]? = some v → wr.cell? ((ad.add (k * 21)).add j) = some v) := hel2
   have hc : Calls Tryz.prog 34 #[.agg #[.string ⟨into.toArray⟩, .int .i64 kind, .string ⟨nm.toArray⟩, .int .i64 frm, .int .i64 gd, .slice o1 on o3, .int .i64 ix, .int .i64 ct, .string ⟨dt.toArray⟩, .int .u64 sa, .int .u64 sb, .int .u64 sc, .int .u64 sd, .slice b1 bn b3, .int .i64 at_, .int .i64 nx, .int .u64 ua, .int .u64 ub, .int .u64 uc, .int .u64 ud, .bool done], .pointer (some p0)] wr fun e w' => e = .returned (.bool b) ∧ Below wr.heap.size wr w' := hc
   clear hx htk hr hb hel hel2
   go_wp2_with (refine wpList_load_at rfl 47 (.tmp 14) rfl (ad.add (k * 21)) rfl [.string ⟨into.toArray⟩, .int .i64 kind, .string ⟨nm.toArray⟩, .int .i64 frm, .int .i64 gd, .slice o1 on o3, .int .i64 ix, .int .i64 ct, .string ⟨dt.toArray⟩, .int .u64 sa, .int .u64 sb, .int .u64 sc, .int .u64 sd, .slice b1 bn b3, .int .i64 at_, .int .i64 nx, .int .u64 ua, .int .u64 ub, .int .u64 uc, .int .u64 ud, .bool done] _ HEL.out Tryz.underlying47 rfl (by kernel_rfl) ?_)
   refine hc.mono ?_
   clear hc
   rintro e w1 ⟨rfl, hb1⟩
   have hbw1 := hbw.trans (hb1.mono hbw.size)
   cases b with
   | true =>
    go_wp2_with fail
    go_ret
    have hf := firstP_eq (fun x : StageR => x.into == q) l k _ hno.out HX.out HBX.out.symm
    exact ⟨by unfold firstI; rw [hf, if_pos hkl]; rfl, hbw1⟩
   | false =>
    go_wp2_with fail
    go_roundw
    case rel =>
     refine ⟨k + 1, by omega, by go_num, ?_, hbw1⟩
     show ∀ y ∈ l.take (k + 1), (y.into == q) = false
     intro y hy
     rw [HTK.out] at hy
     rcases List.mem_append.1 hy with hy | hy
     ·exact hno.out y hy
     ·simp at hy; subst hy; exact HBX.out.symm
    case measure => simp [intOf]; omega
  ·have hkn : k = n := by omega
   have HF : Hid (firstI (fun x : StageR => x.into == q) l = -1) := by
    show _ = _
    unfold firstI
    rw [firstP_none _ l (fun y hy => hno.out y (by rw [List.take_of_length_le (by rw [hkn, HN.out]; exact Nat.le_refl _)]; exact hy)), if_neg (Nat.lt_irrefl _)]
   clear hr hkn
   go_wp2_with fail
   go_ret
   exact ⟨by rw [HF.out]; rfl, hbw⟩
set_option maxRecDepth 100000 in
set_option maxHeartbeats 1000000 in
theorem staged_any (l : List StageR) (n : Nat) (hnl : n = l.length) (A : Option Addr) (c : Nat) (p0 : Addr) (q : BS) (w : World) (B : Nat) (hr : Reads w B 21 A n (cellsK encStage l)) (hB : B ≤ w.heap.size) (hn : n ≤ 5000000000000) (hc : w.cell? p0 = some (.string ⟨q.toArray⟩)) (hlt : p0.block < w.heap.size) :
  Calls Tryz.prog 33 #[.slice A n c, .func (.func 34) #[] #[.pointer (some p0)]] w fun e w' => e = .returned (.bool (l.any fun x => x.into == q)) ∧ Below w.heap.size w w' := by
 have hcl := Lib.hid (stagedI_any l n hnl A c p0 q w B hr hB hn hc hlt)
 have HA := Lib.hid (firstI_any (fun x : StageR => x.into == q) l)
 clear hnl hr hc
 go_enter Tryz.func33, Tryz.ntmps33
 go_wp2_with fail
 refine hcl.out.mono ?_
 rintro e w1 ⟨rfl, hb⟩
 have HB := Lib.hid hb
 clear hb
 go_wp2_with fail
 go_ret
 exact ⟨by rw [← HA.out]; rfl, HB.out⟩
end Go.Proofs.YteafdncnnamakaaGreatDoor
namespace Go.Proofs.YteafdncnnamakaaGreatDoor
open Go.RowKit
set_option maxRecDepth 100000 in
set_option maxHeartbeats 1000000 in
theorem heldS_index {α : Type} (f0 f1 f2 f3 f4 : α → Value) (p : α → Bool) (l : List α) (n : Nat) (hnl : n = l.length) (A : Option Addr) (c : Nat) (Keep : World → Prop) (w : World) (B : Nat)
  (hr : Reads w B 5 A n (cellsK (fun x => [f0 x, f1 x, f2 x, f3 x, f4 x]) l)) (hB : B ≤ w.heap.size) (hn : n ≤ 5000000000000) (hp : PredK Tryz.prog 83 #[] (fun x => #[f0 x, f1 x, f2 x, f3 x, f4 x]) (· ∈ l) p Keep) (hk0 : Keep w) :
  Calls Tryz.prog 137 #[.slice A n c, .func (.func 83) #[] #[]] w fun e w' => e = .returned (.int .i64 (firstI p l)) ∧ Below w.heap.size w w' := by
 have HN := Lib.hid hnl
 have HP := Lib.hid hp
 clear hnl hp
 go_enter Tryz.func137, Tryz.ntmps137
 go_wp2_with fail
 go_loopw [8] (fun j wr => ∃ k : Nat, k ≤ n ∧ j = .int .i64 (k : Int) ∧ Hid (∀ y ∈ l.take k, p y = false) ∧ Below w.heap.size w wr ∧ Keep wr) (fun j _ => n - (intOf j).toNat)
 case atStart => exact ⟨0, Nat.zero_le _, rfl, (show ∀ y ∈ _, _ by simp), Below.refl _ _, hk0⟩
 case round =>
  obtain ⟨k, hk, rfl, hno, hbw, hkw⟩ := hrel
  by_cases hlt : k < n
  ·have hki : (k : Int) < (n : Int) := by omega
   have hkl : k < l.length := by have := HN.out; omega
   obtain ⟨ad, rfl, _, c0, c1, c2, c3, c4⟩ := (hr.below (hbw.mono hB)).el5 HN.out hlt
   obtain ⟨x, hx⟩ : ∃ x, x = l[k]'hkl := ⟨_, rfl⟩
   rw [← hx] at c0 c1 c2 c3 c4
   have htk := List.take_succ_eq_append_getElem hkl
   rw [← hx] at htk
   have HTK := Lib.hid htk
   have HX := Lib.hid (show l[k]? = some x by rw [hx]; exact List.getElem?_eq_getElem _)
   have hc := HP.out.call x wr (List.mem_of_getElem? HX.out) hkw
   obtain ⟨b, hb⟩ : ∃ b, b = p x := ⟨_, rfl⟩
   rw [← hb] at hc
   have HBX := Lib.hid hb
   simp only [List.append_toArray, List.cons_append, List.nil_append] at hc
   clear hx htk hr hb
   go_wp2_with fail
   refine hc.mono ?_
   clear hc
   rintro e w1 ⟨rfl, hb1⟩
   have hkw1 := HP.out.below wr w1 hkw hb1
   have hbw1 := hbw.trans (hb1.mono hbw.size)
   cases b with
   | true =>
    go_wp2_with fail
    go_ret
    have hf := firstP_eq p l k x hno.out HX.out HBX.out.symm
    exact ⟨by unfold firstI; rw [hf, if_pos hkl]; rfl, hbw1⟩
   | false =>
    go_wp2_with fail
    go_roundw
    case rel =>
     refine ⟨k + 1, by omega, by go_num, ?_, hbw1, hkw1⟩
     show ∀ y ∈ l.take (k + 1), p y = false
     intro y hy
     rw [HTK.out] at hy
     rcases List.mem_append.1 hy with hy | hy
     ·exact hno.out y hy
     ·simp at hy; subst hy; exact HBX.out.symm
    case measure => simp [intOf]; omega
  ·have hkn : k = n := by omega
   have HF : Hid (firstI p l = -1) := by
    show _ = _
    unfold firstI
    rw [firstP_none p l (fun y hy => hno.out y (by rw [List.take_of_length_le (by rw [hkn, HN.out]; exact Nat.le_refl _)]; exact hy)), if_neg (Nat.lt_irrefl _)]
   clear hr hkn
   go_wp2_with fail
   go_ret
   exact ⟨by rw [HF.out]; rfl, hbw⟩
set_option maxRecDepth 100000 in
set_option maxHeartbeats 1000000 in
theorem heldC_any (x : SnapR) (w : World) : Calls Tryz.prog 83 #[.agg #[.string ⟨x.nm.toArray⟩, .int .i64 x.gd, .slice x.body.A x.body.n x.body.c, .slice x.tags.A x.tags.n x.tags.c, .slice x.own.A x.own.n x.own.c]] w fun e w' => e = .returned (.bool (decide (0 < x.tags.n))) ∧ Below w.heap.size w w' := by
 obtain ⟨nm, gd, ⟨bA, bn, bc, bl⟩, ⟨tA, tn, tc, tl⟩, ⟨oA, on, oc, ol⟩⟩ := x
 have hb1 := (Below.refl w.heap.size w).alloc (Nat.le_refl _) (.cells #[.string ⟨nm.toArray⟩, .int .i64 gd, .slice bA bn bc, .slice tA tn tc, .slice oA on oc] 75)
 go_enter Tryz.func83, Tryz.ntmps83
 go_wp2_with fail
 go_ret
 exact ⟨by simp [go_sem], hb1⟩
set_option maxRecDepth 100000 in
set_option maxHeartbeats 1000000 in
theorem heldF_any (l : List SnapR) (n : Nat) (hnl : n = l.length) (A : Option Addr) (c : Nat) (w : World) (B : Nat) (hr : Reads w B 5 A n (cellsK encSnap l)) (hB : B ≤ w.heap.size) (hn : n ≤ 5000000000000) :
  Calls Tryz.prog 82 #[.slice A n c, .func (.func 83) #[] #[]] w fun e w' => e = .returned (.bool (l.any fun x => decide (0 < x.tags.n))) ∧ Below w.heap.size w w' := by
 have hc := Lib.hid (heldS_index (fun x : SnapR => .string ⟨x.nm.toArray⟩) (fun x => .int .i64 x.gd) (fun x => .slice x.body.A x.body.n x.body.c) (fun x => .slice x.tags.A x.tags.n x.tags.c) (fun x => .slice x.own.A x.own.n x.own.c) (fun x => decide (0 < x.tags.n)) l n hnl A c (fun _ => True) w B hr hB hn
  ⟨fun x W _ _ => heldC_any x W, fun _ _ _ _ => trivial⟩ trivial)
 have HA := Lib.hid (firstI_any (fun x : SnapR => decide (0 < x.tags.n)) l)
 clear hnl hr
 go_enter Tryz.func82, Tryz.ntmps82
 go_wp2_with fail
 refine hc.out.mono ?_
 rintro e w1 ⟨rfl, hb⟩
 have HB := Lib.hid hb
 clear hb
 go_wp2_with fail
 go_ret
 exact ⟨by rw [← HA.out]; rfl, HB.out⟩
set_option maxRecDepth 100000 in
set_option maxHeartbeats 1000000 in
theorem shHeld_any (x : SetR) (w : World) (B : Nat) (hr : Reads w B 5 x.snaps.A x.snaps.n (cellsK encSnap x.snaps.l)) (hnl : x.snaps.n = x.snaps.l.length) (hB : B ≤ w.heap.size) (hn : x.snaps.n ≤ 5000000000000) :
  Calls Tryz.prog 37 #[.agg #[.string ⟨x.path.toArray⟩, .string ⟨x.org.toArray⟩, .slice x.body.A x.body.n x.body.c, .slice x.snaps.A x.snaps.n x.snaps.c, .slice x.own.A x.own.n x.own.c]] w fun e w' => e = .returned (.bool (x.snaps.l.any fun y => decide (0 < y.tags.n))) ∧ Below w.heap.size w w' := by
 obtain ⟨pa, og, ⟨bA, bn, bc, bl⟩, ⟨zA, zn, zc, zl⟩, ⟨oA, on, oc, ol⟩⟩ := x
 have hb1 := (Below.refl w.heap.size w).alloc (Nat.le_refl _) (.cells #[.string ⟨pa.toArray⟩, .string ⟨og.toArray⟩, .slice bA bn bc, .slice zA zn zc, .slice oA on oc] 63)
 have hc := Lib.hid (heldF_any zl zn hnl zA zc (w.alloc (.cells #[.string ⟨pa.toArray⟩, .string ⟨og.toArray⟩, .slice bA bn bc, .slice zA zn zc, .slice oA on oc] 63)) B (Reads.below hr (hb1.mono hB)) (by simp; omega) hn)
 have HB1 := Lib.hid hb1
 clear hr hnl hb1
 go_enter Tryz.func37, Tryz.ntmps37
 go_wp2_with fail
 refine hc.out.mono ?_
 rintro e w1 ⟨rfl, hb⟩
 have HB := Lib.hid (HB1.out.trans (hb.mono HB1.out.size))
 clear hb HB1
 go_wp2_with fail
 go_ret
 exact ⟨rfl, HB.out⟩
end Go.Proofs.YteafdncnnamakaaGreatDoor
