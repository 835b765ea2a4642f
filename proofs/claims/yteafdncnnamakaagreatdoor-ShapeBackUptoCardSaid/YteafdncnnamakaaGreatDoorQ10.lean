/-
 shape.Settle: a changed tenant, if it may be and if it fits.
-/
import Derived.Test.YteafdncnnamakaaGreatDoorQ9
import Derived.Test.YteafdncnnamakaaGreatDoorQ3
import Derived.Test.YteafdncnnamakaaGreatDoorShIns
import Derived.Test.YteafdncnnamakaaGreatDoorQ8
import Derived.Test.YteafdncnnamakaaGreatDoorQ1
import Derived.Test.YteafdncnnamakaaGreatDoorQ7
import Derived.Test.YteafdncnnamakaaGreatDoorShift
namespace Go.Proofs.YteafdncnnamakaaGreatDoor
open Go.RowKit

theorem results_cell_tmp {P : Program} {fn : Func} {tmps : Array Value} {a b : Tmp} {t : TypeId} {ad : Addr} {v u : Value} {w : World} (hr : fn.results = #[.cell a t, .tmp b]) (ha : tmps[a]?.getD undef = .pointer (some ad)) (hl : (loadVar t ad).run P w = .ok v w) (hu : tmps[b]?.getD undef = u := by rfl) : (results fn tmps).run P w = .ok (.tuple #[v, u]) w := by
 simp [results, hr, ha, hl, hu, asAddr]
theorem grown_cellsS (g : Nat) (cs : List Value) : ∀ (W : World) (o : Nat), W.grownBy (W.setCells g o cs) (some g) := by
 induction cs with
 | nil => intro W o; exact ⟨rfl, rfl, rfl, Nat.le_refl _, fun _ _ _ => rfl⟩
 | cons u r ih => intro W o; exact grown_tr (grown_box W g o u) (ih _ _)
theorem sum_le_len {α : Type} (f : α → Int) (c : Int) (l : List α) (h : ∀ x ∈ l, f x ≤ c) : (l.map f).sum ≤ l.length * c := by
 induction l with
 | nil => simp
 | cons x r ih =>
  have h1 := h x List.mem_cons_self
  have h2 := ih (fun y hy => h y (List.mem_cons_of_mem _ hy))
  simp only [List.map_cons, List.sum_cons, List.length_cons, Int.natCast_add, Int.add_mul, Int.natCast_one, Int.one_mul]
  omega
theorem setSum_small (x : SetR) (hz : x.sz) (h : x.snaps.l.length ≤ 16) : setSum x ≤ 20000000000000 := by
 unfold setSum sumB
 rw [List.take_length]
 have h1 := hz.body
 have h2 := sum_le_len (fun y : SnapR => (y.body.n : Int) + 1) 1000000000001 x.snaps.l (fun y hy => by have := (hz.each y hy).body; omega)
 omega
/-- what may be is not much -/
theorem tenSum_small (t : TenR) (hz : t.sz) (h : tenE t = 0) : tenSum t ≤ 4000000000000000000 := by
 unfold tenE at h
 split at h
 ·rename_i hb
  unfold tenB at hb
  simp only [Bool.and_eq_true] at hb
  have hS := hb.1.1.1.2
  have hG := hb.1.2
  unfold setsB at hS
  unfold stagesB at hG
  simp only [Bool.and_eq_true, decide_eq_true_eq] at hS hG
  have hx := ((setsFrom_iff _ _ _).1 hS.2).1
  have h1 := sum_le_len setSum 20000000000000 t.sets.l (fun x hm => by
   have h3 := hx x hm
   unfold setB at h3
   simp only [Bool.and_eq_true] at h3
   have h4 := h3.1.2
   unfold snapsB at h4
   simp only [Bool.and_eq_true, decide_eq_true_eq] at h4
   exact setSum_small x (hz.eachS x hm) h4.1.1)
  have h2 := sum_le_len (fun x : StageR => (x.body.n : Int) + 1) 1000000000001 t.stages.l (fun y hy => by have := (hz.eachT y hy).body; omega)
  unfold tenSum sumS sumG
  rw [List.take_length, List.take_length]
  have h5 := hS.1.1
  have h6 := hG.1
  omega
 ·cases h
def ZEROT : Value := .agg #[.string ⟨#[]⟩, .int .i64 0, .int .i64 0, .slice none 0 0, .slice none 0 0, .slice none 0 0, .slice none 0 0]
def SettlePost (t : TenR) (w : World) (e : Ending) (w' : World) : Prop := ∃ v E, e = .returned (.tuple #[v, .int .i64 E]) ∧ Below w.heap.size w w' ∧
 ((tenE t = 9 ∧ E = 9 ∧ v = ZEROT) ∨ (tenE t = 0 ∧ t.quota < tenSum t ∧ E = 42 ∧ v = ZEROT) ∨ (tenE t = 0 ∧ tenSum t ≤ t.quota ∧ E = 0 ∧ ∃ y : TenR, v = y.val ∧ TenO w' w.heap.size y ∧ t.eqv y))
theorem tenE_09 (t : TenR) : tenE t = 0 ∨ tenE t = 9 := by unfold tenE; split <;> simp
set_option maxRecDepth 100000 in
set_option maxHeartbeats 4000000 in
theorem settle_any (t : TenR) (w : World) (B : Nat) (hB : B ≤ w.heap.size) (hr : t.rd w B) (hz : t.sz) (hmx : HasMax w) :
  Calls Tryz.prog 11 #[t.val] w (SettlePost t w) := by
 have h2 := tenE_09 t
 have hsm := tenSum_small t hz
 obtain ⟨nm, qu, nx, ⟨s1, sn, s3, sl⟩, ⟨g1, gn, g3, gl⟩, ⟨t1, tn, t3, tl⟩, ⟨l1, ln, l3, ll⟩⟩ := t
 show Calls Tryz.prog 11 #[.agg #[.string ⟨nm.toArray⟩, .int .i64 qu, .int .i64 nx, .slice s1 sn s3, .slice g1 gn g3, .slice t1 tn t3, .slice l1 ln l3]] w _
 have hb2 := ((Below.refl w.heap.size w).alloc (Nat.le_refl _) (.cells #[.string ⟨nm.toArray⟩, .int .i64 qu, .int .i64 nx, .slice s1 sn s3, .slice g1 gn g3, .slice t1 tn t3, .slice l1 ln l3] 27)).alloc (by simp) (.cells #[.string ⟨#[]⟩, .int .i64 0, .int .i64 0, .slice none 0 0, .slice none 0 0, .slice none 0 0, .slice none 0 0] 27)
 have kT := (Blk.new w 27 #[.string ⟨nm.toArray⟩, .int .i64 qu, .int .i64 nx, .slice s1 sn s3, .slice g1 gn g3, .slice t1 tn t3, .slice l1 ln l3]).alloc (.cells #[.string ⟨#[]⟩, .int .i64 0, .int .i64 0, .slice none 0 0, .slice none 0 0, .slice none 0 0, .slice none 0 0] 27)
 have kZ := Blk.new (w.alloc (.cells #[.string ⟨nm.toArray⟩, .int .i64 qu, .int .i64 nx, .slice s1 sn s3, .slice g1 gn g3, .slice t1 tn t3, .slice l1 ln l3] 27)) 27 #[.string ⟨#[]⟩, .int .i64 0, .int .i64 0, .slice none 0 0, .slice none 0 0, .slice none 0 0, .slice none 0 0]
 rw [show (w.alloc (.cells #[.string ⟨nm.toArray⟩, .int .i64 qu, .int .i64 nx, .slice s1 sn s3, .slice g1 gn g3, .slice t1 tn t3, .slice l1 ln l3] 27)).heap.size = w.heap.size + 1 by simp] at kZ
 obtain ⟨W2, hW2⟩ : ∃ W, W = (w.alloc (.cells #[.string ⟨nm.toArray⟩, .int .i64 qu, .int .i64 nx, .slice s1 sn s3, .slice g1 gn g3, .slice t1 tn t3, .slice l1 ln l3] 27)).alloc (.cells #[.string ⟨#[]⟩, .int .i64 0, .int .i64 0, .slice none 0 0, .slice none 0 0, .slice none 0 0, .slice none 0 0] 27) := ⟨_, rfl⟩
 have hsz : W2.heap.size = w.heap.size + 2 := by rw [hW2]; simp
 rw [← hW2] at hb2 kT kZ
 have hrw : Hid (∀ W, Below W2.heap.size W2 W → TenR.rd W B ⟨nm, qu, nx, ⟨s1, sn, s3, sl⟩, ⟨g1, gn, g3, gl⟩, ⟨t1, tn, t3, tl⟩, ⟨l1, ln, l3, ll⟩⟩ ∧ w.heap.size + 2 ≤ W.heap.size ∧ HasMax W ∧ Below w.heap.size w W) := by
  show ∀ W, _ → _
  intro W h
  have h1 := hb2.trans (h.mono (by omega))
  exact ⟨TenR.rd.below hr (h1.mono hB), by have := h.size; omega, hmx.below h1, h1⟩
 have hTC : Hid (∀ W, Below W2.heap.size W2 W → Calls Tryz.prog 43 #[.agg #[.string ⟨nm.toArray⟩, .int .i64 qu, .int .i64 nx, .slice s1 sn s3, .slice g1 gn g3, .slice t1 tn t3, .slice l1 ln l3]] W fun e w' => e = .returned (.int .i64 (tenE ⟨nm, qu, nx, ⟨s1, sn, s3, sl⟩, ⟨g1, gn, g3, gl⟩, ⟨t1, tn, t3, tl⟩, ⟨l1, ln, l3, ll⟩⟩)) ∧ Below W.heap.size W w') := fun W hb =>
  tcheck_any ⟨nm, qu, nx, ⟨s1, sn, s3, sl⟩, ⟨g1, gn, g3, gl⟩, ⟨t1, tn, t3, tl⟩, ⟨l1, ln, l3, ll⟩⟩ W B (hrw.out W hb).1 (by have := (hrw.out W hb).2.1; omega) hz (hrw.out W hb).2.2.1
 have hFT : Hid (tenE ⟨nm, qu, nx, ⟨s1, sn, s3, sl⟩, ⟨g1, gn, g3, gl⟩, ⟨t1, tn, t3, tl⟩, ⟨l1, ln, l3, ll⟩⟩ = 0 → ∀ W, Below W2.heap.size W2 W → Calls Tryz.prog 44 #[.agg #[.string ⟨nm.toArray⟩, .int .i64 qu, .int .i64 nx, .slice s1 sn s3, .slice g1 gn g3, .slice t1 tn t3, .slice l1 ln l3]] W fun e w' => e = .returned (.bool (decide (tenSum ⟨nm, qu, nx, ⟨s1, sn, s3, sl⟩, ⟨g1, gn, g3, gl⟩, ⟨t1, tn, t3, tl⟩, ⟨l1, ln, l3, ll⟩⟩ ≤ qu))) ∧ Below W.heap.size W w') := fun h0 W hb =>
  fits_any ⟨nm, qu, nx, ⟨s1, sn, s3, sl⟩, ⟨g1, gn, g3, gl⟩, ⟨t1, tn, t3, tl⟩, ⟨l1, ln, l3, ll⟩⟩ W B (by have := (hrw.out W hb).2.1; omega) (hrw.out W hb).1 hz (hsm h0)
 have hCP : Hid (∀ W, Below W2.heap.size W2 W → Calls Tryz.prog 38 #[.agg #[.string ⟨nm.toArray⟩, .int .i64 qu, .int .i64 nx, .slice s1 sn s3, .slice g1 gn g3, .slice t1 tn t3, .slice l1 ln l3]] W fun e w' => ∃ y : TenR, e = .returned y.val ∧ TenO w' W.heap.size y ∧ TenR.eqv ⟨nm, qu, nx, ⟨s1, sn, s3, sl⟩, ⟨g1, gn, g3, gl⟩, ⟨t1, tn, t3, tl⟩, ⟨l1, ln, l3, ll⟩⟩ y ∧ Below W.heap.size W w') := fun W hb =>
  tcopy_any ⟨nm, qu, nx, ⟨s1, sn, s3, sl⟩, ⟨g1, gn, g3, gl⟩, ⟨t1, tn, t3, tl⟩, ⟨l1, ln, l3, ll⟩⟩ W B (by have := (hrw.out W hb).2.1; omega) (hrw.out W hb).1 hz
 obtain ⟨E, hE⟩ : ∃ E, E = tenE ⟨nm, qu, nx, ⟨s1, sn, s3, sl⟩, ⟨g1, gn, g3, gl⟩, ⟨t1, tn, t3, tl⟩, ⟨l1, ln, l3, ll⟩⟩ := ⟨_, rfl⟩
 obtain ⟨U, hU⟩ : ∃ U, U = tenSum ⟨nm, qu, nx, ⟨s1, sn, s3, sl⟩, ⟨g1, gn, g3, gl⟩, ⟨t1, tn, t3, tl⟩, ⟨l1, ln, l3, ll⟩⟩ := ⟨_, rfl⟩
 rw [← hE] at h2 hTC hFT
 rw [← hU] at hFT
 have HE := Lib.hid hE
 have HU := Lib.hid hU
 have HSZ := Lib.hid hsz
 have KT2 := Lib.hid kT
 have KZ2 := Lib.hid kZ
 have hc := hTC.out W2 (Below.refl _ _)
 obtain ⟨c0, c1, c2, c3, c4, c5, c6⟩ := (⟨kT.cell 0, kT.cell 1, kT.cell 2, kT.cell 3, kT.cell 4, kT.cell 5, kT.cell 6⟩ : _ ∧ _ ∧ _ ∧ _ ∧ _ ∧ _ ∧ _)
 simp only [List.getElem?_toArray, List.getElem?_cons_succ, List.getElem?_cons_zero] at c0 c1 c2 c3 c4 c5 c6
 clear hb2 kT kZ hr hz hsm hE hU hsz hmx hTC
 go_enter Tryz.func11, Tryz.ntmps11
 go_wp2_with fail
 rw [← hW2]
 clear hW2
 refine hc.mono ?_
 clear hc c0 c1 c2 c3 c4 c5 c6
 rintro e w3 ⟨rfl, hb3⟩
 have HW3 := Lib.hid hb3
 have HB3 := Lib.hid (hrw.out w3 hb3).2.2.2
 have KZ := Lib.hid (KZ2.out.below hb3 KZ2.out.lt)
 have KT := Lib.hid (KT2.out.below hb3 KT2.out.lt)
 clear hb3 KZ2 KT2
 rcases h2 with rfl | rfl
 ·have hc := hFT.out rfl w3 HW3.out
  obtain ⟨c0, c1, c2, c3, c4, c5, c6⟩ := (⟨KT.out.cell 0, KT.out.cell 1, KT.out.cell 2, KT.out.cell 3, KT.out.cell 4, KT.out.cell 5, KT.out.cell 6⟩ : _ ∧ _ ∧ _ ∧ _ ∧ _ ∧ _ ∧ _)
  simp only [List.getElem?_toArray, List.getElem?_cons_succ, List.getElem?_cons_zero] at c0 c1 c2 c3 c4 c5 c6
  clear hFT
  go_wp2_with fail
  refine hc.mono ?_
  clear hc c0 c1 c2 c3 c4 c5 c6
  rintro e w4 ⟨rfl, hb4⟩
  have HW4 := Lib.hid (HW3.out.trans (hb4.mono HW3.out.size))
  have HB4 := Lib.hid (HB3.out.trans (hb4.mono HB3.out.size))
  have KZ := Lib.hid (KZ.out.below hb4 KZ.out.lt)
  have KT := Lib.hid (KT.out.below hb4 KT.out.lt)
  clear hb4 HB3 HW3
  by_cases hq : U ≤ qu
  ·rw [decide_eq_true hq]
   have HQ := Lib.hid hq
   have hc := hCP.out w4 HW4.out
   obtain ⟨c0, c1, c2, c3, c4, c5, c6⟩ := (⟨KT.out.cell 0, KT.out.cell 1, KT.out.cell 2, KT.out.cell 3, KT.out.cell 4, KT.out.cell 5, KT.out.cell 6⟩ : _ ∧ _ ∧ _ ∧ _ ∧ _ ∧ _ ∧ _)
   simp only [List.getElem?_toArray, List.getElem?_cons_succ, List.getElem?_cons_zero] at c0 c1 c2 c3 c4 c5 c6
   clear hCP hq
   go_wp2_with fail
   refine hc.mono ?_
   clear hc c0 c1 c2 c3 c4 c5 c6
   rintro e w5 ⟨y, rfl, ho5, he5, hb5⟩
   have HE5 := Lib.hid he5
   have HO5 := Lib.hid (ho5.mono (hrw.out w4 HW4.out).2.1)
   have HB5 := Lib.hid (HB4.out.trans (hb5.mono HB4.out.size))
   have KZ := Lib.hid (KZ.out.below hb5 KZ.out.lt)
   clear he5 ho5 hb5 HB4 KT HW4 hrw
   obtain ⟨mm, mq, mx, ⟨m1, m2, m3, ml⟩, ⟨n1, n2, n3, nl⟩, ⟨p1, p2, p3, pl⟩, ⟨q1, q2, q3, ql⟩⟩ := y
   simp only [TenR.val, TenR.cells, FS.val, strV]
   have hth := Lib.hid (KZ.out.there 7 (by decide))
   have k4 := Blk.setCells (g := (w.heap.size + 1)) [.string ⟨mm.toArray⟩, .int .i64 mq, .int .i64 mx, .slice m1 m2 m3, .slice n1 n2 n3, .slice p1 p2 p3, .slice q1 q2 q3] w5 [] [.string ⟨#[]⟩, .int .i64 0, .int .i64 0, .slice none 0 0, .slice none 0 0, .slice none 0 0, .slice none 0 0] rfl KZ.out
   simp only [List.length_nil, List.nil_append] at k4
   have hbw := below_setCells (g := (w.heap.size + 1)) (by omega) [.string ⟨mm.toArray⟩, .int .i64 mq, .int .i64 mx, .slice m1 m2 m3, .slice n1 n2 n3, .slice p1 p2 p3, .slice q1 q2 q3] w5 0 HB5.out
   have hoo := TenO.kept HO5.out (grown_cellsS (w.heap.size + 1) [.string ⟨mm.toArray⟩, .int .i64 mq, .int .i64 mx, .slice m1 m2 m3, .slice n1 n2 n3, .slice p1 p2 p3, .slice q1 q2 q3] w5 0) (by omega)
   obtain ⟨W4, hW4⟩ : ∃ W, W = w5.setCells (w.heap.size + 1) 0 (#[.string ⟨mm.toArray⟩, .int .i64 mq, .int .i64 mx, .slice m1 m2 m3, .slice n1 n2 n3, .slice p1 p2 p3, .slice q1 q2 q3] : Array Value).toList := ⟨_, rfl⟩
   rw [show ([.string ⟨mm.toArray⟩, .int .i64 mq, .int .i64 mx, .slice m1 m2 m3, .slice n1 n2 n3, .slice p1 p2 p3, .slice q1 q2 q3] : List Value) = (#[.string ⟨mm.toArray⟩, .int .i64 mq, .int .i64 mx, .slice m1 m2 m3, .slice n1 n2 n3, .slice p1 p2 p3, .slice q1 q2 q3] : Array Value).toList from rfl, ← hW4] at k4 hbw hoo
   have HL : Hid ((loadVar 27 ⟨(w.heap.size + 1), 0, none⟩).run Tryz.prog W4 = .ok (.agg #[.string ⟨mm.toArray⟩, .int .i64 mq, .int .i64 mx, .slice m1 m2 m3, .slice n1 n2 n3, .slice p1 p2 p3, .slice q1 q2 q3]) W4) := run_loadVar_at W4 ⟨(w.heap.size + 1), 0, none⟩ 27 [.string ⟨mm.toArray⟩, .int .i64 mq, .int .i64 mx, .slice m1 m2 m3, .slice n1 n2 n3, .slice p1 p2 p3, .slice q1 q2 q3] _ (fun j v hv => by rw [addr_add0, k4.cell j, List.getElem?_toArray]; exact hv) Tryz.underlying27 rfl (by kernel_rfl)
   have HBW := Lib.hid hbw
   have HOO := Lib.hid (hoo.mono (base' := w.heap.size) (by omega))
   clear k4 hbw hoo HO5 HB5 KZ
   go_wp2_with (refine wpList_store_mid rfl 27 (.tmp 2) (.tmp 16) rfl (w.heap.size + 1) 0 #[.string ⟨mm.toArray⟩, .int .i64 mq, .int .i64 mx, .slice m1 m2 m3, .slice n1 n2 n3, .slice p1 p2 p3, .slice q1 q2 q3] rfl rfl hth.out (by kernel_rfl) (by simp [Value.oneCell']) ?_; rw [← hW4]; clear hW4)
   exact bodyPost_ret (v := .tuple #[.agg #[.string ⟨mm.toArray⟩, .int .i64 mq, .int .i64 mx, .slice m1 m2 m3, .slice n1 n2 n3, .slice p1 p2 p3, .slice q1 q2 q3], .int .i64 0]) (results_cell_tmp rfl rfl HL.out) rfl ⟨_, _, rfl, HBW.out, .inr (.inr ⟨HE.out.symm, by rw [← HU.out]; exact HQ.out, rfl, ⟨mm, mq, mx, ⟨m1, m2, m3, ml⟩, ⟨n1, n2, n3, nl⟩, ⟨p1, p2, p3, pl⟩, ⟨q1, q2, q3, ql⟩⟩, rfl, HOO.out, HE5.out⟩)⟩
  ·rw [decide_eq_false hq]
   have HQ := Lib.hid (show qu < U by omega)
   clear hCP hq
   have hth := Lib.hid (KZ.out.there 7 (by decide))
   have k4 := Blk.setCells (g := (w.heap.size + 1)) [.string ⟨#[]⟩, .int .i64 0, .int .i64 0, .slice none 0 0, .slice none 0 0, .slice none 0 0, .slice none 0 0] w4 [] [.string ⟨#[]⟩, .int .i64 0, .int .i64 0, .slice none 0 0, .slice none 0 0, .slice none 0 0, .slice none 0 0] rfl KZ.out
   simp only [List.length_nil, List.nil_append] at k4
   have hbw := below_setCells (g := (w.heap.size + 1)) (by omega) [.string ⟨#[]⟩, .int .i64 0, .int .i64 0, .slice none 0 0, .slice none 0 0, .slice none 0 0, .slice none 0 0] w4 0 HB4.out
   obtain ⟨W4, hW4⟩ : ∃ W, W = w4.setCells (w.heap.size + 1) 0 (#[.string ⟨#[]⟩, .int .i64 0, .int .i64 0, .slice none 0 0, .slice none 0 0, .slice none 0 0, .slice none 0 0] : Array Value).toList := ⟨_, rfl⟩
   rw [show ([.string ⟨#[]⟩, .int .i64 0, .int .i64 0, .slice none 0 0, .slice none 0 0, .slice none 0 0, .slice none 0 0] : List Value) = (#[.string ⟨#[]⟩, .int .i64 0, .int .i64 0, .slice none 0 0, .slice none 0 0, .slice none 0 0, .slice none 0 0] : Array Value).toList from rfl, ← hW4] at k4 hbw
   have HL : Hid ((loadVar 27 ⟨(w.heap.size + 1), 0, none⟩).run Tryz.prog W4 = .ok (.agg #[.string ⟨#[]⟩, .int .i64 0, .int .i64 0, .slice none 0 0, .slice none 0 0, .slice none 0 0, .slice none 0 0]) W4) := run_loadVar_at W4 ⟨(w.heap.size + 1), 0, none⟩ 27 [.string ⟨#[]⟩, .int .i64 0, .int .i64 0, .slice none 0 0, .slice none 0 0, .slice none 0 0, .slice none 0 0] _ (fun j v hv => by rw [addr_add0, k4.cell j, List.getElem?_toArray]; exact hv) Tryz.underlying27 rfl (by kernel_rfl)
   have HBW := Lib.hid hbw
   clear k4 hbw HW4 KT
   go_wp2_with (refine wpList_store_mid rfl 27 (.tmp 2) (.tmp 14) rfl (w.heap.size + 1) 0 #[.string ⟨#[]⟩, .int .i64 0, .int .i64 0, .slice none 0 0, .slice none 0 0, .slice none 0 0, .slice none 0 0] rfl rfl hth.out (by kernel_rfl) (by simp [Value.oneCell']) ?_; rw [← hW4]; clear hW4)
   exact bodyPost_ret (v := .tuple #[.agg #[.string ⟨#[]⟩, .int .i64 0, .int .i64 0, .slice none 0 0, .slice none 0 0, .slice none 0 0, .slice none 0 0], .int .i64 42]) (results_cell_tmp rfl rfl HL.out) rfl ⟨_, _, rfl, HBW.out, .inr (.inl ⟨HE.out.symm, by rw [← HU.out]; exact HQ.out, rfl, rfl⟩)⟩
 ·clear hFT hCP
  have hth := Lib.hid (KZ.out.there 7 (by decide))
  have k4 := Blk.setCells (g := (w.heap.size + 1)) [.string ⟨#[]⟩, .int .i64 0, .int .i64 0, .slice none 0 0, .slice none 0 0, .slice none 0 0, .slice none 0 0] w3 [] [.string ⟨#[]⟩, .int .i64 0, .int .i64 0, .slice none 0 0, .slice none 0 0, .slice none 0 0, .slice none 0 0] rfl KZ.out
  simp only [List.length_nil, List.nil_append] at k4
  have hbw := below_setCells (g := (w.heap.size + 1)) (by omega) [.string ⟨#[]⟩, .int .i64 0, .int .i64 0, .slice none 0 0, .slice none 0 0, .slice none 0 0, .slice none 0 0] w3 0 HB3.out
  obtain ⟨W4, hW4⟩ : ∃ W, W = w3.setCells (w.heap.size + 1) 0 (#[.string ⟨#[]⟩, .int .i64 0, .int .i64 0, .slice none 0 0, .slice none 0 0, .slice none 0 0, .slice none 0 0] : Array Value).toList := ⟨_, rfl⟩
  rw [show ([.string ⟨#[]⟩, .int .i64 0, .int .i64 0, .slice none 0 0, .slice none 0 0, .slice none 0 0, .slice none 0 0] : List Value) = (#[.string ⟨#[]⟩, .int .i64 0, .int .i64 0, .slice none 0 0, .slice none 0 0, .slice none 0 0, .slice none 0 0] : Array Value).toList from rfl, ← hW4] at k4 hbw
  have HL : Hid ((loadVar 27 ⟨(w.heap.size + 1), 0, none⟩).run Tryz.prog W4 = .ok (.agg #[.string ⟨#[]⟩, .int .i64 0, .int .i64 0, .slice none 0 0, .slice none 0 0, .slice none 0 0, .slice none 0 0]) W4) := run_loadVar_at W4 ⟨(w.heap.size + 1), 0, none⟩ 27 [.string ⟨#[]⟩, .int .i64 0, .int .i64 0, .slice none 0 0, .slice none 0 0, .slice none 0 0, .slice none 0 0] _ (fun j v hv => by rw [addr_add0, k4.cell j, List.getElem?_toArray]; exact hv) Tryz.underlying27 rfl (by kernel_rfl)
  have HBW := Lib.hid hbw
  clear k4 hbw HW3 KT
  go_wp2_with (refine wpList_store_mid rfl 27 (.tmp 2) (.tmp 9) rfl (w.heap.size + 1) 0 #[.string ⟨#[]⟩, .int .i64 0, .int .i64 0, .slice none 0 0, .slice none 0 0, .slice none 0 0, .slice none 0 0] rfl rfl hth.out (by kernel_rfl) (by simp [Value.oneCell']) ?_; rw [← hW4]; clear hW4)
  exact bodyPost_ret (v := .tuple #[.agg #[.string ⟨#[]⟩, .int .i64 0, .int .i64 0, .slice none 0 0, .slice none 0 0, .slice none 0 0, .slice none 0 0], .int .i64 9]) (results_cell_tmp rfl rfl HL.out) rfl ⟨_, _, rfl, HBW.out, .inl ⟨HE.out.symm, rfl, rfl⟩⟩
end Go.Proofs.YteafdncnnamakaaGreatDoor

/-
 What a tenant's content tells: whether it may be, and what it is charged for.
-/
namespace Go.Proofs.YteafdncnnamakaaGreatDoor
open Go.RowKit

/-! ### a content as a tenant of its own -/
def mkF {α : Type} (l : List α) : FS α := ⟨none, l.length, l.length, l⟩
def SnapC.r (x : SnapC) : SnapR := ⟨x.nm, x.gd, mkF x.body, mkF x.tags, mkF x.own⟩
def SetC.r (x : SetC) : SetR := ⟨x.path, x.org, mkF x.body, mkF (x.snaps.map SnapC.r), mkF x.own⟩
def StageC.r (x : StageC) : StageR := ⟨x.into, x.kind, x.nm, x.frm, x.gd, mkF x.own, x.ix, x.ct, x.dt, x.sm, mkF x.body, x.at_, x.nx, x.sum, x.done⟩
def TenC.r (x : TenC) : TenR := ⟨x.nm, x.quota, x.next, mkF (x.sets.map SetC.r), mkF x.grants, mkF (x.stages.map StageC.r), mkF x.log⟩
theorem firstI_map {α β : Type} (f : α → β) (p : β → Bool) (l : List α) : firstI p (l.map f) = firstI (fun x => p (f x)) l := by
 have h : firstP p (l.map f) = firstP (fun x => p (f x)) l := by
  unfold firstP
  induction l with
  | nil => rfl
  | cons x r ih =>
   rw [List.map_cons]
   cases hp : p (f x) with
   | true => rw [List.takeWhile_cons_of_neg (by simp [hp]), List.takeWhile_cons_of_neg (by simp [hp])]; rfl
   | false => rw [List.takeWhile_cons_of_pos (by simp [hp]), List.takeWhile_cons_of_pos (by simp [hp]), List.length_cons, List.length_cons, ih]
 unfold firstI
 rw [h, List.length_map]
theorem snapsFrom_n (p : Option Int) (l : List SnapR) : snapsFrom p (l.map fun x => x.con.r) = snapsFrom p l := by
 induction l generalizing p with
 | nil => cases p <;> rfl
 | cons x l ih =>
  rw [List.map_cons, snapsFrom_cons, snapsFrom_cons, ih]
  rfl
theorem snapsB_n (l : List SnapR) : snapsB (l.map fun x => x.con.r) = snapsB l := by
 unfold snapsB
 rw [snapsFrom_n, List.length_map, List.map_map]
 rfl
theorem setC_r (x : SetR) : x.con.r = ⟨x.path, x.org, mkF x.body.l, mkF (x.snaps.l.map fun y => y.con.r), mkF x.own.l⟩ := by
 show SetR.mk _ _ _ _ _ = _
 rw [show (x.con.snaps.map SnapC.r) = (x.snaps.l.map fun y => y.con.r) from List.map_map]
 rfl
theorem find_map {α β : Type} (f : α → β) (p : β → Bool) (l : List α) : (l.map f).find? p = (l.find? fun x => p (f x)).map f := by
 induction l with
 | nil => rfl
 | cons x r ih =>
  rw [List.map_cons, List.find?_cons, List.find?_cons]
  cases p (f x) with
  | true => rfl
  | false => exact ih
theorem originB_n (all : List SetR) (s : SetR) : originB (all.map fun x => x.con.r) s.con.r = originB all s := by
 unfold originB
 show (s.org == [] || match splitL s.org with
  | none => false
  | some (p, n) => !(p == s.path) && match (all.map fun x => x.con.r).find? (fun x => x.path == p) with
   | none => false
   | some x => x.snaps.l.any fun y => y.nm == n) = _
 cases splitL s.org with
 | none => rfl
 | some v =>
  obtain ⟨p, n⟩ := v
  simp only []
  rw [find_map]
  have e : (all.find? fun x : SetR => x.con.r.path == p) = all.find? fun x => x.path == p := rfl
  rw [e]
  cases all.find? (fun x => x.path == p) with
  | none => rfl
  | some x =>
   simp only [Option.map_some]
   rw [setC_r x]
   show (s.org == [] || !(p == s.path) && (x.snaps.l.map fun y => y.con.r).any fun y => y.nm == n) = _
   rw [List.any_map]
   rfl
theorem setB_n (all : List SetR) (s : SetR) : setB (all.map fun x => x.con.r) s.con.r = setB all s := by
 unfold setB
 rw [originB_n, setC_r s]
 show ((pathB s.path && match parB s.path with
  | none => true
  | some u => (all.map fun x => x.con.r).any fun x => x.path == u) && propsB s.own.l && okL s.body.l && snapsB (s.snaps.l.map fun y => y.con.r) && originB all s) = _
 rw [snapsB_n]
 cases parB s.path with
 | none => rfl
 | some u =>
  simp only []
  rw [List.any_map]
  rfl
theorem setsFrom_n (all : List SetR) (p : Option BS) (l : List SetR) : setsFrom (all.map fun x => x.con.r) p (l.map fun x => x.con.r) = setsFrom all p l := by
 induction l generalizing p with
 | nil => cases p <;> rfl
 | cons x l ih =>
  have e : ∀ (a : List SetR) (y : SetR) (r : List SetR), setsFrom a p (y :: r) = (setB a y && (match p with | none => true | some q => Op.bytesLess q y.path) && setsFrom a (some y.path) r) := by
   intro a y r
   cases p <;> rfl
  rw [List.map_cons, e, e, setB_n, show x.con.r.path = x.path from rfl, ih]
theorem setsB_n (l : List SetR) : setsB (l.map fun x => x.con.r) = setsB l := by
 unfold setsB
 rw [setsFrom_n, List.length_map, List.any_map]
 rfl
theorem stagesFrom_n (p : Option BS) (l : List StageR) : stagesFrom p (l.map fun x => x.con.r) = stagesFrom p l := by
 induction l generalizing p with
 | nil => cases p <;> rfl
 | cons x l ih =>
  have e : ∀ (y : StageR) (r : List StageR), stagesFrom p (y :: r) = (stageB y && (match p with | none => true | some q => Op.bytesLess q y.into) && stagesFrom (some y.into) r) := by
   intro y r
   cases p <;> rfl
  rw [List.map_cons, e, e, show x.con.r.into = x.into from rfl, ih]
  rfl
theorem stagesB_n (l : List StageR) : stagesB (l.map fun x => x.con.r) = stagesB l := by
 unfold stagesB
 rw [stagesFrom_n, List.length_map]
theorem tenC_r (t : TenR) : t.con.r = ⟨t.nm, t.quota, t.next, mkF (t.sets.l.map fun x => x.con.r), mkF t.grants.l, mkF (t.stages.l.map fun x => x.con.r), mkF t.log.l⟩ := by
 show TenR.mk _ _ _ _ _ _ _ = _
 rw [show (t.con.sets.map SetC.r) = (t.sets.l.map fun y => y.con.r) from List.map_map, show (t.con.stages.map StageC.r) = (t.stages.l.map fun y => y.con.r) from List.map_map]
 rfl
/-- whether a tenant may be hangs on its content alone -/
def TenC.E (c : TenC) : Int := tenE c.r
theorem tenE_con (t : TenR) : tenE t = t.con.E := by
 unfold TenC.E tenE
 have : tenB t.con.r = tenB t := by
  rw [tenC_r]
  show (nameB t.nm && amt t.quota 0 && amt t.next 1 && setsB (t.sets.l.map fun x => x.con.r) && grantsB t.grants.l && stagesB (t.stages.l.map fun x => x.con.r) && logB t.log.l) = _
  rw [setsB_n, stagesB_n]
  rfl
 rw [this]
theorem TenC.E_two (c : TenC) : c.E = 0 ∨ c.E = 9 := by unfold TenC.E tenE; split <;> simp
/-! ### what it is charged for -/
theorem cast_sum {α : Type} (f : α → Nat) (g : α → Int) (l : List α) (h : ∀ x ∈ l, g x = (f x : Int)) : (l.map g).sum = ((l.map f).sum : Nat) := by
 induction l with
 | nil => rfl
 | cons x r ih =>
  rw [List.map_cons, List.map_cons, List.sum_cons, List.sum_cons, Int.natCast_add, h x List.mem_cons_self, ih fun y hy => h y (List.mem_cons_of_mem _ hy)]
theorem setSum_con (x : SetR) (w : World) (B : Nat) (h : x.rd w B) : setSum x = (x.con.charge : Nat) := by
 unfold setSum sumB SetC.charge
 rw [List.take_length, cast_sum (fun y : SnapR => 1 + y.body.l.length) _ _ (fun y hy => by rw [(h.each y hy).body.1]; omega)]
 rw [h.body.1]
 show _ = ((1 + x.body.l.length + ((x.snaps.l.map SnapR.con).map fun y => 1 + y.body.length).sum : Nat) : Int)
 rw [List.map_map]
 show _ = ((1 + x.body.l.length + (x.snaps.l.map fun y => 1 + y.body.l.length).sum : Nat) : Int)
 omega
theorem tenSum_con (t : TenR) (w : World) (B : Nat) (h : t.rd w B) : tenSum t = (t.con.charge : Nat) := by
 unfold tenSum sumS sumG TenC.charge
 rw [List.take_length, List.take_length, cast_sum (fun y : SetR => y.con.charge) _ _ (fun y hy => setSum_con y w B (h.eachS y hy)), cast_sum (fun y : StageR => 1 + y.body.l.length) _ _ (fun y hy => by rw [(h.eachG y hy).body.1]; omega)]
 show _ = ((((t.sets.l.map SetR.con).map SetC.charge).sum + ((t.stages.l.map StageR.con).map fun s => 1 + s.body.length).sum : Nat) : Int)
 rw [List.map_map, List.map_map]
 rfl
end Go.Proofs.YteafdncnnamakaaGreatDoor

/-
 What is done to a block of another element type keeps a tenant of one's own.
-/
namespace Go.Proofs.YteafdncnnamakaaGreatDoor
open Go.RowKit

/-- none of a tenant's rows is of this type -/
def offT (T : TypeId) : Prop := 141 ≠ T ∧ 9 ≠ T ∧ 152 ≠ T ∧ 75 ≠ T ∧ 63 ≠ T ∧ 122 ≠ T ∧ 47 ≠ T ∧ 94 ≠ T
theorem offT_ten : offT 27 := by unfold offT; decide
section
variable {w w' : World} {base g : Nat} {cs : Array Value} {T : TypeId}
theorem SnapO.keptT {x : SnapR} (h : SnapO w base x) (hg : w.grownBy w' (some g)) (hb : Blk w g T cs) (hT : offT T) : SnapO w' base x :=
 ⟨h.body.keptT hg hb hT.1, h.tags.keptT hg hb hT.2.1, h.own.keptT hg hb hT.2.2.1⟩
theorem SetO.keptT {x : SetR} (h : SetO w base x) (hg : w.grownBy w' (some g)) (hb : Blk w g T cs) (hT : offT T) : SetO w' base x :=
 ⟨h.body.keptT hg hb hT.1, h.snaps.keptT hg hb hT.2.2.2.1, fun y hy => (h.each y hy).keptT hg hb hT, h.own.keptT hg hb hT.2.2.1⟩
theorem StageO.keptT {x : StageR} (h : StageO w base x) (hg : w.grownBy w' (some g)) (hb : Blk w g T cs) (hT : offT T) : StageO w' base x :=
 ⟨h.own.keptT hg hb hT.2.2.1, h.body.keptT hg hb hT.1⟩
theorem TenO.keptT {t : TenR} (h : TenO w base t) (hg : w.grownBy w' (some g)) (hb : Blk w g T cs) (hT : offT T) : TenO w' base t :=
 ⟨h.sets.keptT hg hb hT.2.2.2.2.1, fun y hy => (h.eachS y hy).keptT hg hb hT, h.grants.keptT hg hb hT.2.2.2.2.2.1, h.stages.keptT hg hb hT.2.2.2.2.2.2.1, fun y hy => (h.eachG y hy).keptT hg hb hT, h.log.keptT hg hb hT.2.2.2.2.2.2.2⟩
end
end Go.Proofs.YteafdncnnamakaaGreatDoor

/-
 Contents with a set more, with another set at a place, with a set less.
-/
namespace Go.Proofs.YteafdncnnamakaaGreatDoor
open Go.RowKit

theorem posF_map {α β : Type} (f : α → β) (cf : β → Int) (l : List α) : posF cf (l.map f) = posF (fun x => cf (f x)) l := by
 unfold posF
 rw [List.takeWhile_map, List.length_map]
 rfl
/-- the content with a set more, in its place -/
def TenC.withS (c : TenC) (s : SetC) : TenC := ⟨c.nm, c.quota, c.next, c.sets.take (posF (fun x : SetC => cmpS x.path s.path) c.sets) ++ [s] ++ c.sets.drop (posF (fun x : SetC => cmpS x.path s.path) c.sets), c.grants, c.stages, c.log⟩
/-- the content without the set at a place -/
def TenC.dropS (c : TenC) (i : Nat) : TenC := ⟨c.nm, c.quota, c.next, c.sets.take i ++ c.sets.drop (i + 1), c.grants, c.stages, c.log⟩
theorem asc_eqv (l l' : List SetR) (p : BS) (h : l.map (·.path) = l'.map (·.path)) (ha : SignAsc (fun x : SetR => cmpS x.path p) l) : SignAsc (fun x : SetR => cmpS x.path p) l' := by
 have hp : ∀ (i : Nat) (x : SetR), l'[i]? = some x → ∃ y, l[i]? = some y ∧ y.path = x.path := by
  intro i x hx
  have h1 := congrArg (fun m : List BS => m[i]?) h
  simp only [List.getElem?_map, hx, Option.map_some] at h1
  cases hl : l[i]? with
  | none => rw [hl] at h1; cases h1
  | some y => rw [hl] at h1; exact ⟨y, rfl, by simpa using h1⟩
 intro i j a b hij hai hbj hlt
 obtain ⟨a', ha', e1⟩ := hp i a hai
 obtain ⟨b', hb', e2⟩ := hp j b hbj
 have := ha i j a' b' hij ha' hb' (by simp only [e2]; exact hlt)
 simp only [e1] at this
 exact this
theorem con_withS (y : TenR) (s : SetR) (A : Option Addr) (n c : Nat) : TenR.con ⟨y.nm, y.quota, y.next, ⟨A, n, c, y.sets.l.take (posF (fun x : SetR => cmpS x.path s.path) y.sets.l) ++ [s] ++ y.sets.l.drop (posF (fun x : SetR => cmpS x.path s.path) y.sets.l)⟩, y.grants, y.stages, y.log⟩ = y.con.withS s.con := by
 show TenC.mk _ _ _ _ _ _ _ = TenC.mk _ _ _ _ _ _ _
 have e : posF (fun x : SetC => cmpS x.path s.con.path) y.con.sets = posF (fun x : SetR => cmpS x.path s.path) y.sets.l := posF_map SetR.con (fun x : SetC => cmpS x.path s.path) y.sets.l
 rw [e]
 simp only [List.map_append, List.map_take, List.map_drop, List.map_cons, List.map_nil]
 rfl
theorem con_dropS (y : TenR) (i : Nat) (A : Option Addr) (n c : Nat) : TenR.con ⟨y.nm, y.quota, y.next, ⟨A, n, c, y.sets.l.take i ++ y.sets.l.drop (i + 1)⟩, y.grants, y.stages, y.log⟩ = y.con.dropS i := by
 show TenC.mk _ _ _ _ _ _ _ = TenC.mk _ _ _ _ _ _ _
 simp only [List.map_append, List.map_take, List.map_drop]
 rfl
end Go.Proofs.YteafdncnnamakaaGreatDoor

/-
 shape.With: a tenant with a set more.
-/
namespace Go.Proofs.YteafdncnnamakaaGreatDoor
open Go.RowKit

theorem encSet_one (x : SetR) : ∀ u ∈ encSet x, u.oneCell' = true := by intro u hu; simp [encSet, strV, FS.val] at hu; rcases hu with rfl | rfl | rfl | rfl | rfl <;> rfl
set_option maxRecDepth 100000 in
set_option maxHeartbeats 4000000 in
theorem with_any (t : TenR) (s : SetR) (w : World) (B base : Nat) (hB : B ≤ w.heap.size) (hr : t.rd w B) (hz : t.sz) (hs : SetO w base s) (hbs : base ≤ w.heap.size) (hlt : t.sets.n ≤ 1000000000) (hasc : SignAsc (fun x : SetR => cmpS x.path s.path) t.sets.l) :
  Calls Tryz.prog 27 #[t.val, .agg (encSet s).toArray] w fun e w' => ∃ y : TenR, e = .returned y.val ∧ TenO w' base y ∧ y.con = t.con.withS s.con ∧ Below w.heap.size w w' := by
 obtain ⟨nm, qu, nx, ⟨s1, sn, s3, sl⟩, ⟨g1, gn, g3, gl⟩, ⟨t1, tn, t3, tl⟩, ⟨l1, ln, l3, ll⟩⟩ := t
 obtain ⟨pa, og, ⟨bA, bn, bc, bl⟩, ⟨zA, zn, zc, zl⟩, ⟨oA, on, oc, ol⟩⟩ := s
 show Calls Tryz.prog 27 #[.agg #[.string ⟨nm.toArray⟩, .int .i64 qu, .int .i64 nx, .slice s1 sn s3, .slice g1 gn g3, .slice t1 tn t3, .slice l1 ln l3], .agg #[.string ⟨pa.toArray⟩, .string ⟨og.toArray⟩, .slice bA bn bc, .slice zA zn zc, .slice oA on oc]] w _
 have hb3 := ((((Below.refl w.heap.size w).alloc (Nat.le_refl _) (.cells #[.string ⟨nm.toArray⟩, .int .i64 qu, .int .i64 nx, .slice s1 sn s3, .slice g1 gn g3, .slice t1 tn t3, .slice l1 ln l3] 27)).alloc (by simp) (.cells #[.string ⟨pa.toArray⟩, .string ⟨og.toArray⟩, .slice bA bn bc, .slice zA zn zc, .slice oA on oc] 63)).alloc (by simp; omega) (.cells #[.string ⟨#[]⟩, .int .i64 0, .int .i64 0, .slice none 0 0, .slice none 0 0, .slice none 0 0, .slice none 0 0] 27))
 have kT := ((Blk.new w 27 #[.string ⟨nm.toArray⟩, .int .i64 qu, .int .i64 nx, .slice s1 sn s3, .slice g1 gn g3, .slice t1 tn t3, .slice l1 ln l3]).alloc (.cells #[.string ⟨pa.toArray⟩, .string ⟨og.toArray⟩, .slice bA bn bc, .slice zA zn zc, .slice oA on oc] 63)).alloc (.cells #[.string ⟨#[]⟩, .int .i64 0, .int .i64 0, .slice none 0 0, .slice none 0 0, .slice none 0 0, .slice none 0 0] 27)
 have kS := (Blk.new (w.alloc (.cells #[.string ⟨nm.toArray⟩, .int .i64 qu, .int .i64 nx, .slice s1 sn s3, .slice g1 gn g3, .slice t1 tn t3, .slice l1 ln l3] 27)) 63 #[.string ⟨pa.toArray⟩, .string ⟨og.toArray⟩, .slice bA bn bc, .slice zA zn zc, .slice oA on oc]).alloc (.cells #[.string ⟨#[]⟩, .int .i64 0, .int .i64 0, .slice none 0 0, .slice none 0 0, .slice none 0 0, .slice none 0 0] 27)
 have kZ := Blk.new ((w.alloc (.cells #[.string ⟨nm.toArray⟩, .int .i64 qu, .int .i64 nx, .slice s1 sn s3, .slice g1 gn g3, .slice t1 tn t3, .slice l1 ln l3] 27)).alloc (.cells #[.string ⟨pa.toArray⟩, .string ⟨og.toArray⟩, .slice bA bn bc, .slice zA zn zc, .slice oA on oc] 63)) 27 #[.string ⟨#[]⟩, .int .i64 0, .int .i64 0, .slice none 0 0, .slice none 0 0, .slice none 0 0, .slice none 0 0]
 rw [show (w.alloc (.cells #[.string ⟨nm.toArray⟩, .int .i64 qu, .int .i64 nx, .slice s1 sn s3, .slice g1 gn g3, .slice t1 tn t3, .slice l1 ln l3] 27)).heap.size = w.heap.size + 1 by simp] at kS
 rw [show ((w.alloc (.cells #[.string ⟨nm.toArray⟩, .int .i64 qu, .int .i64 nx, .slice s1 sn s3, .slice g1 gn g3, .slice t1 tn t3, .slice l1 ln l3] 27)).alloc (.cells #[.string ⟨pa.toArray⟩, .string ⟨og.toArray⟩, .slice bA bn bc, .slice zA zn zc, .slice oA on oc] 63)).heap.size = w.heap.size + 2 by simp] at kZ
 have hsz3 : (((w.alloc (.cells #[.string ⟨nm.toArray⟩, .int .i64 qu, .int .i64 nx, .slice s1 sn s3, .slice g1 gn g3, .slice t1 tn t3, .slice l1 ln l3] 27)).alloc (.cells #[.string ⟨pa.toArray⟩, .string ⟨og.toArray⟩, .slice bA bn bc, .slice zA zn zc, .slice oA on oc] 63)).alloc (.cells #[.string ⟨#[]⟩, .int .i64 0, .int .i64 0, .slice none 0 0, .slice none 0 0, .slice none 0 0, .slice none 0 0] 27)).heap.size = w.heap.size + 3 := by simp
 obtain ⟨W3, hW3⟩ : ∃ W, W = (((w.alloc (.cells #[.string ⟨nm.toArray⟩, .int .i64 qu, .int .i64 nx, .slice s1 sn s3, .slice g1 gn g3, .slice t1 tn t3, .slice l1 ln l3] 27)).alloc (.cells #[.string ⟨pa.toArray⟩, .string ⟨og.toArray⟩, .slice bA bn bc, .slice zA zn zc, .slice oA on oc] 63)).alloc (.cells #[.string ⟨#[]⟩, .int .i64 0, .int .i64 0, .slice none 0 0, .slice none 0 0, .slice none 0 0, .slice none 0 0] 27)) := ⟨_, rfl⟩
 rw [← hW3] at hb3 kT kS kZ hsz3
 have hCP : Hid (Calls Tryz.prog 38 #[.agg #[.string ⟨nm.toArray⟩, .int .i64 qu, .int .i64 nx, .slice s1 sn s3, .slice g1 gn g3, .slice t1 tn t3, .slice l1 ln l3]] W3 fun e w' => ∃ y : TenR, e = .returned y.val ∧ TenO w' W3.heap.size y ∧ TenR.eqv ⟨nm, qu, nx, ⟨s1, sn, s3, sl⟩, ⟨g1, gn, g3, gl⟩, ⟨t1, tn, t3, tl⟩, ⟨l1, ln, l3, ll⟩⟩ y ∧ Below W3.heap.size W3 w') :=
  tcopy_any ⟨nm, qu, nx, ⟨s1, sn, s3, sl⟩, ⟨g1, gn, g3, gl⟩, ⟨t1, tn, t3, tl⟩, ⟨l1, ln, l3, ll⟩⟩ W3 B (by omega) (TenR.rd.below hr (hb3.mono hB)) hz
 have HSN := Lib.hid (show sl.length ≤ 1000000000 by have h := hr.sets.1; simp only at h hlt; omega)
 have HASC := Lib.hid hasc
 have HSO3 := Lib.hid (hs.below (hb3.mono (Nat.le_refl _)))
 have HB3 := Lib.hid hb3
 have KS3 := Lib.hid kS
 have KZ3 := Lib.hid kZ
 have HSZ3 := Lib.hid hsz3
 have HBS := Lib.hid hbs
 obtain ⟨c0, c1, c2, c3, c4, c5, c6⟩ := (⟨kT.cell 0, kT.cell 1, kT.cell 2, kT.cell 3, kT.cell 4, kT.cell 5, kT.cell 6⟩ : _ ∧ _ ∧ _ ∧ _ ∧ _ ∧ _ ∧ _)
 simp only [List.getElem?_toArray, List.getElem?_cons_succ, List.getElem?_cons_zero] at c0 c1 c2 c3 c4 c5 c6
 clear hb3 kS kZ hr hz hs hlt hasc hsz3 kT hbs
 go_enter Tryz.func27, Tryz.ntmps27
 go_wp2_with fail
 rw [← hW3]
 clear hW3
 refine hCP.out.mono ?_
 clear hCP c0 c1 c2 c3 c4 c5 c6
 rintro e w4 ⟨y, rfl, ho4, he4, hb4⟩
 have HCON := Lib.hid ((TenR.eqv_iff _ _).1 he4)
 have HE4 := Lib.hid he4
 have hY2 : y.sets.n ≤ 1000000000 := by
  have h1 := he4.lenS
  have h2 := ho4.sets.1
  simp only at h1
  have := HSN.out
  omega
 have hYA : SignAsc (fun x : SetR => cmpS x.path pa) y.sets.l := by
  refine asc_eqv _ _ pa ?_ HASC.out
  have h := congrArg (fun c : TenC => c.sets.map SetC.path) HCON.out
  simpa [TenR.con, List.map_map, SetR.con, Function.comp_def] using h
 have HYA := Lib.hid hYA
 obtain ⟨mm, mq, mx, ⟨m1, m2, m3, ml⟩, ⟨n1, n2, n3, nl⟩, ⟨p1, p2, p3, pl⟩, ⟨q1, q2, q3, ql⟩⟩ := y
 simp only [TenR.val, TenR.cells, FS.val, strV]
 have hszb := HSZ3.out
 have hsz4 := hb4.size
 have kz4 := KZ3.out.below hb4 KZ3.out.lt
 have ks4 := KS3.out.below hb4 KS3.out.lt
 have hbw4 := HB3.out.trans (hb4.mono (by omega))
 have hso4 := HSO3.out.below hb4
 have ho5 := ho4.below ((Below.refl w4.heap.size w4).alloc (Nat.le_refl _) (.cells #[.string ⟨mm.toArray⟩, .int .i64 mq, .int .i64 mx, .slice m1 m2 m3, .slice n1 n2 n3, .slice p1 p2 p3, .slice q1 q2 q3] 27))
 have k5 := Blk.new w4 27 #[.string ⟨mm.toArray⟩, .int .i64 mq, .int .i64 mx, .slice m1 m2 m3, .slice n1 n2 n3, .slice p1 p2 p3, .slice q1 q2 q3]
 have kz5 := kz4.alloc (.cells #[.string ⟨mm.toArray⟩, .int .i64 mq, .int .i64 mx, .slice m1 m2 m3, .slice n1 n2 n3, .slice p1 p2 p3, .slice q1 q2 q3] 27)
 have ks5 := ks4.alloc (.cells #[.string ⟨mm.toArray⟩, .int .i64 mq, .int .i64 mx, .slice m1 m2 m3, .slice n1 n2 n3, .slice p1 p2 p3, .slice q1 q2 q3] 27)
 have hbw5 := hbw4.alloc (by omega) (.cells #[.string ⟨mm.toArray⟩, .int .i64 mq, .int .i64 mx, .slice m1 m2 m3, .slice n1 n2 n3, .slice p1 p2 p3, .slice q1 q2 q3] 27)
 have hso5 := hso4.below ((Below.refl w4.heap.size w4).alloc (Nat.le_refl _) (.cells #[.string ⟨mm.toArray⟩, .int .i64 mq, .int .i64 mx, .slice m1 m2 m3, .slice n1 n2 n3, .slice p1 p2 p3, .slice q1 q2 q3] 27))
 have hsz5 : (w4.alloc (.cells #[.string ⟨mm.toArray⟩, .int .i64 mq, .int .i64 mx, .slice m1 m2 m3, .slice n1 n2 n3, .slice p1 p2 p3, .slice q1 q2 q3] 27)).heap.size = w4.heap.size + 1 := by simp
 have hset : ∀ g, (FS.val (⟨m1, m2, m3, ml⟩ : FS SetR)).ownBlock = some g → w.heap.size + 3 ≤ g ∧ g < w4.heap.size := fun g e => by
  have := ho4.sets.2.lt _ e
  omega
 have HSET := Lib.hid hset
 have HSZ4 := Lib.hid (show w.heap.size + 3 ≤ w4.heap.size by omega)
 obtain ⟨g5, hg5⟩ : ∃ g, g = w4.heap.size := ⟨_, rfl⟩
 go_wp2_with (refine wpList_store_new w4 rfl 27 (.tmp 5) (.tmp 9) rfl 27 [.string ⟨#[]⟩, .int .i64 0, .int .i64 0, .slice none 0 0, .slice none 0 0, .slice none 0 0, .slice none 0 0] [.string ⟨mm.toArray⟩, .int .i64 mq, .int .i64 mx, .slice m1 m2 m3, .slice n1 n2 n3, .slice p1 p2 p3, .slice q1 q2 q3] rfl rfl rfl (by kernel_rfl) (by simp [Value.oneCell']) ?_; obtain ⟨W5, hW5⟩ : ∃ W, W = w4.alloc (.cells #[.string ⟨mm.toArray⟩, .int .i64 mq, .int .i64 mx, .slice m1 m2 m3, .slice n1 n2 n3, .slice p1 p2 p3, .slice q1 q2 q3] 27) := ⟨_, rfl⟩; rw [show ([.string ⟨mm.toArray⟩, .int .i64 mq, .int .i64 mx, .slice m1 m2 m3, .slice n1 n2 n3, .slice p1 p2 p3, .slice q1 q2 q3] : List Value).toArray = #[.string ⟨mm.toArray⟩, .int .i64 mq, .int .i64 mx, .slice m1 m2 m3, .slice n1 n2 n3, .slice p1 p2 p3, .slice q1 q2 q3] from rfl, ← hW5]; rw [← hW5] at ho5 k5 kz5 ks5 hbw5 hso5 hsz5; have HO5 := Lib.hid ho5; have K5 := Lib.hid k5; have KZ5 := Lib.hid kz5; have KS5 := Lib.hid ks5; have HB5 := Lib.hid hbw5; have HSO5 := Lib.hid hso5; have HSZ5 := Lib.hid hsz5; have HG5 := Lib.hid hg5; have d3 := k5.cell 3; have e0 := ks5.cell 0; simp only [List.getElem?_toArray, List.getElem?_cons_succ, List.getElem?_cons_zero] at d3 e0; rw [← hg5] at d3 ⊢; have hcS := Lib.hid (searchSets_any ml pa HYA.out m2 ho5.sets.1 m1 m3 W5 W5.heap.size ho5.rd.sets.2.2 (Nat.le_refl _) (by have h := hY2; simp only at h; omega)); clear hW5 hb4 ho4 ho5 k5 kz5 ks5 hbw5 hso5 hsz5 kz4 ks4 hbw4 hso4 hset HSO3 KZ3 KS3 HB3 hg5)
 refine hcS.out.mono ?_
 clear hcS
 rintro e w6 ⟨rfl, hb6⟩
 obtain ⟨i, hi⟩ : ∃ i, i = posF (fun s : SetR => cmpS s.path pa) ml := ⟨_, rfl⟩
 rw [← hi]
 have hil : i ≤ m2 := by have h := HO5.out.sets.1; simp only at h; rw [hi]; have := posF_le (fun s : SetR => cmpS s.path pa) ml; omega
 have HI := Lib.hid hi
 have HIL := Lib.hid hil
 have hsz5 := HSZ5.out
 have hsz6 := hb6.size
 have HSZ6 := Lib.hid (show w.heap.size + 3 ≤ w6.heap.size ∧ g5 < w6.heap.size by have := HG5.out; omega)
 have ho6 := HO5.out.below hb6
 have k6 := K5.out.below hb6 K5.out.lt
 have kz6 := KZ5.out.below hb6 KZ5.out.lt
 have ks6 := KS5.out.below hb6 KS5.out.lt
 have hbw6 := HB5.out.trans (hb6.mono (by omega))
 have hso6 := HSO5.out.below hb6
 have ho7 := ho6.below ((Below.refl w6.heap.size w6).alloc (Nat.le_refl _) (.cells #[.string ⟨pa.toArray⟩, .string ⟨og.toArray⟩, .slice bA bn bc, .slice zA zn zc, .slice oA on oc] 63))
 have kn7 := Blk.new w6 63 #[.string ⟨pa.toArray⟩, .string ⟨og.toArray⟩, .slice bA bn bc, .slice zA zn zc, .slice oA on oc]
 have k7 := k6.alloc (.cells #[.string ⟨pa.toArray⟩, .string ⟨og.toArray⟩, .slice bA bn bc, .slice zA zn zc, .slice oA on oc] 63)
 have kz7 := kz6.alloc (.cells #[.string ⟨pa.toArray⟩, .string ⟨og.toArray⟩, .slice bA bn bc, .slice zA zn zc, .slice oA on oc] 63)
 have hbw7 := hbw6.alloc (by omega) (.cells #[.string ⟨pa.toArray⟩, .string ⟨og.toArray⟩, .slice bA bn bc, .slice zA zn zc, .slice oA on oc] 63)
 have hso7 := hso6.below ((Below.refl w6.heap.size w6).alloc (Nat.le_refl _) (.cells #[.string ⟨pa.toArray⟩, .string ⟨og.toArray⟩, .slice bA bn bc, .slice zA zn zc, .slice oA on oc] 63))
 have hsz7 : (w6.alloc (.cells #[.string ⟨pa.toArray⟩, .string ⟨og.toArray⟩, .slice bA bn bc, .slice zA zn zc, .slice oA on oc] 63)).heap.size = w6.heap.size + 1 := by simp
 have d3 := k6.cell 3
 obtain ⟨e0, e1, e2, e3, e4⟩ := (⟨ks6.cell 0, ks6.cell 1, ks6.cell 2, ks6.cell 3, ks6.cell 4⟩ : _ ∧ _ ∧ _ ∧ _ ∧ _)
 simp only [List.getElem?_toArray, List.getElem?_cons_succ, List.getElem?_cons_zero] at e0 e1 e2 e3 e4
 simp only [List.getElem?_toArray, List.getElem?_cons_succ, List.getElem?_cons_zero] at d3
 rw [← HG5.out] at d3
 have hbs := HBS.out
 have hsz3 := HSZ3.out
 have hcI : Hid (Calls Tryz.prog 77 #[.slice m1 m2 m3, .int .i64 (i : Int), .slice (some ⟨w6.heap.size, 0, none⟩) 1 1] (w6.alloc (.cells #[.string ⟨pa.toArray⟩, .string ⟨og.toArray⟩, .slice bA bn bc, .slice zA zn zc, .slice oA on oc] 63)) fun e w' =>
    ∃ v, e = .returned v ∧ w'.ownsRow base 63 5 v (m2 + 1) ((cellsK encSet ml).take (i * 5) ++ (encSet ⟨pa, og, ⟨bA, bn, bc, bl⟩, ⟨zA, zn, zc, zl⟩, ⟨oA, on, oc, ol⟩⟩) ++ (cellsK encSet ml).drop (i * 5)) ∧ (w6.alloc (.cells #[.string ⟨pa.toArray⟩, .string ⟨og.toArray⟩, .slice bA bn bc, .slice zA zn zc, .slice oA on oc] 63)).grownBy w' (Value.slice m1 m2 m3).ownBlock) :=
  insSet_any (news := #[.string ⟨pa.toArray⟩, .string ⟨og.toArray⟩, .slice bA bn bc, .slice zA zn zc, .slice oA on oc]) rfl (by simp [Value.oneCell']) (cellsK encSet ml) (cells_one encSet_one ml) w6.heap.size 63 base m2 i m1 m3 _ hil (own_mono ho7.sets.2 (by omega)) (by omega) (by have h := hY2; omega) kn7 (fun e => by have := (ho6.sets.2.lt _ e).2; omega)
 clear hb6 hbs hsz3 hi hil hsz5 hsz6 HO5 K5 KZ5 KS5 HB5 HSO5 HSZ5 HYA ho6 k6 kz6 ks6 hbw6 hso6
 obtain ⟨W7, hW7⟩ : ∃ W, W = w6.alloc (.cells #[.string ⟨pa.toArray⟩, .string ⟨og.toArray⟩, .slice bA bn bc, .slice zA zn zc, .slice oA on oc] 63) := ⟨_, rfl⟩
 rw [← hW7] at ho7 k7 kz7 hbw7 hso7 hsz7 hcI kn7
 have HO7 := Lib.hid ho7
 have K7 := Lib.hid k7
 have KZ7 := Lib.hid kz7
 have HB7 := Lib.hid hbw7
 have HSO7 := Lib.hid hso7
 have HSZ7 := Lib.hid hsz7
 clear ho7 k7 kz7 hbw7 hso7 hsz7 kn7
 go_wp2_with fail
 rw [← hW7]
 clear hW7
 refine hcI.out.mono ?_
 clear hcI
 rintro e w8 ⟨v, rfl, hv8, hg8⟩
 obtain ⟨v1, v3, rfl, _⟩ := own_form hv8
 obtain ⟨W9, hW9⟩ : ∃ W, W = w8.setCell ⟨g5, 3, none⟩ (.slice v1 (m2 + 1) v3) := ⟨_, rfl⟩
 have hne5 : some g5 ≠ (Value.slice m1 m2 m3).ownBlock := fun e => by have := (HSET.out g5 e.symm).2; have := HG5.out; omega
 have hneZ : some (w.heap.size + 2) ≠ (Value.slice m1 m2 m3).ownBlock := fun e => by have := (HSET.out _ e.symm).1; omega
 have k8 : Blk w8 g5 27 #[.string ⟨mm.toArray⟩, .int .i64 mq, .int .i64 mx, .slice m1 m2 m3, .slice n1 n2 n3, .slice p1 p2 p3, .slice q1 q2 q3] := by have := K7.out; rw [← HG5.out] at this; exact this.grown hg8 hne5
 have kz8 := KZ7.out.grown hg8 hneZ
 have hb8 : Below w.heap.size w w8 := HB7.out.grown hg8 (by have := HSZ7.out; have := HSZ6.out; omega) (fun k hk => by have := (HSET.out k hk).1; omega)
 have hsz8 := hg8.size
 have hY : Hid (∃ y : TenR, y.val = .agg #[.string ⟨mm.toArray⟩, .int .i64 mq, .int .i64 mx, .slice v1 (m2 + 1) v3, .slice n1 n2 n3, .slice p1 p2 p3, .slice q1 q2 q3] ∧ TenO w8 base y ∧ y.con = TenC.withS (TenR.con ⟨nm, qu, nx, ⟨s1, sn, s3, sl⟩, ⟨g1, gn, g3, gl⟩, ⟨t1, tn, t3, tl⟩, ⟨l1, ln, l3, ll⟩⟩) (SetR.con ⟨pa, og, ⟨bA, bn, bc, bl⟩, ⟨zA, zn, zc, zl⟩, ⟨oA, on, oc, ol⟩⟩)) := by
  have hms : m2 = ml.length := HO7.out.sets.1
  have hrow : cellsK encSet (ml.take i ++ [⟨pa, og, ⟨bA, bn, bc, bl⟩, ⟨zA, zn, zc, zl⟩, ⟨oA, on, oc, ol⟩⟩] ++ ml.drop i) = (cellsK encSet ml).take (i * 5) ++ (encSet ⟨pa, og, ⟨bA, bn, bc, bl⟩, ⟨zA, zn, zc, zl⟩, ⟨oA, on, oc, ol⟩⟩) ++ (cellsK encSet ml).drop (i * 5) := by
   rw [cellsK_append, cellsK_append, cellsK_take (enc := encSet) (k := 5) (fun _ => rfl), cellsK_drop (enc := encSet) (k := 5) (fun _ => rfl), cellsK_one]
  have hlen : (ml.take i ++ [(⟨pa, og, ⟨bA, bn, bc, bl⟩, ⟨zA, zn, zc, zl⟩, ⟨oA, on, oc, ol⟩⟩ : SetR)] ++ ml.drop i).length = m2 + 1 := by
   have := HIL.out
   simp only [List.length_append, List.length_take, List.length_drop, List.length_cons, List.length_nil]
   omega
  have hk : ∀ z : SetR, SetO W7 base z → SetO w8 base z := fun z hz => by
   cases he : (Value.slice m1 m2 m3).ownBlock with
   | none => rw [he] at hg8; exact hz.below ⟨hg8.os, hg8.tape, hg8.output, hg8.size, fun k hk => hg8.block k hk (by simp)⟩
   | some g =>
    rw [he] at hg8
    obtain ⟨h1, h2⟩ := HSET.out g he
    rcases HO7.out.sets.2.2 with ⟨e, _⟩ | ⟨g', cap, cur, e, _, hh, _⟩
    ·rw [show (Value.slice m1 m2 m3) = .slice none 0 0 from e] at he; simp [Value.ownBlock] at he
    ·rw [show (Value.slice m1 m2 m3) = .slice (some ⟨g', 0, none⟩) m2 cap from e] at he
     have he : g' = g := by simpa [Value.ownBlock] using he
     subst he
     exact hz.keptS hg8 (show Blk W7 g' 63 cur from hh)
  refine ⟨⟨mm, mq, mx, ⟨v1, m2 + 1, v3, ml.take i ++ [⟨pa, og, ⟨bA, bn, bc, bl⟩, ⟨zA, zn, zc, zl⟩, ⟨oA, on, oc, ol⟩⟩] ++ ml.drop i⟩, ⟨n1, n2, n3, nl⟩, ⟨p1, p2, p3, pl⟩, ⟨q1, q2, q3, ql⟩⟩, rfl, ?_, ?_⟩
  ·refine TenO.setsO (HO7.out.mono (base' := base) (by have := HBS.out; have := HSZ3.out; omega)) ⟨v1, m2 + 1, v3, ml.take i ++ [⟨pa, og, ⟨bA, bn, bc, bl⟩, ⟨zA, zn, zc, zl⟩, ⟨oA, on, oc, ol⟩⟩] ++ ml.drop i⟩ hg8 ⟨hlen.symm, ?_⟩ ?_
   ·show World.ownsRow _ _ _ _ _ _ (cellsK encSet (ml.take i ++ [⟨pa, og, ⟨bA, bn, bc, bl⟩, ⟨zA, zn, zc, zl⟩, ⟨oA, on, oc, ol⟩⟩] ++ ml.drop i))
    rw [hrow]
    exact hv8
   ·intro z hz
    simp only [List.mem_append, List.mem_cons, List.not_mem_nil, or_false] at hz
    rcases hz with (hz | rfl) | hz
    ·exact hk z ((HO7.out.eachS z (List.mem_of_mem_take hz)).mono (by have := HBS.out; have := HSZ3.out; omega))
    ·exact hk _ HSO7.out
    ·exact hk z ((HO7.out.eachS z (List.mem_of_mem_drop hz)).mono (by have := HBS.out; have := HSZ3.out; omega))
  ·rw [HCON.out, HI.out]
   exact con_withS ⟨mm, mq, mx, ⟨m1, m2, m3, ml⟩, ⟨n1, n2, n3, nl⟩, ⟨p1, p2, p3, pl⟩, ⟨q1, q2, q3, ql⟩⟩ ⟨pa, og, ⟨bA, bn, bc, bl⟩, ⟨zA, zn, zc, zl⟩, ⟨oA, on, oc, ol⟩⟩ v1 (m2 + 1) v3
 obtain ⟨y, hyv, hyo, hyc⟩ := hY.out
 have hb9 := hb8.setCell (p := ⟨g5, 3, none⟩) (by have := HSZ6.out; have := HG5.out; have := HSZ4.out; simp only; omega) (.slice v1 (m2 + 1) v3)
 have k9 := k8.set_ 3 (.slice v1 (m2 + 1) v3)
 have kz9 := kz8.far (p := ⟨g5, 3, none⟩) (by have := HG5.out; have := HSZ4.out; simp only; omega) (.slice v1 (m2 + 1) v3)
 have hyo9 := hyo.keptT (grown_box w8 g5 3 (.slice v1 (m2 + 1) v3)) k8 offT_ten
 simp only [List.setIfInBounds_toArray, List.set_cons_succ, List.set_cons_zero] at k9
 obtain ⟨W9, hW9⟩ : ∃ W, W = w8.setCell ⟨g5, 3, none⟩ (.slice v1 (m2 + 1) v3) := ⟨_, rfl⟩
 rw [← hW9] at hb9 k9 kz9 hyo9
 have HB9 := Lib.hid hb9
 have KZ9 := Lib.hid kz9
 have HYO9 := Lib.hid hyo9
 have HYV := Lib.hid hyv
 have HYC := Lib.hid hyc
 obtain ⟨d0, d1, d2, d3, d4, d5, d6⟩ := (⟨k9.cell 0, k9.cell 1, k9.cell 2, k9.cell 3, k9.cell 4, k9.cell 5, k9.cell 6⟩ : _ ∧ _ ∧ _ ∧ _ ∧ _ ∧ _ ∧ _)
 simp only [List.getElem?_toArray, List.getElem?_cons_succ, List.getElem?_cons_zero] at d0 d1 d2 d3 d4 d5 d6
 have hth8 := k8.cell 3
 have hfz8 := k8.frozen 3
 simp only [List.getElem?_toArray, List.getElem?_cons_succ, List.getElem?_cons_zero] at hth8
 clear hb8 k8 kz8 hv8 hg8 hY hyo hyc hyv hb9 kz9 hyo9 hne5 hneZ hsz8 K7 KZ7 HB7 HSO7 HO7 HSET k9
 go_upto_region 4 with (fail)
 rw [← hW9]
 clear hW9 hth8 hfz8
 have hth := Lib.hid (KZ9.out.there 7 (by decide))
 have k4 := Blk.setCells (g := (w.heap.size + 2)) [.string ⟨mm.toArray⟩, .int .i64 mq, .int .i64 mx, .slice v1 (m2 + 1) v3, .slice n1 n2 n3, .slice p1 p2 p3, .slice q1 q2 q3] W9 [] [.string ⟨#[]⟩, .int .i64 0, .int .i64 0, .slice none 0 0, .slice none 0 0, .slice none 0 0, .slice none 0 0] rfl KZ9.out
 simp only [List.length_nil, List.nil_append] at k4
 have hbw := below_setCells (g := (w.heap.size + 2)) (by omega) [.string ⟨mm.toArray⟩, .int .i64 mq, .int .i64 mx, .slice v1 (m2 + 1) v3, .slice n1 n2 n3, .slice p1 p2 p3, .slice q1 q2 q3] W9 0 HB9.out
 have hgw := grown_cellsS (w.heap.size + 2) [.string ⟨mm.toArray⟩, .int .i64 mq, .int .i64 mx, .slice v1 (m2 + 1) v3, .slice n1 n2 n3, .slice p1 p2 p3, .slice q1 q2 q3] W9 0
 obtain ⟨WR, hW4⟩ : ∃ W, W = W9.setCells (w.heap.size + 2) 0 (#[.string ⟨mm.toArray⟩, .int .i64 mq, .int .i64 mx, .slice v1 (m2 + 1) v3, .slice n1 n2 n3, .slice p1 p2 p3, .slice q1 q2 q3] : Array Value).toList := ⟨_, rfl⟩
 rw [show ([.string ⟨mm.toArray⟩, .int .i64 mq, .int .i64 mx, .slice v1 (m2 + 1) v3, .slice n1 n2 n3, .slice p1 p2 p3, .slice q1 q2 q3] : List Value) = (#[.string ⟨mm.toArray⟩, .int .i64 mq, .int .i64 mx, .slice v1 (m2 + 1) v3, .slice n1 n2 n3, .slice p1 p2 p3, .slice q1 q2 q3] : Array Value).toList from rfl, ← hW4] at k4 hbw hgw
 have HL : Hid ((loadVar 27 ⟨(w.heap.size + 2), 0, none⟩).run Tryz.prog WR = .ok (.agg #[.string ⟨mm.toArray⟩, .int .i64 mq, .int .i64 mx, .slice v1 (m2 + 1) v3, .slice n1 n2 n3, .slice p1 p2 p3, .slice q1 q2 q3]) WR) := run_loadVar_at WR ⟨(w.heap.size + 2), 0, none⟩ 27 [.string ⟨mm.toArray⟩, .int .i64 mq, .int .i64 mx, .slice v1 (m2 + 1) v3, .slice n1 n2 n3, .slice p1 p2 p3, .slice q1 q2 q3] _ (fun j v hv => by rw [addr_add0, k4.cell j, List.getElem?_toArray]; exact hv) Tryz.underlying27 rfl (by kernel_rfl)
 have HBW := Lib.hid hbw
 have HOO := Lib.hid (TenO.keptT HYO9.out hgw KZ9.out offT_ten)
 clear k4 hbw hgw
 go_wp2_with (refine wpList_store_mid rfl 27 (.tmp 4) (.tmp 25) rfl ((w.heap.size + 2)) 0 #[.string ⟨mm.toArray⟩, .int .i64 mq, .int .i64 mx, .slice v1 (m2 + 1) v3, .slice n1 n2 n3, .slice p1 p2 p3, .slice q1 q2 q3] rfl rfl hth.out (by kernel_rfl) (by simp [Value.oneCell']) ?_; rw [← hW4]; clear hW4)
 exact bodyPost_ret (v := .agg #[.string ⟨mm.toArray⟩, .int .i64 mq, .int .i64 mx, .slice v1 (m2 + 1) v3, .slice n1 n2 n3, .slice p1 p2 p3, .slice q1 q2 q3]) (results_cell rfl rfl HL.out) rfl ⟨y, by rw [HYV.out], HOO.out, HYC.out, HBW.out⟩
end Go.Proofs.YteafdncnnamakaaGreatDoor

/-
 What a function tells that answers by a tenant and an error; sizes by content.
-/
namespace Go.Proofs.YteafdncnnamakaaGreatDoor
open Go.RowKit

/-! ### sizes, by content -/
structure SnapC.sz (x : SnapC) : Prop where
 nm : x.nm.length ≤ 4000000000
 body : x.body.length ≤ 1000000000000
 tags : x.tags.length ≤ 1000000000000
 each : ∀ t ∈ x.tags, t.length ≤ 4000000000
 own : x.own.length ≤ 1000000000000
 props : ∀ p ∈ x.own, p.1.length ≤ 4000000000 ∧ p.2.length ≤ 4000000000
structure SetC.sz (x : SetC) : Prop where
 path : x.path.length ≤ 4000000000
 org : x.org.length ≤ 4000000000
 body : x.body.length ≤ 1000000000000
 snaps : x.snaps.length ≤ 1000000000000
 each : ∀ y ∈ x.snaps, y.sz
 own : x.own.length ≤ 1000000000000
 props : ∀ p ∈ x.own, p.1.length ≤ 4000000000 ∧ p.2.length ≤ 4000000000
structure StageC.sz (x : StageC) : Prop where
 into : x.into.length ≤ 4000000000
 nm : x.nm.length ≤ 4000000000
 dt : x.dt.length ≤ 4000000000
 own : x.own.length ≤ 1000000000000
 props : ∀ p ∈ x.own, p.1.length ≤ 4000000000 ∧ p.2.length ≤ 4000000000
 body : x.body.length ≤ 1000000000000
structure TenC.sz (t : TenC) : Prop where
 nm : t.nm.length ≤ 4000000000
 sets : t.sets.length ≤ 1000000000000
 eachS : ∀ y ∈ t.sets, y.sz
 grants : t.grants.length ≤ 1000000000000
 eachG : ∀ g ∈ t.grants, g.1.length ≤ 4000000000 ∧ g.2.1.length ≤ 4000000000
 stages : t.stages.length ≤ 1000000000000
 eachT : ∀ y ∈ t.stages, y.sz
 log : t.log.length ≤ 1000000000000
 eachL : ∀ y ∈ t.log, y.sz
section
variable {w : World} {B : Nat}
theorem SnapR.sz_of {x : SnapR} (h : x.rd w B) (hc : x.con.sz) : x.sz := ⟨hc.nm, by rw [h.body.1]; exact hc.body, by rw [h.tags.1]; exact hc.tags, hc.each, by rw [h.own.1]; exact hc.own, hc.props⟩
theorem SnapC.sz_of {x : SnapR} (h : x.rd w B) (hc : x.sz) : x.con.sz := ⟨hc.nm, by have := hc.body; rw [h.body.1] at this; exact this, by have := hc.tags; rw [h.tags.1] at this; exact this, hc.each, by have := hc.own; rw [h.own.1] at this; exact this, hc.props⟩
theorem SetR.sz_of {x : SetR} (h : x.rd w B) (hc : x.con.sz) : x.sz :=
 ⟨hc.path, hc.org, by rw [h.body.1]; exact hc.body, by rw [h.snaps.1]; have := hc.snaps; rwa [show x.con.snaps.length = x.snaps.l.length from List.length_map ..] at this, fun y hy => SnapR.sz_of (h.each y hy) (hc.each _ (List.mem_map_of_mem hy)), by rw [h.own.1]; exact hc.own, hc.props⟩
theorem SetC.sz_of {x : SetR} (h : x.rd w B) (hc : x.sz) : x.con.sz := by
 refine ⟨hc.path, hc.org, by have := hc.body; rw [h.body.1] at this; exact this, ?_, fun y hy => ?_, by have := hc.own; rw [h.own.1] at this; exact this, hc.props⟩
 ·have := hc.snaps
  rw [h.snaps.1] at this
  rwa [show x.con.snaps.length = x.snaps.l.length from List.length_map ..]
 ·obtain ⟨z, hz, rfl⟩ := List.mem_map.1 hy
  exact SnapC.sz_of (h.each z hz) (hc.each z hz)
theorem StageR.sz_of {x : StageR} (h : x.rd w B) (hc : x.con.sz) : x.sz := ⟨hc.into, hc.nm, hc.dt, by rw [h.own.1]; exact hc.own, hc.props, by rw [h.body.1]; exact hc.body⟩
theorem StageC.sz_of {x : StageR} (h : x.rd w B) (hc : x.sz) : x.con.sz := ⟨hc.into, hc.nm, hc.dt, by have := hc.own; rw [h.own.1] at this; exact this, hc.props, by have := hc.body; rw [h.body.1] at this; exact this⟩
theorem TenR.sz_of {t : TenR} (h : t.rd w B) (hc : t.con.sz) : t.sz :=
 ⟨hc.nm, by rw [h.sets.1]; have := hc.sets; rwa [show t.con.sets.length = t.sets.l.length from List.length_map ..] at this, fun y hy => SetR.sz_of (h.eachS y hy) (hc.eachS _ (List.mem_map_of_mem hy)), by rw [h.grants.1]; exact hc.grants, hc.eachG, by rw [h.stages.1]; have := hc.stages; rwa [show t.con.stages.length = t.stages.l.length from List.length_map ..] at this, fun y hy => StageR.sz_of (h.eachG y hy) (hc.eachT _ (List.mem_map_of_mem hy)), by rw [h.log.1]; exact hc.log, hc.eachL⟩
theorem TenC.sz_of {t : TenR} (h : t.rd w B) (hc : t.sz) : t.con.sz := by
 refine ⟨hc.nm, ?_, fun y hy => ?_, by have := hc.grants; rw [h.grants.1] at this; exact this, hc.eachG, ?_, fun y hy => ?_, by have := hc.log; rw [h.log.1] at this; exact this, hc.eachL⟩
 ·have := hc.sets
  rw [h.sets.1] at this
  rwa [show t.con.sets.length = t.sets.l.length from List.length_map ..]
 ·obtain ⟨z, hz, rfl⟩ := List.mem_map.1 hy
  exact SetC.sz_of (h.eachS z hz) (hc.eachS z hz)
 ·have := hc.stages
  rw [h.stages.1] at this
  rwa [show t.con.stages.length = t.stages.l.length from List.length_map ..]
 ·obtain ⟨z, hz, rfl⟩ := List.mem_map.1 hy
  exact StageC.sz_of (h.eachG z hz) (hc.eachT z hz)
end
theorem TenC.sz.withS {c : TenC} {s : SetC} (h : c.sz) (hs : s.sz) (hl : c.sets.length ≤ 100000000000) : (c.withS s).sz := by
 refine ⟨h.nm, ?_, fun y hy => ?_, h.grants, h.eachG, h.stages, h.eachT, h.log, h.eachL⟩
 ·unfold TenC.withS
  simp only [List.length_append, List.length_take, List.length_drop, List.length_cons, List.length_nil]
  omega
 ·have hy : y ∈ c.sets.take _ ++ [s] ++ c.sets.drop _ := hy
  simp only [List.mem_append, List.mem_cons, List.not_mem_nil, or_false] at hy
  rcases hy with (hy | rfl) | hy
  ·exact h.eachS y (List.mem_of_mem_take hy)
  ·exact hs
  ·exact h.eachS y (List.mem_of_mem_drop hy)
theorem TenC.sz.dropS {c : TenC} {i : Nat} (h : c.sz) : (c.dropS i).sz := by
 refine ⟨h.nm, ?_, fun y hy => ?_, h.grants, h.eachG, h.stages, h.eachT, h.log, h.eachL⟩
 ·unfold TenC.dropS
  have := h.sets
  simp only [List.length_append, List.length_take, List.length_drop]
  omega
 ·have hy : y ∈ c.sets.take _ ++ c.sets.drop _ := hy
  rcases List.mem_append.1 hy with hy | hy
  ·exact h.eachS y (List.mem_of_mem_take hy)
  ·exact h.eachS y (List.mem_of_mem_drop hy)
theorem TenC.sz.putS {c : TenC} {i : Nat} {s : SetC} (h : c.sz) (hs : s.sz) : (c.putS i s).sz := by
 refine ⟨h.nm, ?_, fun y hy => ?_, h.grants, h.eachG, h.stages, h.eachT, h.log, h.eachL⟩
 ·show (c.sets.set i s).length ≤ _
  rw [List.length_set]
  exact h.sets
 ·rcases List.mem_or_eq_of_mem_set (show y ∈ c.sets.set i s from hy) with hy | rfl
  ·exact h.eachS y hy
  ·exact hs
def set0C (p : BS) : SetC := ⟨p, [], [], [], []⟩
theorem set0C_sz (p : BS) (hp : p.length ≤ 4000000000) : (set0C p).sz := ⟨hp, by simp [set0C], by simp [set0C], by simp [set0C], by simp [set0C], by simp [set0C], by simp [set0C]⟩
/-! ### what is told -/
/-- a tenant and an error: the error's tenant is the zero one; else it lies in memory of its own -/
def TenPost (w : World) (c : Int × TenC) (e : Ending) (w' : World) : Prop := ∃ v, e = .returned (.tuple #[v, .int .i64 c.1]) ∧ Below w.heap.size w w' ∧
 ((c.1 ≠ 0 ∧ v = ZEROT) ∨ (c.1 = 0 ∧ ∃ y : TenR, v = y.val ∧ TenO w' w.heap.size y ∧ y.con = c.2))
theorem tenPost_err {w w' : World} {c : Int × TenC} {E : Int} {c' : TenC} (hc : c = (E, c')) (hE : E ≠ 0) (hb : Below w.heap.size w w') : TenPost w c (.returned (.tuple #[ZEROT, .int .i64 E])) w' := by
 subst hc
 exact ⟨_, rfl, hb, .inl ⟨hE, rfl⟩⟩
theorem tenPost_ok {w w' : World} {c : Int × TenC} {c' : TenC} (hc : c = (0, c')) (hb : Below w.heap.size w w') (y : TenR) (ho : TenO w' w.heap.size y) (hy : y.con = c') : TenPost w c (.returned (.tuple #[y.val, .int .i64 0])) w' := by
 subst hc
 exact ⟨_, rfl, hb, .inr ⟨rfl, y, rfl, ho, hy⟩⟩
def TenC.find (c : TenC) (p : BS) : Int := firstI (fun s : SetC => s.path == p) c.sets
theorem findS_con (t : TenR) (p : BS) : findS t.sets.l p = t.con.find p := by
 unfold findS TenC.find
 exact (firstI_map SetR.con (fun s : SetC => s.path == p) t.sets.l).symm
def TenC.ask (c : TenC) (p : BS) : Int := if c.E = 9 then 9 else if pathB p = false then 31 else 0
theorem askP_con (t : TenR) (p : BS) : askP t p = t.con.ask p := by
 unfold askP TenC.ask
 rw [tenE_con]
/-- what is settled -/
def TenC.settle (c : TenC) : Int × TenC := if c.E = 9 then (9, c) else if c.quota < (c.charge : Int) then (42, c) else (0, c)
theorem settleT_any (t : TenR) (w : World) (B : Nat) (hB : B ≤ w.heap.size) (hr : t.rd w B) (hz : t.sz) (hmx : HasMax w) :
  Calls Tryz.prog 11 #[t.val] w (TenPost w t.con.settle) := by
 refine (settle_any t w B hB hr hz hmx).mono ?_
 rintro e w' ⟨v, E, rfl, hb, h⟩
 rw [tenE_con, tenSum_con t w B hr] at h
 unfold TenPost TenC.settle
 rcases h with ⟨h1, h2, h3⟩ | ⟨h1, h2, h3, h4⟩ | ⟨h1, h2, h3, y, h4, h5, h6⟩
 ·rw [if_pos h1]
  exact ⟨v, by rw [h2], hb, .inl ⟨(by decide : (9 : Int) ≠ 0), h3⟩⟩
 ·rw [if_neg (by rw [h1]; decide), if_pos (show t.con.quota < _ from h2)]
  exact ⟨v, by rw [h3], hb, .inl ⟨(by decide : (42 : Int) ≠ 0), h4⟩⟩
 ·rw [if_neg (by rw [h1]; decide), if_neg (show ¬ t.con.quota < _ from by show ¬ t.quota < _; omega)]
  exact ⟨v, by rw [h3], hb, .inr ⟨rfl, y, h4, h5, ((TenR.eqv_iff _ _).1 h6).symm⟩⟩
/-- a set is made -/
def TenC.create (c : TenC) (p : BS) : Int × TenC := if c.ask p ≠ 0 then (c.ask p, c) else if 0 ≤ c.find p then (6, c) else if c.find (upL p) < 0 then (71, c) else if c.sets.length = 32 then (3, c) else (c.withS (set0C p)).settle
/-- another row of sets, made where the old one lies, or anew -/
theorem TenO.newSets {y : TenR} {W W' : World} {base : Nat} (h : TenO W base y) (hg : W.grownBy W' y.sets.val.ownBlock) (s' : FS SetR) (hs : s'.own W' base 63 5 encSet) (hm : ∀ z ∈ s'.l, SetO W base z) :
  TenO W' base ⟨y.nm, y.quota, y.next, s', y.grants, y.stages, y.log⟩ := by
 refine TenO.setsO h s' hg hs fun z hz => ?_
 have hz := hm z hz
 cases he : y.sets.val.ownBlock with
 | none => rw [he] at hg; exact hz.below ⟨hg.os, hg.tape, hg.output, hg.size, fun k _ => hg.block k (by assumption) (by simp)⟩
 | some g =>
  rw [he] at hg
  rcases h.sets.2.2 with ⟨e, _⟩ | ⟨g', cap, cur, e, _, hh, _⟩
  ·rw [e] at he; simp [Value.ownBlock] at he
  ·rw [e] at he
   have he : g' = g := by simpa [Value.ownBlock] using he
   subst he
   exact hz.keptS hg (show Blk W g' 63 cur from hh)
/-! ### what stands under a set, its clones, what is held -/
def TenC.kids (c : TenC) (p : BS) : Nat := (c.sets.filter fun s => parB s.path == some p).length
theorem kids_con (t : TenR) (p : BS) : (kidsL t.sets.l p).length = t.con.kids p := by
 unfold kidsL TenC.kids
 rw [List.length_map]
 show _ = ((t.sets.l.map SetR.con).filter _).length
 rw [List.filter_map, List.length_map]
 rfl
/-- a set is gone -/
def TenC.heldAt (c : TenC) (i : Nat) : Bool := match c.sets[i]? with
 | none => false
 | some s => s.snaps.any fun x => decide (0 < x.tags.length)
end Go.Proofs.YteafdncnnamakaaGreatDoor

/-
 shape.Create: an empty set more.
-/
namespace Go.Proofs.YteafdncnnamakaaGreatDoor
open Go.RowKit

theorem set0R_o (w : World) (base : Nat) (p : BS) : SetO w base ⟨p, [], ⟨none, 0, 0, []⟩, ⟨none, 0, 0, []⟩, ⟨none, 0, 0, []⟩⟩ :=
 ⟨⟨rfl, rfl, .inl ⟨rfl, rfl⟩⟩, ⟨rfl, rfl, .inl ⟨rfl, rfl⟩⟩, fun y hy => absurd hy (by simp), ⟨rfl, rfl, .inl ⟨rfl, rfl⟩⟩⟩
set_option maxRecDepth 100000 in
set_option maxHeartbeats 4000000 in
theorem create_any (t : TenR) (p : BS) (w : World) (B : Nat) (hB : B ≤ w.heap.size) (hr : t.rd w B) (hz : t.sz) (hp : p.length ≤ 4000000000) (hmx : HasMax w) :
  Calls Tryz.prog 7 #[t.val, .string ⟨p.toArray⟩] w (TenPost w (t.con.create p)) := by
 have h3 : t.con.ask p = 0 ∨ t.con.ask p = 9 ∨ t.con.ask p = 31 := by rw [← askP_con]; exact askP_in t p
 obtain ⟨V, hV⟩ : ∃ V, V = t.con.create p := ⟨_, rfl⟩
 have hVe : V = if t.con.ask p ≠ 0 then (t.con.ask p, t.con) else if 0 ≤ findS t.sets.l p then (6, t.con) else if findS t.sets.l (upL p) < 0 then (71, t.con) else if t.sets.l.length = 32 then (3, t.con) else (t.con.withS (set0C p)).settle := by
  rw [hV, findS_con, findS_con]
  unfold TenC.create
  rw [show t.con.sets.length = t.sets.l.length from List.length_map ..]
 rw [← hV]
 have hask := askP_con t p
 have hord : t.con.ask p = 0 → t.sets.l.length ≤ 32 ∧ SignAsc (fun s : SetR => cmpS s.path p) t.sets.l ∧ pathB p = true := fun h => by
  have h0 : tenE t = 0 := by
   rcases tenE_09 t with h1 | h1
   ·exact h1
   ·rw [← hask] at h
    unfold askP at h
    rw [if_pos h1] at h
    cases h
  have h1 := tenE_ord t h0
  refine ⟨h1.1, pairs_asc _ h1.2 p, ?_⟩
  rw [← hask] at h
  unfold askP at h
  rw [if_neg (by rw [h0]; decide)] at h
  cases hpb : pathB p with
  | true => rfl
  | false => rw [if_pos hpb] at h; cases h
 have hcz := TenC.sz_of hr hz
 obtain ⟨nm, qu, nx, ⟨s1, sn, s3, sl⟩, ⟨g1, gn, g3, gl⟩, ⟨t1, tn, t3, tl⟩, ⟨l1, ln, l3, ll⟩⟩ := t
 show Calls Tryz.prog 7 #[.agg #[.string ⟨nm.toArray⟩, .int .i64 qu, .int .i64 nx, .slice s1 sn s3, .slice g1 gn g3, .slice t1 tn t3, .slice l1 ln l3], .string ⟨p.toArray⟩] w _
 have hb := (((Below.refl w.heap.size w).alloc (Nat.le_refl _) (.cells #[.string ⟨nm.toArray⟩, .int .i64 qu, .int .i64 nx, .slice s1 sn s3, .slice g1 gn g3, .slice t1 tn t3, .slice l1 ln l3] 27)).alloc (by simp) (.cells #[.string ⟨#[]⟩, .int .i64 0, .int .i64 0, .slice none 0 0, .slice none 0 0, .slice none 0 0, .slice none 0 0] 27))
 have kt := Blk.new w 27 #[.string ⟨nm.toArray⟩, .int .i64 qu, .int .i64 nx, .slice s1 sn s3, .slice g1 gn g3, .slice t1 tn t3, .slice l1 ln l3]
 replace kt := kt.alloc (.cells #[.string ⟨#[]⟩, .int .i64 0, .int .i64 0, .slice none 0 0, .slice none 0 0, .slice none 0 0, .slice none 0 0] 27)
 have kz := Blk.new (w.alloc (.cells #[.string ⟨nm.toArray⟩, .int .i64 qu, .int .i64 nx, .slice s1 sn s3, .slice g1 gn g3, .slice t1 tn t3, .slice l1 ln l3] 27)) 27 #[.string ⟨#[]⟩, .int .i64 0, .int .i64 0, .slice none 0 0, .slice none 0 0, .slice none 0 0, .slice none 0 0]
 rw [show (w.alloc (.cells #[.string ⟨nm.toArray⟩, .int .i64 qu, .int .i64 nx, .slice s1 sn s3, .slice g1 gn g3, .slice t1 tn t3, .slice l1 ln l3] 27)).heap.size = w.heap.size + 1 by simp] at kz
 have hsz : ((w.alloc (.cells #[.string ⟨nm.toArray⟩, .int .i64 qu, .int .i64 nx, .slice s1 sn s3, .slice g1 gn g3, .slice t1 tn t3, .slice l1 ln l3] 27)).alloc (.cells #[.string ⟨#[]⟩, .int .i64 0, .int .i64 0, .slice none 0 0, .slice none 0 0, .slice none 0 0, .slice none 0 0] 27)).heap.size = w.heap.size + 2 := by simp
 obtain ⟨W1, hW1⟩ : ∃ W, W = ((w.alloc (.cells #[.string ⟨nm.toArray⟩, .int .i64 qu, .int .i64 nx, .slice s1 sn s3, .slice g1 gn g3, .slice t1 tn t3, .slice l1 ln l3] 27)).alloc (.cells #[.string ⟨#[]⟩, .int .i64 0, .int .i64 0, .slice none 0 0, .slice none 0 0, .slice none 0 0, .slice none 0 0] 27)) := ⟨_, rfl⟩
 rw [← hW1] at hb hsz kt kz
 have hKt : Hid (∀ W, Below W1.heap.size W1 W → Blk W w.heap.size 27 #[.string ⟨nm.toArray⟩, .int .i64 qu, .int .i64 nx, .slice s1 sn s3, .slice g1 gn g3, .slice t1 tn t3, .slice l1 ln l3]) := fun W h => kt.below h (by omega)
 have hKz : Hid (∀ W, Below W1.heap.size W1 W → Blk W (w.heap.size + 1) 27 #[.string ⟨#[]⟩, .int .i64 0, .int .i64 0, .slice none 0 0, .slice none 0 0, .slice none 0 0, .slice none 0 0]) := fun W h => kz.below h (by omega)
 have hBW : Hid (∀ W, Below W1.heap.size W1 W → Below w.heap.size w W) := fun W h => hb.trans (h.mono (by omega))
 have hSZ : Hid (∀ W, Below W1.heap.size W1 W → w.heap.size + 2 ≤ W.heap.size) := fun W h => by have := h.size; omega
 have hW0 : Hid (Below W1.heap.size W1 W1) := Below.refl _ _
 have hrw : Hid (∀ W, Below W1.heap.size W1 W → TenR.rd W B ⟨nm, qu, nx, ⟨s1, sn, s3, sl⟩, ⟨g1, gn, g3, gl⟩, ⟨t1, tn, t3, tl⟩, ⟨l1, ln, l3, ll⟩⟩ ∧ B ≤ W.heap.size ∧ HasMax W) := fun W h =>
  ⟨TenR.rd.below hr ((hBW.out W h).mono hB), by have := hSZ.out W h; omega, hmx.below (hBW.out W h)⟩
 obtain ⟨C, hC⟩ : ∃ C, C = TenR.con ⟨nm, qu, nx, ⟨s1, sn, s3, sl⟩, ⟨g1, gn, g3, gl⟩, ⟨t1, tn, t3, tl⟩, ⟨l1, ln, l3, ll⟩⟩ := ⟨_, rfl⟩
 have hHC := Lib.hid hC
 rw [← hC] at h3 hVe hask hord hcz
 have hAS : Hid (∀ W, Below W1.heap.size W1 W → Calls Tryz.prog 24 #[.agg #[.string ⟨nm.toArray⟩, .int .i64 qu, .int .i64 nx, .slice s1 sn s3, .slice g1 gn g3, .slice t1 tn t3, .slice l1 ln l3], .string ⟨p.toArray⟩] W fun e w' => e = .returned (.int .i64 (C.ask p)) ∧ Below W.heap.size W w') := fun W h => by
  rw [← hask]
  exact shAsked_any ⟨nm, qu, nx, ⟨s1, sn, s3, sl⟩, ⟨g1, gn, g3, gl⟩, ⟨t1, tn, t3, tl⟩, ⟨l1, ln, l3, ll⟩⟩ p W B (hrw.out W h).2.1 (hrw.out W h).1 hz hp (hrw.out W h).2.2
 have hPA : Hid (C.ask p = 0 → ∀ W, Below W1.heap.size W1 W → Calls Tryz.prog 25 #[.string ⟨p.toArray⟩] W fun e w' => (∃ b, e = .returned (.tuple #[.string ⟨(upL p).toArray⟩, .bool b])) ∧ Below W.heap.size W w') := fun h0 W h =>
  (parent_any ⟨p.toArray⟩ W (by simpa [ByteArray.size] using hp) (hrw.out W h).2.2).mono (by
   rintro e w' ⟨h1, ⟨h2, rfl⟩ | ⟨h2, h3, rfl⟩⟩
   ·rcases h2 with h2 | h2
    ·have h2 : p = [] := h2
     subst h2
     exact ⟨⟨false, rfl⟩, h1⟩
    ·have h2 : pathB p = false := h2
     rw [(hord h0).2.2] at h2
     cases h2
   ·exact ⟨⟨true, rfl⟩, h1⟩)
 have hFD : Hid (∀ q : BS, ∀ W, Below W1.heap.size W1 W → Calls Tryz.prog 26 #[.agg #[.string ⟨nm.toArray⟩, .int .i64 qu, .int .i64 nx, .slice s1 sn s3, .slice g1 gn g3, .slice t1 tn t3, .slice l1 ln l3], .string ⟨q.toArray⟩] W fun e w' => e = .returned (.int .i64 (findS sl q)) ∧ Below W.heap.size W w') := fun q W h =>
  find_any _ _ _ _ _ _ sl sn hr.sets.1 s1 s3 q W B (hrw.out W h).1.sets.2.2 (hrw.out W h).2.1 (by have := hz.sets; simp only at this; omega)
 have hWI : Hid (C.ask p = 0 → ∀ W, Below W1.heap.size W1 W → Calls Tryz.prog 27 #[.agg #[.string ⟨nm.toArray⟩, .int .i64 qu, .int .i64 nx, .slice s1 sn s3, .slice g1 gn g3, .slice t1 tn t3, .slice l1 ln l3], .agg #[.string ⟨p.toArray⟩, .string ⟨#[]⟩, .slice none 0 0, .slice none 0 0, .slice none 0 0]] W fun e w' => ∃ y : TenR, e = .returned y.val ∧ TenO w' W.heap.size y ∧ y.con = C.withS (set0C p) ∧ Below W.heap.size W w') := fun h0 W h => by
  rw [hC]
  exact with_any ⟨nm, qu, nx, ⟨s1, sn, s3, sl⟩, ⟨g1, gn, g3, gl⟩, ⟨t1, tn, t3, tl⟩, ⟨l1, ln, l3, ll⟩⟩ ⟨p, [], ⟨none, 0, 0, []⟩, ⟨none, 0, 0, []⟩, ⟨none, 0, 0, []⟩⟩ W B W.heap.size (hrw.out W h).2.1 (hrw.out W h).1 hz (set0R_o _ _ p) (Nat.le_refl _) (by have h1 := (hord h0).1; have h2 := hr.sets.1; simp only at h1 h2 ⊢; omega) (hord h0).2.1
 have hSE : Hid (C.ask p = 0 → ∀ y : TenR, y.con = C.withS (set0C p) → ∀ W, TenO W W1.heap.size y → Below W1.heap.size W1 W → Calls Tryz.prog 11 #[y.val] W (TenPost W (C.withS (set0C p)).settle)) := fun h0 y hy W ho h => by
  rw [← hy]
  refine settleT_any y W W.heap.size (Nat.le_refl _) ho.rd (TenR.sz_of ho.rd ?_) (hrw.out W h).2.2
  rw [hy]
  exact hcz.withS (set0C_sz p hp) (by have h1 := (hord h0).1; rw [hC]; show (List.map _ _).length ≤ _; rw [List.length_map]; simp only at h1 ⊢; omega)
 have HSL := Lib.hid (show (sn : Int) = (sl.length : Int) by have := hr.sets.1; simp only at this; omega)
 obtain ⟨E0, hE0⟩ : ∃ E, E = C.ask p := ⟨_, rfl⟩
 have hE0' : Hid (E0 = 0 → C.ask p = 0) := fun h => by rw [← hE0]; exact h
 rw [← hE0] at h3 hVe hAS
 have HV := Lib.hid hVe
 clear hb hsz kt kz hr hz hp hmx hVe hV hask hord hcz hC hE0
 go_enter Tryz.func7, Tryz.ntmps7
 have hc := hAS.out  W1 hW0.out
 have kk := hKt.out W1 hW0.out
 obtain ⟨c0, c1, c2, c3, c4, c5, c6⟩ := (⟨kk.cell 0, kk.cell 1, kk.cell 2, kk.cell 3, kk.cell 4, kk.cell 5, kk.cell 6⟩ : _ ∧ _ ∧ _ ∧ _ ∧ _ ∧ _ ∧ _)
 simp only [List.getElem?_toArray, List.getElem?_cons_succ, List.getElem?_cons_zero] at c0 c1 c2 c3 c4 c5 c6
 clear kk
 go_wp2_with fail
 rw [← hW1]
 clear hW1
 refine hc.mono ?_
 clear hc c0 c1 c2 c3 c4 c5 c6
 rintro e w2 ⟨rfl, hb⟩
 have HW2 := Lib.hid (hW0.out.trans (hb.mono hW0.out.size))
 clear hb
 rcases h3 with rfl | rfl | rfl
 ·have hA0 := hE0'.out rfl
  have HA0 := Lib.hid hA0
  clear hE0' hA0
  have HV := Lib.hid (HV.out.trans (if_neg (by decide)))
  have hc := hPA.out HA0.out w2 HW2.out
  go_wp2_with fail
  refine hc.mono ?_
  clear hc 
  rintro e w3 ⟨⟨b, rfl⟩, hb⟩
  have HW3 := Lib.hid (HW2.out.trans (hb.mono HW2.out.size))
  clear hb
  have hc := hFD.out p w3 HW3.out
  have kk := hKt.out w3 HW3.out
  obtain ⟨c0, c1, c2, c3, c4, c5, c6⟩ := (⟨kk.cell 0, kk.cell 1, kk.cell 2, kk.cell 3, kk.cell 4, kk.cell 5, kk.cell 6⟩ : _ ∧ _ ∧ _ ∧ _ ∧ _ ∧ _ ∧ _)
  simp only [List.getElem?_toArray, List.getElem?_cons_succ, List.getElem?_cons_zero] at c0 c1 c2 c3 c4 c5 c6
  clear kk
  go_wp2_with fail
  refine hc.mono ?_
  clear hc c0 c1 c2 c3 c4 c5 c6
  rintro e w4 ⟨rfl, hb⟩
  have HW4 := Lib.hid (HW3.out.trans (hb.mono HW3.out.size))
  clear hb
  obtain ⟨F1, hF1⟩ : ∃ F, F = findS sl p := ⟨_, rfl⟩
  rw [← hF1] at HV ⊢
  clear hF1
  by_cases hf : 0 ≤ F1
  ·have HX := Lib.hid (HV.out.trans (if_pos hf))
   clear HV
   have KZ := Lib.hid (hKz.out w4 HW4.out)
   have HB := Lib.hid (hBW.out w4 HW4.out)
   have hth := Lib.hid (KZ.out.there 7 (by decide))
   have k4 := Blk.setCells (g := (w.heap.size + 1)) [.string ⟨#[]⟩, .int .i64 0, .int .i64 0, .slice none 0 0, .slice none 0 0, .slice none 0 0, .slice none 0 0] w4 [] [.string ⟨#[]⟩, .int .i64 0, .int .i64 0, .slice none 0 0, .slice none 0 0, .slice none 0 0, .slice none 0 0] rfl KZ.out
   simp only [List.length_nil, List.nil_append] at k4
   have hbw := below_setCells (g := (w.heap.size + 1)) (by omega) [.string ⟨#[]⟩, .int .i64 0, .int .i64 0, .slice none 0 0, .slice none 0 0, .slice none 0 0, .slice none 0 0] w4 0 HB.out
   have hgw := grown_cellsS (w.heap.size + 1) [.string ⟨#[]⟩, .int .i64 0, .int .i64 0, .slice none 0 0, .slice none 0 0, .slice none 0 0, .slice none 0 0] w4 0
   obtain ⟨WR, hW4⟩ : ∃ W, W = w4.setCells (w.heap.size + 1) 0 (#[.string ⟨#[]⟩, .int .i64 0, .int .i64 0, .slice none 0 0, .slice none 0 0, .slice none 0 0, .slice none 0 0] : Array Value).toList := ⟨_, rfl⟩
   rw [show ([.string ⟨#[]⟩, .int .i64 0, .int .i64 0, .slice none 0 0, .slice none 0 0, .slice none 0 0, .slice none 0 0] : List Value) = (#[.string ⟨#[]⟩, .int .i64 0, .int .i64 0, .slice none 0 0, .slice none 0 0, .slice none 0 0, .slice none 0 0] : Array Value).toList from rfl, ← hW4] at k4 hbw hgw
   have HL : Hid ((loadVar 27 ⟨(w.heap.size + 1), 0, none⟩).run Tryz.prog WR = .ok (.agg #[.string ⟨#[]⟩, .int .i64 0, .int .i64 0, .slice none 0 0, .slice none 0 0, .slice none 0 0, .slice none 0 0]) WR) := run_loadVar_at WR ⟨(w.heap.size + 1), 0, none⟩ 27 [.string ⟨#[]⟩, .int .i64 0, .int .i64 0, .slice none 0 0, .slice none 0 0, .slice none 0 0, .slice none 0 0] _ (fun j v hv => by rw [addr_add0, k4.cell j, List.getElem?_toArray]; exact hv) Tryz.underlying27 rfl (by kernel_rfl)
   have HBW := Lib.hid hbw
   clear k4 hbw hgw
   go_wp2_with (refine wpList_store_mid rfl 27 (.tmp 4) (.tmp 26) rfl ((w.heap.size + 1)) 0 #[.string ⟨#[]⟩, .int .i64 0, .int .i64 0, .slice none 0 0, .slice none 0 0, .slice none 0 0, .slice none 0 0] rfl rfl hth.out (by kernel_rfl) (by simp [Value.oneCell']) ?_; rw [← hW4]; clear hW4)
   exact bodyPost_ret (v := .tuple #[.agg #[.string ⟨#[]⟩, .int .i64 0, .int .i64 0, .slice none 0 0, .slice none 0 0, .slice none 0 0, .slice none 0 0], .int .i64 6]) (results_cell_tmp rfl rfl HL.out) rfl (tenPost_err HX.out (by decide) HBW.out)
  ·have HV := Lib.hid (HV.out.trans (if_neg hf))
   have hc := hFD.out (upL p) w4 HW4.out
   have kk := hKt.out w4 HW4.out
   obtain ⟨c0, c1, c2, c3, c4, c5, c6⟩ := (⟨kk.cell 0, kk.cell 1, kk.cell 2, kk.cell 3, kk.cell 4, kk.cell 5, kk.cell 6⟩ : _ ∧ _ ∧ _ ∧ _ ∧ _ ∧ _ ∧ _)
   simp only [List.getElem?_toArray, List.getElem?_cons_succ, List.getElem?_cons_zero] at c0 c1 c2 c3 c4 c5 c6
   clear kk
   go_wp2_with fail
   refine hc.mono ?_
   clear hc c0 c1 c2 c3 c4 c5 c6
   rintro e w5 ⟨rfl, hb⟩
   have HW5 := Lib.hid (HW4.out.trans (hb.mono HW4.out.size))
   clear hb
   obtain ⟨F2, hF2⟩ : ∃ F, F = findS sl (upL p) := ⟨_, rfl⟩
   rw [← hF2] at HV ⊢
   clear hF2 hf
   by_cases hf : F2 < 0
   ·have HX := Lib.hid (HV.out.trans (if_pos hf))
    clear HV
    have KZ := Lib.hid (hKz.out w5 HW5.out)
    have HB := Lib.hid (hBW.out w5 HW5.out)
    have hth := Lib.hid (KZ.out.there 7 (by decide))
    have k4 := Blk.setCells (g := (w.heap.size + 1)) [.string ⟨#[]⟩, .int .i64 0, .int .i64 0, .slice none 0 0, .slice none 0 0, .slice none 0 0, .slice none 0 0] w5 [] [.string ⟨#[]⟩, .int .i64 0, .int .i64 0, .slice none 0 0, .slice none 0 0, .slice none 0 0, .slice none 0 0] rfl KZ.out
    simp only [List.length_nil, List.nil_append] at k4
    have hbw := below_setCells (g := (w.heap.size + 1)) (by omega) [.string ⟨#[]⟩, .int .i64 0, .int .i64 0, .slice none 0 0, .slice none 0 0, .slice none 0 0, .slice none 0 0] w5 0 HB.out
    have hgw := grown_cellsS (w.heap.size + 1) [.string ⟨#[]⟩, .int .i64 0, .int .i64 0, .slice none 0 0, .slice none 0 0, .slice none 0 0, .slice none 0 0] w5 0
    obtain ⟨WR, hW4⟩ : ∃ W, W = w5.setCells (w.heap.size + 1) 0 (#[.string ⟨#[]⟩, .int .i64 0, .int .i64 0, .slice none 0 0, .slice none 0 0, .slice none 0 0, .slice none 0 0] : Array Value).toList := ⟨_, rfl⟩
    rw [show ([.string ⟨#[]⟩, .int .i64 0, .int .i64 0, .slice none 0 0, .slice none 0 0, .slice none 0 0, .slice none 0 0] : List Value) = (#[.string ⟨#[]⟩, .int .i64 0, .int .i64 0, .slice none 0 0, .slice none 0 0, .slice none 0 0, .slice none 0 0] : Array Value).toList from rfl, ← hW4] at k4 hbw hgw
    have HL : Hid ((loadVar 27 ⟨(w.heap.size + 1), 0, none⟩).run Tryz.prog WR = .ok (.agg #[.string ⟨#[]⟩, .int .i64 0, .int .i64 0, .slice none 0 0, .slice none 0 0, .slice none 0 0, .slice none 0 0]) WR) := run_loadVar_at WR ⟨(w.heap.size + 1), 0, none⟩ 27 [.string ⟨#[]⟩, .int .i64 0, .int .i64 0, .slice none 0 0, .slice none 0 0, .slice none 0 0, .slice none 0 0] _ (fun j v hv => by rw [addr_add0, k4.cell j, List.getElem?_toArray]; exact hv) Tryz.underlying27 rfl (by kernel_rfl)
    have HBW := Lib.hid hbw
    clear k4 hbw hgw
    go_wp2_with (refine wpList_store_mid rfl 27 (.tmp 4) (.tmp 32) rfl ((w.heap.size + 1)) 0 #[.string ⟨#[]⟩, .int .i64 0, .int .i64 0, .slice none 0 0, .slice none 0 0, .slice none 0 0, .slice none 0 0] rfl rfl hth.out (by kernel_rfl) (by simp [Value.oneCell']) ?_; rw [← hW4]; clear hW4)
    exact bodyPost_ret (v := .tuple #[.agg #[.string ⟨#[]⟩, .int .i64 0, .int .i64 0, .slice none 0 0, .slice none 0 0, .slice none 0 0, .slice none 0 0], .int .i64 71]) (results_cell_tmp rfl rfl HL.out) rfl (tenPost_err HX.out (by decide) HBW.out)
   ·have HV := Lib.hid (HV.out.trans (if_neg hf))
    by_cases hl : (sn : Int) = 32
    ·have HX := Lib.hid (HV.out.trans (if_pos (by have := HSL.out; show sl.length = 32; omega)))
     have hl1 : ((sn : Int) == 32) = true := by simpa using hl
     have kk := hKt.out w5 HW5.out
     obtain ⟨c0, c1, c2, c3, c4, c5, c6⟩ := (⟨kk.cell 0, kk.cell 1, kk.cell 2, kk.cell 3, kk.cell 4, kk.cell 5, kk.cell 6⟩ : _ ∧ _ ∧ _ ∧ _ ∧ _ ∧ _ ∧ _)
     simp only [List.getElem?_toArray, List.getElem?_cons_succ, List.getElem?_cons_zero] at c0 c1 c2 c3 c4 c5 c6
     clear kk
     clear HV
     have KZ := Lib.hid (hKz.out w5 HW5.out)
     have HB := Lib.hid (hBW.out w5 HW5.out)
     have hth := Lib.hid (KZ.out.there 7 (by decide))
     have k4 := Blk.setCells (g := (w.heap.size + 1)) [.string ⟨#[]⟩, .int .i64 0, .int .i64 0, .slice none 0 0, .slice none 0 0, .slice none 0 0, .slice none 0 0] w5 [] [.string ⟨#[]⟩, .int .i64 0, .int .i64 0, .slice none 0 0, .slice none 0 0, .slice none 0 0, .slice none 0 0] rfl KZ.out
     simp only [List.length_nil, List.nil_append] at k4
     have hbw := below_setCells (g := (w.heap.size + 1)) (by omega) [.string ⟨#[]⟩, .int .i64 0, .int .i64 0, .slice none 0 0, .slice none 0 0, .slice none 0 0, .slice none 0 0] w5 0 HB.out
     have hgw := grown_cellsS (w.heap.size + 1) [.string ⟨#[]⟩, .int .i64 0, .int .i64 0, .slice none 0 0, .slice none 0 0, .slice none 0 0, .slice none 0 0] w5 0
     obtain ⟨WR, hW4⟩ : ∃ W, W = w5.setCells (w.heap.size + 1) 0 (#[.string ⟨#[]⟩, .int .i64 0, .int .i64 0, .slice none 0 0, .slice none 0 0, .slice none 0 0, .slice none 0 0] : Array Value).toList := ⟨_, rfl⟩
     rw [show ([.string ⟨#[]⟩, .int .i64 0, .int .i64 0, .slice none 0 0, .slice none 0 0, .slice none 0 0, .slice none 0 0] : List Value) = (#[.string ⟨#[]⟩, .int .i64 0, .int .i64 0, .slice none 0 0, .slice none 0 0, .slice none 0 0, .slice none 0 0] : Array Value).toList from rfl, ← hW4] at k4 hbw hgw
     have HL : Hid ((loadVar 27 ⟨(w.heap.size + 1), 0, none⟩).run Tryz.prog WR = .ok (.agg #[.string ⟨#[]⟩, .int .i64 0, .int .i64 0, .slice none 0 0, .slice none 0 0, .slice none 0 0, .slice none 0 0]) WR) := run_loadVar_at WR ⟨(w.heap.size + 1), 0, none⟩ 27 [.string ⟨#[]⟩, .int .i64 0, .int .i64 0, .slice none 0 0, .slice none 0 0, .slice none 0 0, .slice none 0 0] _ (fun j v hv => by rw [addr_add0, k4.cell j, List.getElem?_toArray]; exact hv) Tryz.underlying27 rfl (by kernel_rfl)
     have HBW := Lib.hid hbw
     clear k4 hbw hgw
     go_wp2_with (refine wpList_store_mid rfl 27 (.tmp 4) (.tmp 38) rfl ((w.heap.size + 1)) 0 #[.string ⟨#[]⟩, .int .i64 0, .int .i64 0, .slice none 0 0, .slice none 0 0, .slice none 0 0, .slice none 0 0] rfl rfl hth.out (by kernel_rfl) (by simp [Value.oneCell']) ?_; rw [← hW4]; clear hW4)
     exact bodyPost_ret (v := .tuple #[.agg #[.string ⟨#[]⟩, .int .i64 0, .int .i64 0, .slice none 0 0, .slice none 0 0, .slice none 0 0, .slice none 0 0], .int .i64 3]) (results_cell_tmp rfl rfl HL.out) rfl (tenPost_err HX.out (by decide) HBW.out)
    ·have HV := Lib.hid (HV.out.trans (if_neg (by have := HSL.out; show ¬ sl.length = 32; omega)))
     have hl1 : ((sn : Int) == 32) = false := by simpa using hl
     have hc := hWI.out HA0.out w5 HW5.out
     have kk := hKt.out w5 HW5.out
     obtain ⟨c0, c1, c2, c3, c4, c5, c6⟩ := (⟨kk.cell 0, kk.cell 1, kk.cell 2, kk.cell 3, kk.cell 4, kk.cell 5, kk.cell 6⟩ : _ ∧ _ ∧ _ ∧ _ ∧ _ ∧ _ ∧ _)
     simp only [List.getElem?_toArray, List.getElem?_cons_succ, List.getElem?_cons_zero] at c0 c1 c2 c3 c4 c5 c6
     clear kk
     go_wp2_with fail
     refine hc.mono ?_
     clear hc c0 c1 c2 c3 c4 c5 c6
     rintro e w6 ⟨y, rfl, ho, hy, hb⟩
     have HW6 := Lib.hid (HW5.out.trans (hb.mono HW5.out.size))
     clear hb
     have ho6 := ho.mono HW5.out.size
     have hc := hSE.out HA0.out y hy w6 ho6 HW6.out
     obtain ⟨⟨E, C2⟩, hV2⟩ : ∃ V2 : Int × TenC, V2 = (C.withS (set0C p)).settle := ⟨_, rfl⟩
     rw [← hV2] at hc
     have HX := Lib.hid (HV.out.trans hV2.symm)
     clear ho hy ho6 hV2
     obtain ⟨yv, hyv⟩ : ∃ v, v = y.val := ⟨_, rfl⟩
     rw [← hyv] at hc ⊢
     clear hyv
     go_wp2_with fail
     refine hc.mono ?_
     clear hc
     rintro e w7 ⟨v, rfl, hb, hcs⟩
     have HW7 := Lib.hid (HW6.out.trans (hb.mono HW6.out.size))
     clear hb
     rcases hcs with ⟨h1, rfl⟩ | ⟨h1, z, rfl, ho, hy⟩
     ·simp only at h1
      have HE := Lib.hid h1
      clear h1
      unfold ZEROT
      have KZ := Lib.hid (hKz.out w7 HW7.out)
      have HB := Lib.hid (hBW.out w7 HW7.out)
      have hth := Lib.hid (KZ.out.there 7 (by decide))
      have k4 := Blk.setCells (g := (w.heap.size + 1)) [.string ⟨#[]⟩, .int .i64 0, .int .i64 0, .slice none 0 0, .slice none 0 0, .slice none 0 0, .slice none 0 0] w7 [] [.string ⟨#[]⟩, .int .i64 0, .int .i64 0, .slice none 0 0, .slice none 0 0, .slice none 0 0, .slice none 0 0] rfl KZ.out
      simp only [List.length_nil, List.nil_append] at k4
      have hbw := below_setCells (g := (w.heap.size + 1)) (by omega) [.string ⟨#[]⟩, .int .i64 0, .int .i64 0, .slice none 0 0, .slice none 0 0, .slice none 0 0, .slice none 0 0] w7 0 HB.out
      have hgw := grown_cellsS (w.heap.size + 1) [.string ⟨#[]⟩, .int .i64 0, .int .i64 0, .slice none 0 0, .slice none 0 0, .slice none 0 0, .slice none 0 0] w7 0
      obtain ⟨WR, hW4⟩ : ∃ W, W = w7.setCells (w.heap.size + 1) 0 (#[.string ⟨#[]⟩, .int .i64 0, .int .i64 0, .slice none 0 0, .slice none 0 0, .slice none 0 0, .slice none 0 0] : Array Value).toList := ⟨_, rfl⟩
      rw [show ([.string ⟨#[]⟩, .int .i64 0, .int .i64 0, .slice none 0 0, .slice none 0 0, .slice none 0 0, .slice none 0 0] : List Value) = (#[.string ⟨#[]⟩, .int .i64 0, .int .i64 0, .slice none 0 0, .slice none 0 0, .slice none 0 0, .slice none 0 0] : Array Value).toList from rfl, ← hW4] at k4 hbw hgw
      have HL : Hid ((loadVar 27 ⟨(w.heap.size + 1), 0, none⟩).run Tryz.prog WR = .ok (.agg #[.string ⟨#[]⟩, .int .i64 0, .int .i64 0, .slice none 0 0, .slice none 0 0, .slice none 0 0, .slice none 0 0]) WR) := run_loadVar_at WR ⟨(w.heap.size + 1), 0, none⟩ 27 [.string ⟨#[]⟩, .int .i64 0, .int .i64 0, .slice none 0 0, .slice none 0 0, .slice none 0 0, .slice none 0 0] _ (fun j v hv => by rw [addr_add0, k4.cell j, List.getElem?_toArray]; exact hv) Tryz.underlying27 rfl (by kernel_rfl)
      have HBW := Lib.hid hbw
      clear k4 hbw hgw
      go_wp2_with (refine wpList_store_mid rfl 27 (.tmp 4) (.tmp 44) rfl ((w.heap.size + 1)) 0 #[.string ⟨#[]⟩, .int .i64 0, .int .i64 0, .slice none 0 0, .slice none 0 0, .slice none 0 0, .slice none 0 0] rfl rfl hth.out (by kernel_rfl) (by simp [Value.oneCell']) ?_; rw [← hW4]; clear hW4)
      exact bodyPost_ret (v := .tuple #[.agg #[.string ⟨#[]⟩, .int .i64 0, .int .i64 0, .slice none 0 0, .slice none 0 0, .slice none 0 0, .slice none 0 0], .int .i64 E]) (results_cell_tmp rfl rfl HL.out) rfl (tenPost_err HX.out HE.out HBW.out)
     ·simp only at h1
      subst h1
      have HO := Lib.hid (ho.mono (base' := w.heap.size) (by have := hSZ.out w6 HW6.out; omega))
      have HY := Lib.hid hy
      clear ho hy
      obtain ⟨mm, mq, mx, ⟨m1, m2, m3, ml⟩, ⟨n1, n2, n3, nl⟩, ⟨p1, p2, p3, pl⟩, ⟨q1, q2, q3, ql⟩⟩ := z
      simp only [TenR.val, TenR.cells, FS.val, strV]
      have KZ := Lib.hid (hKz.out w7 HW7.out)
      have HB := Lib.hid (hBW.out w7 HW7.out)
      have hth := Lib.hid (KZ.out.there 7 (by decide))
      have k4 := Blk.setCells (g := (w.heap.size + 1)) [.string ⟨mm.toArray⟩, .int .i64 mq, .int .i64 mx, .slice m1 m2 m3, .slice n1 n2 n3, .slice p1 p2 p3, .slice q1 q2 q3] w7 [] [.string ⟨#[]⟩, .int .i64 0, .int .i64 0, .slice none 0 0, .slice none 0 0, .slice none 0 0, .slice none 0 0] rfl KZ.out
      simp only [List.length_nil, List.nil_append] at k4
      have hbw := below_setCells (g := (w.heap.size + 1)) (by omega) [.string ⟨mm.toArray⟩, .int .i64 mq, .int .i64 mx, .slice m1 m2 m3, .slice n1 n2 n3, .slice p1 p2 p3, .slice q1 q2 q3] w7 0 HB.out
      have hgw := grown_cellsS (w.heap.size + 1) [.string ⟨mm.toArray⟩, .int .i64 mq, .int .i64 mx, .slice m1 m2 m3, .slice n1 n2 n3, .slice p1 p2 p3, .slice q1 q2 q3] w7 0
      obtain ⟨WR, hW4⟩ : ∃ W, W = w7.setCells (w.heap.size + 1) 0 (#[.string ⟨mm.toArray⟩, .int .i64 mq, .int .i64 mx, .slice m1 m2 m3, .slice n1 n2 n3, .slice p1 p2 p3, .slice q1 q2 q3] : Array Value).toList := ⟨_, rfl⟩
      rw [show ([.string ⟨mm.toArray⟩, .int .i64 mq, .int .i64 mx, .slice m1 m2 m3, .slice n1 n2 n3, .slice p1 p2 p3, .slice q1 q2 q3] : List Value) = (#[.string ⟨mm.toArray⟩, .int .i64 mq, .int .i64 mx, .slice m1 m2 m3, .slice n1 n2 n3, .slice p1 p2 p3, .slice q1 q2 q3] : Array Value).toList from rfl, ← hW4] at k4 hbw hgw
      have HL : Hid ((loadVar 27 ⟨(w.heap.size + 1), 0, none⟩).run Tryz.prog WR = .ok (.agg #[.string ⟨mm.toArray⟩, .int .i64 mq, .int .i64 mx, .slice m1 m2 m3, .slice n1 n2 n3, .slice p1 p2 p3, .slice q1 q2 q3]) WR) := run_loadVar_at WR ⟨(w.heap.size + 1), 0, none⟩ 27 [.string ⟨mm.toArray⟩, .int .i64 mq, .int .i64 mx, .slice m1 m2 m3, .slice n1 n2 n3, .slice p1 p2 p3, .slice q1 q2 q3] _ (fun j v hv => by rw [addr_add0, k4.cell j, List.getElem?_toArray]; exact hv) Tryz.underlying27 rfl (by kernel_rfl)
      have HBW := Lib.hid hbw
      have HOO := Lib.hid (TenO.keptT HO.out hgw KZ.out offT_ten)
      clear k4 hbw hgw
      go_wp2_with (refine wpList_store_mid rfl 27 (.tmp 4) (.tmp 44) rfl ((w.heap.size + 1)) 0 #[.string ⟨mm.toArray⟩, .int .i64 mq, .int .i64 mx, .slice m1 m2 m3, .slice n1 n2 n3, .slice p1 p2 p3, .slice q1 q2 q3] rfl rfl hth.out (by kernel_rfl) (by simp [Value.oneCell']) ?_; rw [← hW4]; clear hW4)
      exact bodyPost_ret (v := .tuple #[.agg #[.string ⟨mm.toArray⟩, .int .i64 mq, .int .i64 mx, .slice m1 m2 m3, .slice n1 n2 n3, .slice p1 p2 p3, .slice q1 q2 q3], .int .i64 0]) (results_cell_tmp rfl rfl HL.out) rfl (tenPost_ok HX.out HBW.out ⟨mm, mq, mx, ⟨m1, m2, m3, ml⟩, ⟨n1, n2, n3, nl⟩, ⟨p1, p2, p3, pl⟩, ⟨q1, q2, q3, ql⟩⟩ HOO.out HY.out)
 ·have HX := Lib.hid (HV.out.trans (if_pos (by decide)))
  clear HV hE0'
  have KZ := Lib.hid (hKz.out w2 HW2.out)
  have HB := Lib.hid (hBW.out w2 HW2.out)
  have hth := Lib.hid (KZ.out.there 7 (by decide))
  have k4 := Blk.setCells (g := (w.heap.size + 1)) [.string ⟨#[]⟩, .int .i64 0, .int .i64 0, .slice none 0 0, .slice none 0 0, .slice none 0 0, .slice none 0 0] w2 [] [.string ⟨#[]⟩, .int .i64 0, .int .i64 0, .slice none 0 0, .slice none 0 0, .slice none 0 0, .slice none 0 0] rfl KZ.out
  simp only [List.length_nil, List.nil_append] at k4
  have hbw := below_setCells (g := (w.heap.size + 1)) (by omega) [.string ⟨#[]⟩, .int .i64 0, .int .i64 0, .slice none 0 0, .slice none 0 0, .slice none 0 0, .slice none 0 0] w2 0 HB.out
  have hgw := grown_cellsS (w.heap.size + 1) [.string ⟨#[]⟩, .int .i64 0, .int .i64 0, .slice none 0 0, .slice none 0 0, .slice none 0 0, .slice none 0 0] w2 0
  obtain ⟨WR, hW4⟩ : ∃ W, W = w2.setCells (w.heap.size + 1) 0 (#[.string ⟨#[]⟩, .int .i64 0, .int .i64 0, .slice none 0 0, .slice none 0 0, .slice none 0 0, .slice none 0 0] : Array Value).toList := ⟨_, rfl⟩
  rw [show ([.string ⟨#[]⟩, .int .i64 0, .int .i64 0, .slice none 0 0, .slice none 0 0, .slice none 0 0, .slice none 0 0] : List Value) = (#[.string ⟨#[]⟩, .int .i64 0, .int .i64 0, .slice none 0 0, .slice none 0 0, .slice none 0 0, .slice none 0 0] : Array Value).toList from rfl, ← hW4] at k4 hbw hgw
  have HL : Hid ((loadVar 27 ⟨(w.heap.size + 1), 0, none⟩).run Tryz.prog WR = .ok (.agg #[.string ⟨#[]⟩, .int .i64 0, .int .i64 0, .slice none 0 0, .slice none 0 0, .slice none 0 0, .slice none 0 0]) WR) := run_loadVar_at WR ⟨(w.heap.size + 1), 0, none⟩ 27 [.string ⟨#[]⟩, .int .i64 0, .int .i64 0, .slice none 0 0, .slice none 0 0, .slice none 0 0, .slice none 0 0] _ (fun j v hv => by rw [addr_add0, k4.cell j, List.getElem?_toArray]; exact hv) Tryz.underlying27 rfl (by kernel_rfl)
  have HBW := Lib.hid hbw
  clear k4 hbw hgw
  go_wp2_with (refine wpList_store_mid rfl 27 (.tmp 4) (.tmp 14) rfl ((w.heap.size + 1)) 0 #[.string ⟨#[]⟩, .int .i64 0, .int .i64 0, .slice none 0 0, .slice none 0 0, .slice none 0 0, .slice none 0 0] rfl rfl hth.out (by kernel_rfl) (by simp [Value.oneCell']) ?_; rw [← hW4]; clear hW4)
  exact bodyPost_ret (v := .tuple #[.agg #[.string ⟨#[]⟩, .int .i64 0, .int .i64 0, .slice none 0 0, .slice none 0 0, .slice none 0 0, .slice none 0 0], .int .i64 9]) (results_cell_tmp rfl rfl HL.out) rfl (tenPost_err HX.out (by decide) HBW.out)
 ·have HX := Lib.hid (HV.out.trans (if_pos (by decide)))
  clear HV hE0'
  have KZ := Lib.hid (hKz.out w2 HW2.out)
  have HB := Lib.hid (hBW.out w2 HW2.out)
  have hth := Lib.hid (KZ.out.there 7 (by decide))
  have k4 := Blk.setCells (g := (w.heap.size + 1)) [.string ⟨#[]⟩, .int .i64 0, .int .i64 0, .slice none 0 0, .slice none 0 0, .slice none 0 0, .slice none 0 0] w2 [] [.string ⟨#[]⟩, .int .i64 0, .int .i64 0, .slice none 0 0, .slice none 0 0, .slice none 0 0, .slice none 0 0] rfl KZ.out
  simp only [List.length_nil, List.nil_append] at k4
  have hbw := below_setCells (g := (w.heap.size + 1)) (by omega) [.string ⟨#[]⟩, .int .i64 0, .int .i64 0, .slice none 0 0, .slice none 0 0, .slice none 0 0, .slice none 0 0] w2 0 HB.out
  have hgw := grown_cellsS (w.heap.size + 1) [.string ⟨#[]⟩, .int .i64 0, .int .i64 0, .slice none 0 0, .slice none 0 0, .slice none 0 0, .slice none 0 0] w2 0
  obtain ⟨WR, hW4⟩ : ∃ W, W = w2.setCells (w.heap.size + 1) 0 (#[.string ⟨#[]⟩, .int .i64 0, .int .i64 0, .slice none 0 0, .slice none 0 0, .slice none 0 0, .slice none 0 0] : Array Value).toList := ⟨_, rfl⟩
  rw [show ([.string ⟨#[]⟩, .int .i64 0, .int .i64 0, .slice none 0 0, .slice none 0 0, .slice none 0 0, .slice none 0 0] : List Value) = (#[.string ⟨#[]⟩, .int .i64 0, .int .i64 0, .slice none 0 0, .slice none 0 0, .slice none 0 0, .slice none 0 0] : Array Value).toList from rfl, ← hW4] at k4 hbw hgw
  have HL : Hid ((loadVar 27 ⟨(w.heap.size + 1), 0, none⟩).run Tryz.prog WR = .ok (.agg #[.string ⟨#[]⟩, .int .i64 0, .int .i64 0, .slice none 0 0, .slice none 0 0, .slice none 0 0, .slice none 0 0]) WR) := run_loadVar_at WR ⟨(w.heap.size + 1), 0, none⟩ 27 [.string ⟨#[]⟩, .int .i64 0, .int .i64 0, .slice none 0 0, .slice none 0 0, .slice none 0 0, .slice none 0 0] _ (fun j v hv => by rw [addr_add0, k4.cell j, List.getElem?_toArray]; exact hv) Tryz.underlying27 rfl (by kernel_rfl)
  have HBW := Lib.hid hbw
  clear k4 hbw hgw
  go_wp2_with (refine wpList_store_mid rfl 27 (.tmp 4) (.tmp 14) rfl ((w.heap.size + 1)) 0 #[.string ⟨#[]⟩, .int .i64 0, .int .i64 0, .slice none 0 0, .slice none 0 0, .slice none 0 0, .slice none 0 0] rfl rfl hth.out (by kernel_rfl) (by simp [Value.oneCell']) ?_; rw [← hW4]; clear hW4)
  exact bodyPost_ret (v := .tuple #[.agg #[.string ⟨#[]⟩, .int .i64 0, .int .i64 0, .slice none 0 0, .slice none 0 0, .slice none 0 0, .slice none 0 0], .int .i64 31]) (results_cell_tmp rfl rfl HL.out) rfl (tenPost_err HX.out (by decide) HBW.out)
end Go.Proofs.YteafdncnnamakaaGreatDoor

/-
 The page's New: the root alone.
-/
namespace Go.Proofs.YteafdncnnamakaaGreatDoor
open Go.RowKit

def new0C (q : Int) : TenC := ⟨[116], q, 1, [set0C []], [], [], []⟩
set_option maxRecDepth 100000 in
set_option maxHeartbeats 2000000 in
theorem rnew_any (q : Int) (h0 : 0 < q) (h1 : q ≤ 1099511627776) (w : World) :
  Calls Tryz.prog 49 #[.string ⟨#[116]⟩, .int .i64 q] w fun e w' => ∃ y : TenR, e = .returned (.tuple #[y.val, .int .i64 0]) ∧ TenO w' w.heap.size y ∧ y.con = new0C q ∧ Below w.heap.size w w' := by
 have hb := ((Below.refl w.heap.size w).alloc (Nat.le_refl _) (.cells #[.string ⟨#[]⟩, .int .i64 0, .int .i64 0, .slice none 0 0, .slice none 0 0, .slice none 0 0, .slice none 0 0] 27))
 have kz := Blk.new w 27 #[.string ⟨#[]⟩, .int .i64 0, .int .i64 0, .slice none 0 0, .slice none 0 0, .slice none 0 0, .slice none 0 0]
 have hsz : (w.alloc (.cells #[.string ⟨#[]⟩, .int .i64 0, .int .i64 0, .slice none 0 0, .slice none 0 0, .slice none 0 0, .slice none 0 0] 27)).heap.size = w.heap.size + 1 := by simp
 obtain ⟨W1, hW1⟩ : ∃ W, W = (w.alloc (.cells #[.string ⟨#[]⟩, .int .i64 0, .int .i64 0, .slice none 0 0, .slice none 0 0, .slice none 0 0, .slice none 0 0] 27)) := ⟨_, rfl⟩
 rw [← hW1] at hb hsz kz
 have hKz : Hid (∀ W, Below W1.heap.size W1 W → Blk W w.heap.size 27 #[.string ⟨#[]⟩, .int .i64 0, .int .i64 0, .slice none 0 0, .slice none 0 0, .slice none 0 0, .slice none 0 0]) := fun W h => kz.below h (by omega)
 have hBW : Hid (∀ W, Below W1.heap.size W1 W → Below w.heap.size w W) := fun W h => hb.trans (h.mono (by omega))
 have hSZ : Hid (∀ W, Below W1.heap.size W1 W → w.heap.size + 1 ≤ W.heap.size) := fun W h => by have := h.size; omega
 have hW0 : Hid (Below W1.heap.size W1 W1) := Below.refl _ _
 have hNM : Hid (∀ W, Below W1.heap.size W1 W → Calls Tryz.prog 53 #[.string ⟨#[116]⟩] W fun e w' => e = .returned (.bool true) ∧ Below W.heap.size W w') := fun W _ => by
  have h := refNameB_any [116] W (by decide)
  rw [show nameB [116] = true by decide +kernel] at h
  exact h
 have hAM : Hid (∀ W, Below W1.heap.size W1 W → Calls Tryz.prog 54 #[.int .i64 q, .int .i64 0] W fun e w' => e = .returned (.bool true) ∧ Below W.heap.size W w') := fun W _ => by
  have h := refAmountB_any q 0 W
  rw [show amt q 0 = true by unfold amt; simp; omega] at h
  exact h
 have hq0 : ¬ q = 0 := by omega
 clear hb hsz kz
 go_enter Tryz.func49, Tryz.ntmps49
 have hc := hNM.out  W1 hW0.out
 go_wp2_with fail
 rw [← hW1]
 clear hW1
 refine hc.mono ?_
 clear hc 
 rintro e w2 ⟨rfl, hb⟩
 have HW2 := Lib.hid (hW0.out.trans (hb.mono hW0.out.size))
 clear hb
 have hc := hAM.out  w2 HW2.out
 go_wp2_with fail
 refine hc.mono ?_
 clear hc 
 rintro e w3 ⟨rfl, hb⟩
 have HW3 := Lib.hid (HW2.out.trans (hb.mono HW2.out.size))
 clear hb
 have kz := (hKz.out w3 HW3.out).alloc (.cells #[.string ⟨#[]⟩, .string ⟨#[]⟩, .slice none 0 0, .slice none 0 0, .slice none 0 0] 63)
 have kr := Blk.new w3 63 #[.string ⟨#[]⟩, .string ⟨#[]⟩, .slice none 0 0, .slice none 0 0, .slice none 0 0]
 have hb := (hBW.out w3 HW3.out).alloc (by have := hSZ.out w3 HW3.out; omega) (.cells #[.string ⟨#[]⟩, .string ⟨#[]⟩, .slice none 0 0, .slice none 0 0, .slice none 0 0] 63)
 have hszr : (w3.alloc (.cells #[.string ⟨#[]⟩, .string ⟨#[]⟩, .slice none 0 0, .slice none 0 0, .slice none 0 0] 63)).heap.size = w3.heap.size + 1 := by simp
 obtain ⟨W4, hW4'⟩ : ∃ W, W = w3.alloc (.cells #[.string ⟨#[]⟩, .string ⟨#[]⟩, .slice none 0 0, .slice none 0 0, .slice none 0 0] 63) := ⟨_, rfl⟩
 rw [← hW4'] at kz kr hb hszr
 have KZ := Lib.hid kz
 have HB := Lib.hid hb
 have HSZ3 := Lib.hid (show w.heap.size + 1 ≤ w3.heap.size ∧ W4.heap.size = w3.heap.size + 1 by have := hSZ.out w3 HW3.out; omega)
 have HO : Hid (TenO W4 w.heap.size ⟨[116], q, 1, ⟨some ⟨w3.heap.size, 0, none⟩, 1, 1, [⟨[], [], ⟨none, 0, 0, []⟩, ⟨none, 0, 0, []⟩, ⟨none, 0, 0, []⟩⟩]⟩, ⟨none, 0, 0, []⟩, ⟨none, 0, 0, []⟩, ⟨none, 0, 0, []⟩⟩) := by
  show TenO _ _ _
  refine ⟨⟨rfl, own_of_row (cap := 1) (cur := [.string ⟨#[]⟩, .string ⟨#[]⟩, .slice none 0 0, .slice none 0 0, .slice none 0 0]) kr (by have := HSZ3.out; omega) (Nat.le_refl _) (by decide) rfl rfl⟩, fun y hy => ?_, ⟨rfl, rfl, .inl ⟨rfl, rfl⟩⟩, ⟨rfl, rfl, .inl ⟨rfl, rfl⟩⟩, fun y hy => absurd hy (by simp), ⟨rfl, rfl, .inl ⟨rfl, rfl⟩⟩⟩
  rw [List.mem_singleton] at hy
  subst hy
  exact ⟨⟨rfl, rfl, .inl ⟨rfl, rfl⟩⟩, ⟨rfl, rfl, .inl ⟨rfl, rfl⟩⟩, fun y hy => absurd hy (by simp), ⟨rfl, rfl, .inl ⟨rfl, rfl⟩⟩⟩
 clear kz kr hb hszr
 go_upto_region 7 with (fail)
 have hth := Lib.hid (KZ.out.there 7 (by decide))
 have k4 := Blk.setCells (g := w.heap.size) [.string ⟨#[116]⟩, .int .i64 q, .int .i64 1, .slice (some ⟨w3.heap.size, 0, none⟩) 1 1, .slice none 0 0, .slice none 0 0, .slice none 0 0] W4 [] [.string ⟨#[]⟩, .int .i64 0, .int .i64 0, .slice none 0 0, .slice none 0 0, .slice none 0 0, .slice none 0 0] rfl KZ.out
 simp only [List.length_nil, List.nil_append] at k4
 have hbw := below_setCells (g := w.heap.size) (by omega) [.string ⟨#[116]⟩, .int .i64 q, .int .i64 1, .slice (some ⟨w3.heap.size, 0, none⟩) 1 1, .slice none 0 0, .slice none 0 0, .slice none 0 0] W4 0 HB.out
 have hgw := grown_cellsS w.heap.size [.string ⟨#[116]⟩, .int .i64 q, .int .i64 1, .slice (some ⟨w3.heap.size, 0, none⟩) 1 1, .slice none 0 0, .slice none 0 0, .slice none 0 0] W4 0
 obtain ⟨WR, hW4⟩ : ∃ W, W = W4.setCells w.heap.size 0 (#[.string ⟨#[116]⟩, .int .i64 q, .int .i64 1, .slice (some ⟨w3.heap.size, 0, none⟩) 1 1, .slice none 0 0, .slice none 0 0, .slice none 0 0] : Array Value).toList := ⟨_, rfl⟩
 rw [show ([.string ⟨#[116]⟩, .int .i64 q, .int .i64 1, .slice (some ⟨w3.heap.size, 0, none⟩) 1 1, .slice none 0 0, .slice none 0 0, .slice none 0 0] : List Value) = (#[.string ⟨#[116]⟩, .int .i64 q, .int .i64 1, .slice (some ⟨w3.heap.size, 0, none⟩) 1 1, .slice none 0 0, .slice none 0 0, .slice none 0 0] : Array Value).toList from rfl, ← hW4] at k4 hbw hgw
 have HL : Hid ((loadVar 27 ⟨w.heap.size, 0, none⟩).run Tryz.prog WR = .ok (.agg #[.string ⟨#[116]⟩, .int .i64 q, .int .i64 1, .slice (some ⟨w3.heap.size, 0, none⟩) 1 1, .slice none 0 0, .slice none 0 0, .slice none 0 0]) WR) := run_loadVar_at WR ⟨w.heap.size, 0, none⟩ 27 [.string ⟨#[116]⟩, .int .i64 q, .int .i64 1, .slice (some ⟨w3.heap.size, 0, none⟩) 1 1, .slice none 0 0, .slice none 0 0, .slice none 0 0] _ (fun j v hv => by rw [addr_add0, k4.cell j, List.getElem?_toArray]; exact hv) Tryz.underlying27 rfl (by kernel_rfl)
 have HBW := Lib.hid hbw
 have HOO := Lib.hid (TenO.keptT HO.out hgw KZ.out offT_ten)
 clear k4 hbw hgw
 go_wp2_with ((try rw [← hW4']); refine wpList_store_mid rfl 27 (.tmp 4) (.tmp 24) rfl (w.heap.size) 0 #[.string ⟨#[116]⟩, .int .i64 q, .int .i64 1, .slice (some ⟨w3.heap.size, 0, none⟩) 1 1, .slice none 0 0, .slice none 0 0, .slice none 0 0] rfl rfl hth.out (by kernel_rfl) (by simp [Value.oneCell']) ?_; rw [← hW4]; clear hW4)
 exact bodyPost_ret (v := .tuple #[.agg #[.string ⟨#[116]⟩, .int .i64 q, .int .i64 1, .slice (some ⟨w3.heap.size, 0, none⟩) 1 1, .slice none 0 0, .slice none 0 0, .slice none 0 0], .int .i64 0]) (results_cell_tmp rfl rfl HL.out) rfl ⟨⟨[116], q, 1, ⟨some ⟨w3.heap.size, 0, none⟩, 1, 1, [⟨[], [], ⟨none, 0, 0, []⟩, ⟨none, 0, 0, []⟩, ⟨none, 0, 0, []⟩⟩]⟩, ⟨none, 0, 0, []⟩, ⟨none, 0, 0, []⟩, ⟨none, 0, 0, []⟩⟩, rfl, HOO.out, rfl, HBW.out⟩
end Go.Proofs.YteafdncnnamakaaGreatDoor
