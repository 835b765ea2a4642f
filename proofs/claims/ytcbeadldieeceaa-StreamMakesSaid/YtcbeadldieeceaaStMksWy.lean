/-
  The law StreamMakes, walked.
-/
import Derived.Test.YtcbeadldieeceaaZ24
import Derived.Test.YtcbeadldieeceaaStMkAy
import Derived.Test.YtcbeadldieeceaaStRefy
import Derived.Test.YtcbeadldieeceaaZ5
namespace Go.Proofs.Ytcbeadldieeceaa
open Go.RowKit

theorem refmake_any (x y : SpR) (full : Bool) (w : World) (hx : x.rd w w.heap.size) (hy : y.rd w w.heap.size) (sx : x.sz) (sy : y.sz) :
    Calls Try.prog 8 #[.agg x.cells, .agg y.cells, .bool full] w (MakePost w (baseL full x) y.body.l (rc0 full x y) (full || decide (x.gd < y.gd))) := by
  obtain ⟨fn, fg, ⟨A1, n1, c1, a⟩, ft, ⟨A3, n3, c3, o⟩⟩ := x
  obtain ⟨tn, tg, ⟨A2, n2, c2, b⟩, tt, ⟨A4, n4, c4, p⟩⟩ := y
  cases full with
  | true => exact refmake_full fn tn fg tg a b p ft tt n1 n2 n3 n4 c1 c2 c3 c4 A1 A2 A3 A4 hx.bn hy.bn hy.on sy.body sy.own sy.ps sy.nm w hx.body hy.body hy.own
  | false => exact refmake_from fn tn fg tg a b p ft tt n1 n2 n3 n4 c1 c2 c3 c4 A1 A2 A3 A4 hx.bn hy.bn hy.on sx.body sy.body sy.own sy.ps sy.nm w hx.body hy.body hy.own
/-- what is made, as a text -/
theorem made_text {w w' : World} {E : Int} {v : Value} {S : BS} (h : if E = 0 then w'.ownsRow w.heap.size 5 1 v S.length (bts S) else v = .slice none 0 0) :
    ∃ (T : BS) (A : Option Addr) (n c : Nat), T = (if E = 0 then S else []) ∧ v = .slice A n c ∧ n = T.length ∧ Reads w' w'.heap.size 1 A n (bts T) := by
  by_cases hE : E = 0
  · rw [if_pos hE] at h
    obtain ⟨A, c, hv, _, _, hr⟩ := own_form h
    exact ⟨S, A, S.length, c, by rw [if_pos hE], hv, rfl, hr⟩
  · rw [if_neg hE] at h
    exact ⟨[], none, 0, 0, by rw [if_neg hE], h, rfl, Reads.none_⟩
set_option maxRecDepth 100000 in
set_option maxHeartbeats 4000000 in
theorem streamMakes_any (x y : SpR) (full : Bool) (w : World) (hx : x.rd w w.heap.size) (hy : y.rd w w.heap.size) (sx : x.sz) (sy : y.sz) :
    LawCalls Try.prog 3 #[.agg x.cells, .agg y.cells, .bool full] w := by
  have hmk := fun W (hb : Below w.heap.size w W) => make_any x y full W (hx.below hb) (hy.below hb) sx sy
  have hrf := fun W (hb : Below w.heap.size w W) => refmake_any x y full W (hx.below hb) (hy.below hb) sx sy
  unfold MakePost at hmk hrf
  obtain ⟨S, hS⟩ : ∃ S, S = makeS (baseL full x) y.body.l (rc0 full x y) := ⟨_, rfl⟩
  obtain ⟨E, hE⟩ : ∃ E, E = makeE (baseL full x) y.body.l (rc0 full x y) (full || decide (x.gd < y.gd)) := ⟨_, rfl⟩
  rw [← hS, ← hE] at hmk hrf
  obtain ⟨fn, fg, ⟨A1, n1, c1, a⟩, ft, ⟨A3, n3, c3, o⟩⟩ := x
  obtain ⟨tn, tg, ⟨A2, n2, c2, b⟩, tt, ⟨A4, n4, c4, p⟩⟩ := y
  have HMK : Hid (∀ W, Below w.heap.size w W → Calls Try.prog 7 #[.agg #[.string ⟨fn.toArray⟩, .int .i64 fg, .slice A1 n1 c1, ft, .slice A3 n3 c3], .agg #[.string ⟨tn.toArray⟩, .int .i64 tg, .slice A2 n2 c2, tt, .slice A4 n4 c4], .bool full] W fun e w' => ∃ v, e = .returned (.tuple #[v, .int .i64 E]) ∧ (if E = 0 then w'.ownsRow W.heap.size 5 1 v S.length (bts S) else v = .slice none 0 0) ∧ Below W.heap.size W w') := hmk
  have HRF : Hid (∀ W, Below w.heap.size w W → Calls Try.prog 8 #[.agg #[.string ⟨fn.toArray⟩, .int .i64 fg, .slice A1 n1 c1, ft, .slice A3 n3 c3], .agg #[.string ⟨tn.toArray⟩, .int .i64 tg, .slice A2 n2 c2, tt, .slice A4 n4 c4], .bool full] W fun e w' => ∃ v, e = .returned (.tuple #[v, .int .i64 E]) ∧ (if E = 0 then w'.ownsRow W.heap.size 5 1 v S.length (bts S) else v = .slice none 0 0) ∧ Below W.heap.size W w') := hrf
  clear hmk hrf hS hE hx hy sx sy
  unfold LawCalls
  show Calls Try.prog 3 #[.agg #[.string ⟨fn.toArray⟩, .int .i64 fg, .slice A1 n1 c1, ft, .slice A3 n3 c3], .agg #[.string ⟨tn.toArray⟩, .int .i64 tg, .slice A2 n2 c2, tt, .slice A4 n4 c4], .bool full] w _
  obtain ⟨g, hg⟩ : ∃ g, g = w.heap.size := ⟨_, rfl⟩
  obtain ⟨W0, hW0⟩ : ∃ W, W = ((w.alloc (.cells #[.string ⟨fn.toArray⟩, .int .i64 fg, .slice A1 n1 c1, ft, .slice A3 n3 c3] 26)).alloc (.cells #[.string ⟨tn.toArray⟩, .int .i64 tg, .slice A2 n2 c2, tt, .slice A4 n4 c4] 26)) := ⟨_, rfl⟩
  have kF : Blk W0 g 26 #[.string ⟨fn.toArray⟩, .int .i64 fg, .slice A1 n1 c1, ft, .slice A3 n3 c3] := by rw [hW0, hg]; exact (Blk.new w _ _).alloc _
  have kT : Blk W0 (g + 1) 26 #[.string ⟨tn.toArray⟩, .int .i64 tg, .slice A2 n2 c2, tt, .slice A4 n4 c4] := by
    rw [hW0, hg]
    have := Blk.new (w.alloc (.cells #[.string ⟨fn.toArray⟩, .int .i64 fg, .slice A1 n1 c1, ft, .slice A3 n3 c3] 26)) 26 #[.string ⟨tn.toArray⟩, .int .i64 tg, .slice A2 n2 c2, tt, .slice A4 n4 c4]
    simp at this
    exact this
  have hb0 : Below w.heap.size w W0 := by rw [hW0]; exact ((Below.refl _ _).alloc (Nat.le_refl _) _).alloc (by simp) _
  have HB := Lib.hid hb0
  have HKF := Lib.hid kF
  have HKT := Lib.hid kT
  clear kF kT hb0
  go_enter Try.func3, Try.ntmps3
  go_upto_region 1 with (fail)
  rw [← hg, ← hW0]
  clear hW0 hg
  obtain ⟨f0, f1, f2, f3, f4⟩ := blk5 HKF.out
  obtain ⟨t0, t1, t2, t3, t4⟩ := blk5 HKT.out
  go_wp2_with fail
  refine (HMK.out W0 HB.out).mono ?_
  clear HMK f0 f1 f2 f3 f4 t0 t1 t2 t3 t4
  rintro e w1 ⟨v, rfl, hv, hb1⟩
  obtain ⟨T, A5, n5, c5, hT, rfl, hn5, hr5⟩ := made_text hv
  obtain ⟨f0, f1, f2, f3, f4⟩ := blk5 (HKF.out.below hb1 HKF.out.lt)
  obtain ⟨t0, t1, t2, t3, t4⟩ := blk5 (HKT.out.below hb1 HKT.out.lt)
  have HB1 := Lib.hid (HB.out.trans (hb1.mono HB.out.size))
  have HT := Lib.hid hT
  have HN5 := Lib.hid hn5
  have HR5 := Lib.hid hr5
  clear hv hb1 hT hn5 hr5
  go_wp2_with fail
  refine (HRF.out w1 HB1.out).mono ?_
  clear HRF f0 f1 f2 f3 f4 t0 t1 t2 t3 t4
  rintro e w2 ⟨v, rfl, hv, hb2⟩
  obtain ⟨T2, A6, n6, c6, hT2, rfl, hn6, hr6⟩ := made_text hv
  obtain rfl : T2 = T := hT2.trans HT.out.symm
  have HB2 := Lib.hid (HB1.out.trans (hb2.mono HB1.out.size))
  have e1 := str_of (P := Try.prog) (c := c5) (HR5.out.below hb2) HN5.out (src := 27) (dst := 9) Try.underlying27 Try.underlying5 Try.underlying9
  have e2 := str_of (P := Try.prog) (c := c6) hr6 hn6 (src := 27) (dst := 9) Try.underlying27 Try.underlying5 Try.underlying9
  clear hv hb2 hT2 hn6 hr6 HT HN5 HR5
  go_wp2_with fail
  refine (num_any _ _).mono ?_
  rintro e w5 ⟨rfl, hw5⟩
  rw [hw5]
  clear hw5 w5
  go_wp2_with fail
  refine (alive_any _).mono ?_
  rintro e w5 ⟨rfl, hb5⟩
  have HB5 := Lib.hid (HB2.out.trans (hb5.mono HB2.out.size))
  clear hb5
  go_wp2_with fail
  go_ret
  exact ⟨rfl, HB5.out⟩
end Go.Proofs.Ytcbeadldieeceaa
