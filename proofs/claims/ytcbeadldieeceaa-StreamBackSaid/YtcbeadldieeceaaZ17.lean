/-
  stream.Make, by its contract. (mkstmake.py)
-/
import Derived.WalkSmall
import Derived.Defers
import Derived.Recover
import Derived.Test.YtcbeadldieeceaaZ16
namespace Go.Proofs.Ytcbeadldieeceaa
open Go.RowKit

def MakePost (w : World) (a b : BL) (r0 : Rc) (ok : Bool) (e : Ending) (w' : World) : Prop :=
  ∃ v, e = .returned (.tuple #[v, .int .i64 (makeE a b r0 ok)]) ∧ (if makeE a b r0 ok = 0 then w'.ownsRow w.heap.size 5 1 v (makeS a b r0).length (bts (makeS a b r0)) else v = .slice none 0 0) ∧ Below w.heap.size w w'
theorem blk5 {w : World} {g : Nat} {t : TypeId} {a b c d e : Value} (h : Blk w g t #[a, b, c, d, e]) :
    w.cell? ⟨g, 0, none⟩ = some a ∧ w.cell? ⟨g, 1, none⟩ = some b ∧ w.cell? ⟨g, 2, none⟩ = some c ∧ w.cell? ⟨g, 3, none⟩ = some d ∧ w.cell? ⟨g, 4, none⟩ = some e :=
  ⟨by simpa using h.cell 0, by simpa using h.cell 1, by simpa using h.cell 2, by simpa using h.cell 3, by simpa using h.cell 4⟩
theorem mk1_ok (g : Nat) (ps : Addr) (u : FrameMode) (w : World) (hc : w.cell? ⟨g, 0, none⟩ = some (.int .i64 0)) :
    CallsD Try.prog 19 #[.pointer (some ⟨g, 0, none⟩), .pointer (some ps)] u w fun en u' w' => u' = u ∧ (en = .returned (.tuple #[]) ∧ w' = w) := by
  go_enter_d Try.func19, Try.ntmps19
  go_wp2_with fail
  go_end0
  exact ⟨rfl, rfl⟩
theorem mk1_bad (g q : Nat) (e : Int) (he : e ≠ 0) (v : Value) (u : FrameMode) (w : World) (hc : w.cell? ⟨g, 0, none⟩ = some (.int .i64 e)) (hk : Blk w q 27 #[v]) :
    CallsD Try.prog 19 #[.pointer (some ⟨g, 0, none⟩), .pointer (some ⟨q, 0, none⟩)] u w fun en u' w' => u' = u ∧ (en = .returned (.tuple #[]) ∧ w' = w.setCell ⟨q, 0, none⟩ (.slice none 0 0)) := by
  have he1 : (e != 0) = true := by simpa using he
  have q0 := hk.cell 0
  simp only [List.getElem?_toArray, List.getElem?_cons_zero] at q0
  have f0 := hk.frozen 0
  go_enter_d Try.func19, Try.ntmps19
  go_wp2_with fail
  go_end0
  exact ⟨rfl, rfl⟩
set_option maxRecDepth 100000 in
set_option maxHeartbeats 8000000 in
theorem make_full (fn tn : BS) (fg tg : Int) (a b : BL) (p : PL) (ft tt : Value) (n1 n2 n3 n4 c1 c2 c3 c4 : Nat) (A1 A2 A3 A4 : Option Addr) (h1 : n1 = a.length) (h2 : n2 = b.length) (h4 : n4 = p.length) (hc2 : n2 ≤ c2)
    (hs2 : n2 ≤ 6000000000000) (hs4 : n4 ≤ 5000000000000) (hps : strOk p) (w : World) (hr1 : Reads w w.heap.size 2 A1 n1 (bcells a)) (hr2 : Reads w w.heap.size 2 A2 n2 (bcells b)) (hr4 : Reads w w.heap.size 2 A4 n4 (pcells p)) :
    Calls Try.prog 7 #[.agg #[.string ⟨fn.toArray⟩, .int .i64 fg, .slice A1 n1 c1, ft, .slice A3 n3 c3], .agg #[.string ⟨tn.toArray⟩, .int .i64 tg, .slice A2 n2 c2, tt, .slice A4 n4 c4], .bool true] w (MakePost w [] b ⟨1, tn, 0, tg, p, 0, 0, [], Sm0⟩ true) := by
  have hmf : ∀ (fn : Fn) (first cap : Array Value) (w : World), (Instr.makeFunc fn first cap).run Try.prog w = .ok (.func fn first cap) w := fun _ _ _ _ => rfl
  obtain ⟨r0, hr0⟩ : ∃ r, r = (⟨1, tn, 0, tg, p, 0, 0, [], Sm0⟩ : Rc) := ⟨_, rfl⟩
  rw [← hr0]
  have HRV : Hid (rcV r0 (.slice A4 n4 c4) = .agg #[.int .i64 1, .string ⟨tn.toArray⟩, .int .i64 0, .int .i64 tg, .slice A4 n4 c4, .int .i64 0, .int .i64 0, .string ⟨#[]⟩, .int .u64 0, .int .u64 0, .int .u64 0, .int .u64 0]) := by show _ = _; rw [hr0]; rfl
  have HRO : Hid (r0.own = p) := by show _ = _; rw [hr0]
  have HR1 := Lib.hid hr1
  have HR2 := Lib.hid hr2
  have HR4 := Lib.hid hr4
  have HN1 := Lib.hid h1
  have HN2 := Lib.hid h2
  have HN4 := Lib.hid h4
  have HPS := Lib.hid hps
  obtain ⟨g, hg⟩ : ∃ g, g = w.heap.size := ⟨_, rfl⟩
  have HG := Lib.hid hg
  obtain ⟨W0, hW0⟩ : ∃ W, W = (((w.alloc (.cells #[.string ⟨fn.toArray⟩, .int .i64 fg, .slice A1 n1 c1, ft, .slice A3 n3 c3] 26)).alloc (.cells #[.string ⟨tn.toArray⟩, .int .i64 tg, .slice A2 n2 c2, tt, .slice A4 n4 c4] 26)).alloc (.cells #[.slice none 0 0] 27)).alloc (.cells #[.int .i64 0] 28) := ⟨_, rfl⟩
  have kF : Blk W0 g 26 #[.string ⟨fn.toArray⟩, .int .i64 fg, .slice A1 n1 c1, ft, .slice A3 n3 c3] := by rw [hW0, hg]; exact (((Blk.new w _ _).alloc _).alloc _).alloc _
  have kT : Blk W0 (g + 1) 26 #[.string ⟨tn.toArray⟩, .int .i64 tg, .slice A2 n2 c2, tt, .slice A4 n4 c4] := by
    rw [hW0, hg]
    have := Blk.new (w.alloc (.cells #[.string ⟨fn.toArray⟩, .int .i64 fg, .slice A1 n1 c1, ft, .slice A3 n3 c3] 26)) 26 #[.string ⟨tn.toArray⟩, .int .i64 tg, .slice A2 n2 c2, tt, .slice A4 n4 c4]
    simp at this
    exact (this.alloc _).alloc _
  have kR : Blk W0 (g + 1 + 1) 27 #[.slice none 0 0] := by
    rw [hW0, hg]
    have := Blk.new ((w.alloc (.cells #[.string ⟨fn.toArray⟩, .int .i64 fg, .slice A1 n1 c1, ft, .slice A3 n3 c3] 26)).alloc (.cells #[.string ⟨tn.toArray⟩, .int .i64 tg, .slice A2 n2 c2, tt, .slice A4 n4 c4] 26)) 27 #[.slice none 0 0]
    simp at this
    exact this.alloc _
  have kE : Blk W0 (g + 1 + 1 + 1) 28 #[.int .i64 0] := by
    rw [hW0, hg]
    have := Blk.new (((w.alloc (.cells #[.string ⟨fn.toArray⟩, .int .i64 fg, .slice A1 n1 c1, ft, .slice A3 n3 c3] 26)).alloc (.cells #[.string ⟨tn.toArray⟩, .int .i64 tg, .slice A2 n2 c2, tt, .slice A4 n4 c4] 26)).alloc (.cells #[.slice none 0 0] 27)) 28 #[.int .i64 0]
    simp at this
    exact this
  have hb0 : Below w.heap.size w W0 := by rw [hW0]; exact (((((Below.refl _ _).alloc (Nat.le_refl _) _).alloc (by simp) _).alloc (by simp; omega) _).alloc (by simp; omega) _)
  have HKF := Lib.hid kF
  have HKT := Lib.hid kT
  have HKR := Lib.hid kR
  have HKE := Lib.hid kE
  have HB := Lib.hid hb0
  clear kF kT kR kE hb0 hr0 hr1 hr2 hr4 h1 h2 h4 hps
  go_enter_defers Try.func7, Try.ntmps7
  obtain ⟨f0, f1, f2, f3, f4⟩ := blk5 HKF.out
  obtain ⟨t0, t1, t2, t3, t4⟩ := blk5 HKT.out
  have z0 := HKR.out.cell 0
  have z1 := HKE.out.cell 0
  simp only [List.getElem?_toArray, List.getElem?_cons_zero] at z0 z1
  have zf0 := HKR.out.frozen 0
  have zf1 := HKE.out.frozen 0
  go_wp2_with fail
  rw [← hW0, ← hg]
  clear hW0 hg
  go_region
  go_wp2_with fail
  refine (checkBk_any [] 0 rfl none 0 _ _ Reads.none_ (Nat.le_refl _) (by omega)).mono ?_
  rintro e w1 ⟨rfl, hb1⟩
  replace hb1 := ((Below.refl W0.heap.size W0).drew).trans hb1
  replace HKF := Lib.hid (HKF.out.below hb1 HKF.out.lt)
  replace HKT := Lib.hid (HKT.out.below hb1 HKT.out.lt)
  replace HKR := Lib.hid (HKR.out.below hb1 HKR.out.lt)
  replace HKE := Lib.hid (HKE.out.below hb1 HKE.out.lt)
  replace HB := Lib.hid (HB.out.trans (hb1.mono HB.out.size))
  have hz0 : okE [] = 0 := rfl
  rw [hz0]
  clear hb1 f0 f1 f2 f3 f4 t0 t1 t2 t3 t4 z0 z1 zf0 zf1
  obtain ⟨f0, f1, f2, f3, f4⟩ := blk5 HKF.out
  obtain ⟨t0, t1, t2, t3, t4⟩ := blk5 HKT.out
  have z0 := HKR.out.cell 0
  have z1 := HKE.out.cell 0
  simp only [List.getElem?_toArray, List.getElem?_cons_zero] at z0 z1
  have zf0 := HKR.out.frozen 0
  have zf1 := HKE.out.frozen 0
  go_wp2_with fail
  clear f0 f1 f2 f3 f4 t0 t1 t2 t3 t4 z0 z1 zf0 zf1
  have HS1 : Hid (g + 1 + 1 + 1 < w1.heap.size) := HKE.out.lt
  refine (bkDiff_any [] b 0 n2 rfl HN2.out none A2 0 c2 w1 Reads.none_ ((HR2.out.below HB.out).more HB.out.size) (Nat.le_refl _) hc2 (by omega) hs2).mono ?_
  rintro e w2 ⟨v, rfl, hown, hb2⟩
  replace HKF := Lib.hid (HKF.out.below hb2 HKF.out.lt)
  replace HKT := Lib.hid (HKT.out.below hb2 HKT.out.lt)
  replace HKR := Lib.hid (HKR.out.below hb2 HKR.out.lt)
  replace HKE := Lib.hid (HKE.out.below hb2 HKE.out.lt)
  replace HB := Lib.hid (HB.out.trans (hb2.mono HB.out.size))
  have HO := Lib.hid hown
  clear hown hb2
  obtain ⟨E, hE⟩ : ∃ E, E = diffE [] b := ⟨_, rfl⟩
  rw [← hE]
  have HE := Lib.hid hE
  clear hE
  obtain ⟨f0, f1, f2, f3, f4⟩ := blk5 HKF.out
  obtain ⟨t0, t1, t2, t3, t4⟩ := blk5 HKT.out
  have z0 := HKR.out.cell 0
  have z1 := HKE.out.cell 0
  simp only [List.getElem?_toArray, List.getElem?_cons_zero] at z0 z1
  have zf0 := HKR.out.frozen 0
  have zf1 := HKE.out.frozen 0
  by_cases hE0 : E ≠ 0
  · have hE1 : (E != 0) = true := by simpa using hE0
    have HE0 := Lib.hid hE0
    clear hE0
    go_wp2_with fail
    go_region
    go_wp2_with fail
    have kE := (((HKE.out.set_ 0 (.int .i64 E)).far (p := ⟨g + 1 + 1, 0, none⟩) (by simp) (.slice none 0 0)).set_ 0 (.int .i64 E)).drew
    have kR := (((HKR.out.far (p := ⟨g + 1 + 1 + 1, 0, none⟩) (by simp) (.int .i64 E)).set_ 0 (.slice none 0 0)).far (p := ⟨g + 1 + 1 + 1, 0, none⟩) (by simp) (.int .i64 E)).drew
    have hbb := (((HB.out.setCell (p := ⟨g + 1 + 1 + 1, 0, none⟩) (by have := HG.out; simp only; omega) (.int .i64 E)).setCell (p := ⟨g + 1 + 1, 0, none⟩) (by have := HG.out; simp only; omega) (.slice none 0 0)).setCell (p := ⟨g + 1 + 1 + 1, 0, none⟩) (by have := HG.out; simp only; omega) (.int .i64 E)).drew
    obtain ⟨WE, hWE⟩ : ∃ W, W = (((w2.setCell ⟨g + 1 + 1 + 1, 0, none⟩ (.int .i64 E)).setCell ⟨g + 1 + 1, 0, none⟩ (.slice none 0 0)).setCell ⟨g + 1 + 1 + 1, 0, none⟩ (.int .i64 E)).drew := ⟨_, rfl⟩
    rw [← hWE] at kE kR hbb ⊢
    clear hWE
    have q0 : WE.cell? ⟨g + 1 + 1, 0, none⟩ = some (.slice none 0 0) := kR.cell 0
    have q1 : WE.cell? ⟨g + 1 + 1 + 1, 0, none⟩ = some (.int .i64 E) := kE.cell 0
    have hme : makeE [] b r0 true = E := by unfold makeE; rw [if_pos (by rw [← HE.out]; exact HE0.out), ← HE.out]
    simp only [bodyPostD]
    simp [Leaves, results, Try.results7, go_sem, q0, q1]
    exact ⟨_, by rw [hme], by rw [hme, if_neg HE0.out], hbb⟩
  obtain rfl : E = 0 := by omega
  clear hE0
  obtain ⟨A5, c5, rfl, hc5, _, hr5⟩ := own_form HO.out
  obtain ⟨o, ho⟩ : ∃ o, o = diffO [] b := ⟨_, rfl⟩
  have HOK : Hid (∀ r ∈ o, recE (rcOf r) = 0) := by show ∀ r ∈ o, _; rw [ho]; exact diffO_ok _ _
  have HOL : Hid (o.length ≤ 1024) := by show _ ≤ _; rw [ho]; exact diffO_len _ _
  have HRL : Hid (recsL [] b r0 = r0 :: o.map rcOf) := by show _ = _; rw [ho]; rfl
  rw [← ho] at HO ⊢
  obtain ⟨n5, hn5⟩ : ∃ n, n = o.length := ⟨_, rfl⟩
  rw [← hn5] at HO ⊢
  have HN5 := Lib.hid hn5
  obtain ⟨q, hq⟩ : ∃ q, q = w2.heap.size := ⟨_, rfl⟩
  obtain ⟨W4, hW4⟩ : ∃ W, W = (w2.setCell ⟨g + 1 + 1 + 1, 0, none⟩ (.int .i64 0)).alloc (.cells #[.slice none 0 0, .int .u64 0, .int .u64 0, .int .u64 0, .int .u64 0] 59) := ⟨_, rfl⟩
  have hsz2 : (w2.setCell ⟨g + 1 + 1 + 1, 0, none⟩ (.int .i64 0)).heap.size = w2.heap.size := by simp
  have kT4 : Blk W4 (g + 1) 26 #[.string ⟨tn.toArray⟩, .int .i64 tg, .slice A2 n2 c2, tt, .slice A4 n4 c4] := by rw [hW4]; exact (HKT.out.far (by simp) _).alloc _
  have kR4 : Blk W4 (g + 1 + 1) 27 #[.slice none 0 0] := by rw [hW4]; exact (HKR.out.far (by simp) _).alloc _
  have kF4 : Blk W4 g 26 #[.string ⟨fn.toArray⟩, .int .i64 fg, .slice A1 n1 c1, ft, .slice A3 n3 c3] := by rw [hW4]; exact (HKF.out.far (by simp; omega) _).alloc _
  have kE4 : Blk W4 (g + 1 + 1 + 1) 28 #[.int .i64 0] := by rw [hW4]; exact (HKE.out.set_ 0 _).alloc _
  have hb4 : Below w.heap.size w W4 := by rw [hW4]; exact (HB.out.setCell (by have := HG.out; simp only; omega) _).alloc (by rw [hsz2]; exact HB.out.size) _
  have kW4 : Blk W4 q 59 #[.slice none 0 0, .int .u64 0, .int .u64 0, .int .u64 0, .int .u64 0] := by
    rw [hW4, hq]
    have := Blk.new (w2.setCell ⟨g + 1 + 1 + 1, 0, none⟩ (.int .i64 0)) 59 #[.slice none 0 0, .int .u64 0, .int .u64 0, .int .u64 0, .int .u64 0]
    rw [hsz2] at this
    exact this
  have hr54 : Reads W4 q 12 A5 n5 (rcells o) := by
    have ho2 := Reads.of_own (own_setCell_below HO.out (p := ⟨g + 1 + 1 + 1, 0, none⟩) HS1.out (.int .i64 0))
    rw [hsz2, ← hq] at ho2
    rw [hW4]
    exact ho2.alloc (by rw [hsz2, hq]; exact Nat.le_refl _) _
  have HW4 := Lib.hid (show WrB W4 q (q + 1) [] Sm0 from ⟨none, 0, 0, rfl, kW4, World.ownsRow_nil _ _ _ _, by omega⟩)
  have HKT4 := Lib.hid kT4
  have HKF4 := Lib.hid kF4
  have HKR4 := Lib.hid kR4
  have HKE4 := Lib.hid kE4
  have HB4 := Lib.hid hb4
  have HR54 := Lib.hid hr54
  have HQ : Hid (g + 1 + 1 + 1 < q) := by show _ < _; rw [hq]; exact HKE.out.lt
  clear kT4 kR4 kF4 kE4 hb4 kW4 hr54 hr5 hn5 ho HO
  go_upto_region 13 with (fail)
  rw [← hW4, ← hq]
  have hs4 : W4.heap.size = q + 1 := by rw [hW4, hq]; simp
  have HS4 := Lib.hid hs4
  clear hs4 hq hW4 hsz2 f0 f1 f2 f3 f4 t0 t1 t2 t3 t4 z0 z1 zf0 zf1
  obtain ⟨f0, f1, f2, f3, f4⟩ := blk5 HKF4.out
  obtain ⟨t0, t1, t2, t3, t4⟩ := blk5 HKT4.out
  go_wp2_with fail
  by_cases hrE : recE r0 ≠ 0
  · have HR0N := Lib.hid hrE
    have hput := put_bad q r0 hrE n4 (by rw [HRO.out]; exact HN4.out) A4 c4 W4 w.heap.size HB4.out.size (by rw [HRO.out]; exact HR4.out.below HB4.out) hs4 (by rw [HRO.out]; exact fun y hy => (HPS.out y hy).2)
    rw [HRV.out] at hput
    clear hrE
    refine hput.mono ?_
    clear hput
    rintro e w5 ⟨rfl, hb5⟩
    have HKE5 := Lib.hid (HKE4.out.below hb5 HKE4.out.lt)
    have HKR5 := Lib.hid (HKR4.out.below hb5 HKR4.out.lt)
    have HB5 := Lib.hid (HB4.out.trans (hb5.mono HB4.out.size))
    clear hb5 f0 f1 f2 f3 f4 t0 t1 t2 t3 t4
    go_wp2_with fail
    refine leaves_cons (f := 20) (args := #[.pointer (some ⟨g + 1 + 1 + 1, 0, none⟩)]) (by simp) (by simp [go_sem]) ?_
    refine (caught_panicking ⟨g + 1 + 1 + 1, 0, none⟩ 0 0 (recE r0) [] w5 HKE5.out.lt (HKE5.out.cell 0) (HKE5.out.frozen 0)).mono ?_
    rintro e u' wd ⟨rfl, rfl, hwd⟩
    have kEd : Blk wd (g + 1 + 1 + 1) 28 #[.int .i64 (recE r0)] := by rw [hwd]; exact (HKE5.out.alloc _).set_ 0 _
    have kRd : Blk wd (g + 1 + 1) 27 #[.slice none 0 0] := by rw [hwd]; exact (HKR5.out.alloc _).far (by simp) _
    have hbd : Below w.heap.size w wd := by rw [hwd]; exact (HB5.out.alloc HB5.out.size _).setCell (by have := HG.out; simp only; omega) _
    clear hwd
    refine leaves_cons (f := 19) (args := #[.pointer (some ⟨g + 1 + 1 + 1, 0, none⟩), .pointer (some ⟨g + 1 + 1, 0, none⟩)]) (by simp [settle]) (by simp [go_sem]) ?_
    refine (mk1_bad (g + 1 + 1 + 1) (g + 1 + 1) (recE r0) HR0N.out (.slice none 0 0) _ wd (kEd.cell 0) kRd).mono ?_
    rintro e u' wf ⟨rfl, rfl, hwf⟩
    have kEf : Blk wf (g + 1 + 1 + 1) 28 #[.int .i64 (recE r0)] := by rw [hwf]; exact kEd.far (by simp) _
    have kRf : Blk wf (g + 1 + 1) 27 #[.slice none 0 0] := by rw [hwf]; exact kRd.set_ 0 _
    have hbf : Below w.heap.size w wf := by rw [hwf]; exact hbd.setCell (by have := HG.out; simp only; omega) _
    clear hwf
    have q0 : wf.cell? ⟨g + 1 + 1, 0, none⟩ = some (.slice none 0 0) := kRf.cell 0
    have q1 : wf.cell? ⟨g + 1 + 1 + 1, 0, none⟩ = some (.int .i64 (recE r0)) := kEf.cell 0
    have hme : makeE [] b r0 true = recE r0 := by unfold makeE; rw [if_neg (by rw [← HE.out]; simp), if_pos HR0N.out]
    simp [Leaves, settle, results, Try.results7, go_sem, q0, q1]
    exact ⟨_, by rw [hme], by rw [hme, if_neg HR0N.out], hbf⟩
  have hr00 : recE r0 = 0 := by simpa using hrE
  have HR00 := Lib.hid hr00
  have hput := put_ok q (q + 1) [] Sm0 r0 hr00 n4 (by rw [HRO.out]; exact HN4.out) A4 c4 W4 w.heap.size HB4.out.size (by rw [HRO.out]; exact HR4.out.below HB4.out) hs4 (by rw [HRO.out]; exact fun y hy => (HPS.out y hy).2) HW4.out (by rw [HS4.out]; exact Nat.le_refl _) (by simp) (by have := (encL_len r0 hr00).1; omega)
  rw [HRV.out] at hput
  clear hr00 hrE
  refine hput.mono ?_
  clear hput
  rintro e w5 ⟨rfl, hw5, hb5⟩
  have HKE5 := Lib.hid (HKE4.out.below hb5 (by have := HQ.out; omega))
  have HKR5 := Lib.hid (HKR4.out.below hb5 (by have := HQ.out; omega))
  have HKF5 := Lib.hid (HKF4.out.below hb5 (by have := HQ.out; omega))
  have HKT5 := Lib.hid (HKT4.out.below hb5 (by have := HQ.out; omega))
  have HB5 := Lib.hid (HB4.out.trans (hb5.mono (by have := HQ.out; have := HG.out; omega)))
  have HR55 := Lib.hid (HR54.out.below hb5)
  have HW5 : Hid (WrB w5 q (q + 1) (encAll [r0]) (sumS Sm0 [r0])) := by
    show WrB _ _ _ _ _
    have e1 : encAll [r0] = [] ++ encL r0 := by simp [encAll]
    rw [e1]
    exact hw5
  clear hw5 hb5 f0 f1 f2 f3 f4 t0 t1 t2 t3 t4
  obtain ⟨f0, f1, f2, f3, f4⟩ := blk5 HKF5.out
  obtain ⟨t0, t1, t2, t3, t4⟩ := blk5 HKT5.out
  go_wp2_with fail
  refine (need_ok 0 35 _).mono ?_
  rintro e w6 ⟨rfl, hw6⟩
  rw [hw6]
  clear hw6 w6
  go_wp2_with fail
  have HQ5 : Hid (q ≤ w5.heap.size) := by
    obtain ⟨A9, n9, c9, _, q9, _, _⟩ := HW5.out
    exact Nat.le_of_lt q9.lt
  have hn5b : n5 ≤ 1024 := by have := HOL.out; have := HN5.out; omega
  go_loopw [59] (fun i wr => ∃ k : Nat, k ≤ n5 ∧ i = .int .i64 (k : Int) ∧ Hid (WrB wr q (q + 1) (encAll (r0 :: (o.take k).map rcOf)) (sumS Sm0 (r0 :: (o.take k).map rcOf))) ∧ Hid (Below q w5 wr)) (fun i _ => n5 - (intOf i).toNat)
  case atStart => exact ⟨0, Nat.zero_le _, rfl, HW5.out, Below.refl _ _⟩
  case round =>
    clear HW5
    obtain ⟨k, hk, rfl, HW, HBq⟩ := hrel
    by_cases hlt5 : k < n5
    · obtain ⟨ad, rfl, hadB, hel⟩ := Reads.elAll (enc := encR) (k := 12) encR_len (HR55.out.below HBq.out) HN5.out hlt5
      have hkl : k < o.length := by have := HN5.out; omega
      have HTK : Hid ((o.take (k + 1)).map rcOf = (o.take k).map rcOf ++ [rcOf (o[k]'hkl)]) := by show _ = _; rw [List.take_add_one, List.getElem?_eq_getElem hkl, List.map_append]; rfl
      have HX := Lib.hid (HOK.out _ (List.getElem_mem hkl))
      have hki : (k : Int) < (n5 : Int) := by omega
      obtain ⟨x, hx⟩ : ∃ x, x = o[k]'hkl := ⟨_, rfl⟩
      rw [← hx] at hel HTK HX
      clear hx
      obtain ⟨cs, hcs⟩ : ∃ cs, cs = encR x := ⟨_, rfl⟩
      have hcl : cs.length = 12 := by rw [hcs]; rfl
      have hc1 : ∀ u ∈ cs, u.oneCell' = true := by rw [hcs]; intro u hu; exact rcells_one [x] u (by simpa [cellsK] using hu)
      have HCA : Hid (Value.agg cs.toArray = rcV (rcOf x) (.slice none 0 0)) := by show _ = _; rw [hcs]; rfl
      rw [← hcs] at hel
      clear hcs
      have HEL := Lib.hid hel
      obtain ⟨W1, hW1⟩ : ∃ W, W = wr.alloc (.cells cs.toArray 47) := ⟨_, rfl⟩
      have hL := new_cells wr 47 cs
      have hb1 : Below wr.heap.size wr (wr.alloc (.cells cs.toArray 47)) := (Below.refl _ _).alloc (Nat.le_refl _) _
      rw [← hW1] at hL hb1
      have HL := Lib.hid hL
      have HW1 := Lib.hid (HW.out.below hb1)
      have HBq1 := Lib.hid (HBq.out.trans (hb1.mono (by have := HBq.out.size; have := HQ5.out; omega)))
      have hgw : q + 1 ≤ W1.heap.size := by
        obtain ⟨A9, n9, c9, _, q9, _, _⟩ := HW1.out
        have := q9.lt
        omega
      clear hel hL hb1 hadB HW HBq
      have hol : (encAll (r0 :: (o.take k).map rcOf)).length ≤ 100000000000000 := by
        have h1 : sumE (r0 :: (o.take k).map rcOf) = 0 := (sumE_all _).2 (by
          intro y hy
          rcases List.mem_cons.1 hy with rfl | hy
          · exact HR00.out
          · obtain ⟨z, hz, rfl⟩ := List.mem_map.1 hy
            exact HOK.out z (List.mem_of_mem_take hz))
        have h2 := encAll_len _ h1
        rw [List.length_cons, List.length_map, List.length_take] at h2
        have h3 := HOL.out
        have : min k o.length ≤ 1024 := by omega
        omega
      have hput := put_ok q (q + 1) (encAll (r0 :: (o.take k).map rcOf)) (sumS Sm0 (r0 :: (o.take k).map rcOf)) (rcOf x) HX.out 0 rfl none 0 W1 0 (Nat.zero_le _) Reads.none_ (by omega) (by intro y hy; cases hy) HW1.out hgw hol (by have := (encL_len _ HX.out).1; omega)
      have HPUT := Lib.hid hput
      clear hput hol
      go_wp2_with (first | (refine wpList_load_at rfl 47 (.tmp 61) rfl (ad.add (k * 12)) rfl cs _ HEL.out Try.underlying47 rfl (by rw [hcl]; kernel_rfl) ?_) | (refine wpList_store_new wr rfl 47 (.tmp 14) (.tmp 62) rfl 47 _ cs rfl rfl (by rw [hcl]; rfl) (by rw [hcl]; kernel_rfl) hc1 ?_; rw [← hW1]; clear hW1) | (refine wpList_load_at rfl 47 (.tmp 14) rfl ⟨wr.heap.size, 0, none⟩ rfl cs _ HL.out Try.underlying47 rfl (by rw [hcl]; kernel_rfl) ?_))
      clear HEL HL hcl hc1
      rw [HCA.out]
      refine HPUT.out.mono ?_
      clear HPUT
      rintro e w7 ⟨rfl, hw7, hb7⟩
      have HW7 := Lib.hid hw7
      have HBq7 := Lib.hid (HBq1.out.trans hb7)
      clear hw7 hb7 HW1 HBq1
      go_wp2_with fail
      go_roundw
      case rel =>
        refine ⟨k + 1, by omega, by go_num, ?_, HBq7.out⟩
        show WrB _ _ _ _ _
        rw [HTK.out, ← List.cons_append, encAll_snoc, sumS_snoc]; exact HW7.out
      case measure => simp [intOf]; omega
    · obtain rfl : k = n5 := by omega
      have htl : r0 :: (o.take k).map rcOf = recsL [] b r0 := by rw [HRL.out, HN5.out, List.take_length]
      rw [htl] at HW
      have HRS : Hid (sumE (recsL [] b r0) = 0) := by
        show _ = _
        rw [HRL.out]
        exact (sumE_all _).2 (by
          intro y hy
          rcases List.mem_cons.1 hy with rfl | hy
          · exact HR00.out
          · obtain ⟨z, hz, rfl⟩ := List.mem_map.1 hy
            exact HOK.out z hz)
      have hol : (encAll (recsL [] b r0)).length ≤ 100000000000000 := by
        have h2 := encAll_len _ HRS.out
        rw [HRL.out, List.length_cons, List.length_map] at h2
        rw [HRL.out]
        have h3 := HOL.out
        omega
      obtain ⟨L, hL⟩ : ∃ L, L = recsL [] b r0 := ⟨_, rfl⟩
      rw [← hL] at HW hol
      have HLE := Lib.hid hL
      clear htl hL
      obtain ⟨s9, hs9⟩ : ∃ s, s = sumS Sm0 L := ⟨_, rfl⟩
      rw [← hs9] at HW
      have hgw : q + 1 ≤ wr.heap.size := by
        obtain ⟨A9, n9, c9, _, q9, _, _⟩ := HW.out
        have := q9.lt
        omega
      have hput := put_ok q (q + 1) (encAll L) s9 (rcEnd s9) (recE_end s9) 0 rfl none 0 wr 0 (Nat.zero_le _) Reads.none_ (by omega) (by intro y hy; cases hy) HW.out hgw hol (by have := (encL_len _ (recE_end s9)).1; omega)
      obtain ⟨A9, n9, c9, _, hk9, _, _⟩ := HW.out
      obtain ⟨sa, sb, sc, sd⟩ := s9
      have HPUT := Lib.hid hput
      have HS9 := Lib.hid hs9
      have e1 := hk9.cell 1
      have e2 := hk9.cell 2
      have e3 := hk9.cell 3
      have e4 := hk9.cell 4
      simp only [List.getElem?_toArray, List.getElem?_cons_succ, List.getElem?_cons_zero] at e1 e2 e3 e4
      clear hput hol hs9 hk9 HW
      go_wp2_with fail
      refine HPUT.out.mono ?_
      clear HPUT
      rintro e w8 ⟨rfl, hw8, hb8⟩
      have HBq8 := Lib.hid (HBq.out.trans hb8)
      have HKE8 := Lib.hid (HKE5.out.below HBq8.out (by have := HQ.out; omega))
      have HKR8 := Lib.hid (HKR5.out.below HBq8.out (by have := HQ.out; omega))
      have HB8 := Lib.hid (HB5.out.trans (HBq8.out.mono (by have := HQ.out; have := HG.out; omega)))
      obtain ⟨S, hS⟩ : ∃ S, S = makeS [] b r0 := ⟨_, rfl⟩
      have hSS : encAll L ++ encL (rcEnd ⟨sa, sb, sc, sd⟩) = S := by rw [hS, HS9.out, HLE.out]; rfl
      rw [hSS] at hw8
      have HS := Lib.hid hS
      clear hS hSS hb8 e1 e2 e3 e4 HBq
      obtain ⟨A8, n8, c8, hn8, hk8, ho8, _⟩ := hw8
      have e0 := hk8.cell 0
      simp only [List.getElem?_toArray, List.getElem?_cons_zero] at e0
      have HN8 := Lib.hid hn8
      have HO8 := Lib.hid ho8
      have HK8 := Lib.hid hk8
      have HSL : Hid (n8 = (makeS [] b r0).length) := by show _ = _; rw [hn8, HS.out]
      clear hn8 ho8 hk8
      by_cases hle : ¬ n8 ≤ 32768
      · have hle2 : ¬ (n8 : Int) ≤ 32768 := by omega
        have HDF : Hid (decide ((n8 : Int) ≤ 32768) = false) := decide_eq_false hle2
        have HLE2 : Hid (32768 < n8) := by show _ < _; omega
        clear hle hle2
        go_wp2_with fail
        rw [HDF.out]
        refine (need_bad 0 5 _).mono ?_
        rintro e w6 ⟨rfl, hw6⟩
        rw [hw6]
        clear hw6 w6
        go_wp2_with fail
        refine leaves_cons (f := 20) (args := #[.pointer (some ⟨g + 1 + 1 + 1, 0, none⟩)]) (by simp) (by simp [go_sem]) ?_
        refine (caught_panicking ⟨g + 1 + 1 + 1, 0, none⟩ 0 0 (5) [] w8 HKE8.out.lt (HKE8.out.cell 0) (HKE8.out.frozen 0)).mono ?_
        rintro e u' wd ⟨rfl, rfl, hwd⟩
        have kEd : Blk wd (g + 1 + 1 + 1) 28 #[.int .i64 (5)] := by rw [hwd]; exact (HKE8.out.alloc _).set_ 0 _
        have kRd : Blk wd (g + 1 + 1) 27 #[.slice none 0 0] := by rw [hwd]; exact (HKR8.out.alloc _).far (by simp) _
        have hbd : Below w.heap.size w wd := by rw [hwd]; exact (HB8.out.alloc HB8.out.size _).setCell (by have := HG.out; simp only; omega) _
        clear hwd
        refine leaves_cons (f := 19) (args := #[.pointer (some ⟨g + 1 + 1 + 1, 0, none⟩), .pointer (some ⟨g + 1 + 1, 0, none⟩)]) (by simp [settle]) (by simp [go_sem]) ?_
        refine (mk1_bad (g + 1 + 1 + 1) (g + 1 + 1) (5) (show (5 : Int) ≠ 0 by decide) (.slice none 0 0) _ wd (kEd.cell 0) kRd).mono ?_
        rintro e u' wf ⟨rfl, rfl, hwf⟩
        have kEf : Blk wf (g + 1 + 1 + 1) 28 #[.int .i64 (5)] := by rw [hwf]; exact kEd.far (by simp) _
        have kRf : Blk wf (g + 1 + 1) 27 #[.slice none 0 0] := by rw [hwf]; exact kRd.set_ 0 _
        have hbf : Below w.heap.size w wf := by rw [hwf]; exact hbd.setCell (by have := HG.out; simp only; omega) _
        clear hwf
        have q0 : wf.cell? ⟨g + 1 + 1, 0, none⟩ = some (.slice none 0 0) := kRf.cell 0
        have q1 : wf.cell? ⟨g + 1 + 1 + 1, 0, none⟩ = some (.int .i64 (5)) := kEf.cell 0
        have hme : makeE [] b r0 true = 5 := by unfold makeE; rw [if_neg (by rw [← HE.out]; simp), if_neg (by rw [HR00.out]; simp), if_neg (by simp), if_pos (by rw [← HSL.out]; exact HLE2.out)]
        simp [Leaves, settle, results, Try.results7, go_sem, q0, q1]
        exact ⟨_, by rw [hme], by rw [hme, if_neg (show (5 : Int) ≠ 0 by decide)], hbf⟩
      have hle2 : (n8 : Int) ≤ 32768 := by omega
      go_wp2_with fail
      refine (need_ok 0 5 _).mono ?_
      rintro e w6 ⟨rfl, hw6⟩
      rw [hw6]
      clear hw6 w6
      have zz0 := HKR8.out.cell 0
      have zz1 := HKE8.out.cell 0
      simp only [List.getElem?_toArray, List.getElem?_cons_zero] at zz0 zz1
      have zf0 := HKR8.out.frozen 0
      have zf1 := HKE8.out.frozen 0
      have kR := ((HKR8.out.set_ 0 (.slice A8 n8 c8)).far (p := ⟨g + 1 + 1 + 1, 0, none⟩) (by simp) (.int .i64 0))
      have kE := ((HKE8.out.far (p := ⟨g + 1 + 1, 0, none⟩) (by simp) (.slice A8 n8 c8)).set_ 0 (.int .i64 0))
      have bE := ((HB8.out.setCell (p := ⟨g + 1 + 1, 0, none⟩) (by have := HG.out; simp only; omega) (.slice A8 n8 c8)).setCell (p := ⟨g + 1 + 1 + 1, 0, none⟩) (by have := HG.out; simp only; omega) (.int .i64 0))
      have oE := own_setCell_below (own_setCell_below HO8.out (p := ⟨g + 1 + 1, 0, none⟩) (by have := HQ.out; simp only; omega) (.slice A8 n8 c8)) (p := ⟨g + 1 + 1 + 1, 0, none⟩) (by have := HQ.out; simp only; omega) (.int .i64 0)
      have KR := Lib.hid kR
      have KE := Lib.hid kE
      have BE := Lib.hid bE
      have OE := Lib.hid oE
      clear kR kE bE oE HKR8 HKE8 HB8 HO8
      go_wp2_with fail
      obtain ⟨WE, hWE⟩ : ∃ W, W = (w8.setCell ⟨g + 1 + 1, 0, none⟩ (.slice A8 n8 c8)).setCell ⟨g + 1 + 1 + 1, 0, none⟩ (.int .i64 0) := ⟨_, rfl⟩
      rw [← hWE] at KR KE BE OE ⊢
      clear hWE
      refine leaves_cons (f := 20) (args := #[.pointer (some ⟨g + 1 + 1 + 1, 0, none⟩)]) (by simp) (by simp [go_sem]) ?_
      refine (caught_idle ⟨g + 1 + 1 + 1, 0, none⟩ _).mono ?_
      rintro e u' wd ⟨rfl, rfl, hwd⟩
      have kEd : Blk wd (g + 1 + 1 + 1) 28 #[.int .i64 0] := by rw [hwd]; exact KE.out.alloc _
      have kRd : Blk wd (g + 1 + 1) 27 #[.slice A8 n8 c8] := by rw [hwd]; exact KR.out.alloc _
      have hbd : Below w.heap.size w wd := by rw [hwd]; exact BE.out.alloc BE.out.size _
      have hod : wd.ownsRow (q + 1) 5 1 (.slice A8 n8 c8) n8 (bts S) := by rw [hwd]; exact own_below OE.out ((Below.refl _ _).alloc (Nat.le_refl _) _)
      clear hwd
      refine leaves_cons (f := 19) (args := #[.pointer (some ⟨g + 1 + 1 + 1, 0, none⟩), .pointer (some ⟨g + 1 + 1, 0, none⟩)]) (by simp [settle]) (by simp [go_sem]) ?_
      refine (mk1_ok (g + 1 + 1 + 1) ⟨g + 1 + 1, 0, none⟩ _ wd (kEd.cell 0)).mono ?_
      rintro e u' wf ⟨rfl, rfl, rfl⟩
      have q0 : wf.cell? ⟨g + 1 + 1, 0, none⟩ = some (.slice A8 n8 c8) := kRd.cell 0
      have q1 : wf.cell? ⟨g + 1 + 1 + 1, 0, none⟩ = some (.int .i64 0) := kEd.cell 0
      have hme : makeE [] b r0 true = 0 := by unfold makeE; rw [if_neg (by rw [← HE.out]; simp), if_neg (by rw [HR00.out]; simp), if_neg (by simp), if_neg (by rw [← HSL.out]; omega)]
      simp [Leaves, settle, results, Try.results7, go_sem, q0, q1]
      refine ⟨_, by rw [hme], ?_, hbd⟩
      rw [hme, if_pos rfl, ← HSL.out, ← HS.out]
      exact own_mono hod (by have := HQ.out; have := HG.out; omega)
set_option maxRecDepth 100000 in
set_option maxHeartbeats 8000000 in
theorem make_from (fn tn : BS) (fg tg : Int) (a b : BL) (p : PL) (ft tt : Value) (n1 n2 n3 n4 c1 c2 c3 c4 : Nat) (A1 A2 A3 A4 : Option Addr) (h1 : n1 = a.length) (h2 : n2 = b.length) (h4 : n4 = p.length) (hc1 : n1 ≤ c1) (hc2 : n2 ≤ c2)
    (hs1 : n1 ≤ 6000000000000) (hs2 : n2 ≤ 6000000000000) (hs4 : n4 ≤ 5000000000000) (hps : strOk p) (w : World) (hr1 : Reads w w.heap.size 2 A1 n1 (bcells a)) (hr2 : Reads w w.heap.size 2 A2 n2 (bcells b)) (hr4 : Reads w w.heap.size 2 A4 n4 (pcells p)) :
    Calls Try.prog 7 #[.agg #[.string ⟨fn.toArray⟩, .int .i64 fg, .slice A1 n1 c1, ft, .slice A3 n3 c3], .agg #[.string ⟨tn.toArray⟩, .int .i64 tg, .slice A2 n2 c2, tt, .slice A4 n4 c4], .bool false] w (MakePost w a b ⟨1, tn, fg, tg, p, 0, 0, [], Sm0⟩ (decide (fg < tg))) := by
  have hmf : ∀ (fn : Fn) (first cap : Array Value) (w : World), (Instr.makeFunc fn first cap).run Try.prog w = .ok (.func fn first cap) w := fun _ _ _ _ => rfl
  obtain ⟨r0, hr0⟩ : ∃ r, r = (⟨1, tn, fg, tg, p, 0, 0, [], Sm0⟩ : Rc) := ⟨_, rfl⟩
  rw [← hr0]
  have HRV : Hid (rcV r0 (.slice A4 n4 c4) = .agg #[.int .i64 1, .string ⟨tn.toArray⟩, .int .i64 fg, .int .i64 tg, .slice A4 n4 c4, .int .i64 0, .int .i64 0, .string ⟨#[]⟩, .int .u64 0, .int .u64 0, .int .u64 0, .int .u64 0]) := by show _ = _; rw [hr0]; rfl
  have HRO : Hid (r0.own = p) := by show _ = _; rw [hr0]
  have HR1 := Lib.hid hr1
  have HR2 := Lib.hid hr2
  have HR4 := Lib.hid hr4
  have HN1 := Lib.hid h1
  have HN2 := Lib.hid h2
  have HN4 := Lib.hid h4
  have HPS := Lib.hid hps
  obtain ⟨g, hg⟩ : ∃ g, g = w.heap.size := ⟨_, rfl⟩
  have HG := Lib.hid hg
  obtain ⟨W0, hW0⟩ : ∃ W, W = (((w.alloc (.cells #[.string ⟨fn.toArray⟩, .int .i64 fg, .slice A1 n1 c1, ft, .slice A3 n3 c3] 26)).alloc (.cells #[.string ⟨tn.toArray⟩, .int .i64 tg, .slice A2 n2 c2, tt, .slice A4 n4 c4] 26)).alloc (.cells #[.slice none 0 0] 27)).alloc (.cells #[.int .i64 0] 28) := ⟨_, rfl⟩
  have kF : Blk W0 g 26 #[.string ⟨fn.toArray⟩, .int .i64 fg, .slice A1 n1 c1, ft, .slice A3 n3 c3] := by rw [hW0, hg]; exact (((Blk.new w _ _).alloc _).alloc _).alloc _
  have kT : Blk W0 (g + 1) 26 #[.string ⟨tn.toArray⟩, .int .i64 tg, .slice A2 n2 c2, tt, .slice A4 n4 c4] := by
    rw [hW0, hg]
    have := Blk.new (w.alloc (.cells #[.string ⟨fn.toArray⟩, .int .i64 fg, .slice A1 n1 c1, ft, .slice A3 n3 c3] 26)) 26 #[.string ⟨tn.toArray⟩, .int .i64 tg, .slice A2 n2 c2, tt, .slice A4 n4 c4]
    simp at this
    exact (this.alloc _).alloc _
  have kR : Blk W0 (g + 1 + 1) 27 #[.slice none 0 0] := by
    rw [hW0, hg]
    have := Blk.new ((w.alloc (.cells #[.string ⟨fn.toArray⟩, .int .i64 fg, .slice A1 n1 c1, ft, .slice A3 n3 c3] 26)).alloc (.cells #[.string ⟨tn.toArray⟩, .int .i64 tg, .slice A2 n2 c2, tt, .slice A4 n4 c4] 26)) 27 #[.slice none 0 0]
    simp at this
    exact this.alloc _
  have kE : Blk W0 (g + 1 + 1 + 1) 28 #[.int .i64 0] := by
    rw [hW0, hg]
    have := Blk.new (((w.alloc (.cells #[.string ⟨fn.toArray⟩, .int .i64 fg, .slice A1 n1 c1, ft, .slice A3 n3 c3] 26)).alloc (.cells #[.string ⟨tn.toArray⟩, .int .i64 tg, .slice A2 n2 c2, tt, .slice A4 n4 c4] 26)).alloc (.cells #[.slice none 0 0] 27)) 28 #[.int .i64 0]
    simp at this
    exact this
  have hb0 : Below w.heap.size w W0 := by rw [hW0]; exact (((((Below.refl _ _).alloc (Nat.le_refl _) _).alloc (by simp) _).alloc (by simp; omega) _).alloc (by simp; omega) _)
  have HKF := Lib.hid kF
  have HKT := Lib.hid kT
  have HKR := Lib.hid kR
  have HKE := Lib.hid kE
  have HB := Lib.hid hb0
  clear kF kT kR kE hb0 hr0 hr1 hr2 hr4 h1 h2 h4 hps
  go_enter_defers Try.func7, Try.ntmps7
  obtain ⟨f0, f1, f2, f3, f4⟩ := blk5 HKF.out
  obtain ⟨t0, t1, t2, t3, t4⟩ := blk5 HKT.out
  have z0 := HKR.out.cell 0
  have z1 := HKE.out.cell 0
  simp only [List.getElem?_toArray, List.getElem?_cons_zero] at z0 z1
  have zf0 := HKR.out.frozen 0
  have zf1 := HKE.out.frozen 0
  go_wp2_with fail
  rw [← hW0, ← hg]
  clear hW0 hg
  go_region
  go_wp2_with fail
  refine (checkBk_any a n1 HN1.out A1 c1 _ W0.heap.size (((HR1.out.below HB.out).more HB.out.size).drew) (Nat.le_refl _) (by omega)).mono ?_
  rintro e w1 ⟨rfl, hb1⟩
  replace hb1 := ((Below.refl W0.heap.size W0).drew).trans hb1
  replace HKF := Lib.hid (HKF.out.below hb1 HKF.out.lt)
  replace HKT := Lib.hid (HKT.out.below hb1 HKT.out.lt)
  replace HKR := Lib.hid (HKR.out.below hb1 HKR.out.lt)
  replace HKE := Lib.hid (HKE.out.below hb1 HKE.out.lt)
  replace HB := Lib.hid (HB.out.trans (hb1.mono HB.out.size))
  clear hb1 f0 f1 f2 f3 f4 t0 t1 t2 t3 t4 z0 z1 zf0 zf1
  obtain ⟨f0, f1, f2, f3, f4⟩ := blk5 HKF.out
  obtain ⟨t0, t1, t2, t3, t4⟩ := blk5 HKT.out
  have z0 := HKR.out.cell 0
  have z1 := HKE.out.cell 0
  simp only [List.getElem?_toArray, List.getElem?_cons_zero] at z0 z1
  have zf0 := HKR.out.frozen 0
  have zf1 := HKE.out.frozen 0
  obtain ⟨E1, hE1⟩ : ∃ E, E = okE a := ⟨_, rfl⟩
  rw [← hE1]
  have HE1 := Lib.hid hE1
  clear hE1
  by_cases hE10 : E1 ≠ 0
  · have hE11 : (E1 != 0) = true := by simpa using hE10
    have HE10 := Lib.hid hE10
    clear hE10
    go_wp2_with fail
    have kE := ((HKE.out.far (p := ⟨g + 1 + 1, 0, none⟩) (by simp) (.slice none 0 0)).set_ 0 (.int .i64 E1))
    have kR := ((HKR.out.set_ 0 (.slice none 0 0)).far (p := ⟨g + 1 + 1 + 1, 0, none⟩) (by simp) (.int .i64 E1))
    have hbb := ((HB.out.setCell (p := ⟨g + 1 + 1, 0, none⟩) (by have := HG.out; simp only; omega) (.slice none 0 0)).setCell (p := ⟨g + 1 + 1 + 1, 0, none⟩) (by have := HG.out; simp only; omega) (.int .i64 E1))
    obtain ⟨WE, hWE⟩ : ∃ W, W = ((w1.setCell ⟨g + 1 + 1, 0, none⟩ (.slice none 0 0)).setCell ⟨g + 1 + 1 + 1, 0, none⟩ (.int .i64 E1)) := ⟨_, rfl⟩
    rw [← hWE] at kE kR hbb ⊢
    clear hWE
    have q0 : WE.cell? ⟨g + 1 + 1, 0, none⟩ = some (.slice none 0 0) := kR.cell 0
    have q1 : WE.cell? ⟨g + 1 + 1 + 1, 0, none⟩ = some (.int .i64 E1) := kE.cell 0
    have hdf : diffE a b = E1 := by unfold diffE orI; rw [if_neg (by rw [← HE1.out]; exact HE10.out)]; exact HE1.out.symm
    have hme : makeE a b r0 (decide (fg < tg)) = E1 := by unfold makeE; rw [if_pos (by rw [hdf]; exact HE10.out), hdf]
    simp only [bodyPostD]
    simp [Leaves, results, Try.results7, go_sem, q0, q1]
    exact ⟨_, by rw [hme], by rw [hme, if_neg HE10.out], hbb⟩
  obtain rfl : E1 = 0 := by omega
  clear hE10
  go_wp2_with fail
  clear f0 f1 f2 f3 f4 t0 t1 t2 t3 t4 z0 z1 zf0 zf1
  have HS1 : Hid (g + 1 + 1 + 1 < w1.heap.size) := HKE.out.lt
  refine (bkDiff_any a b n1 n2 HN1.out HN2.out A1 A2 c1 c2 w1 ((HR1.out.below HB.out).more HB.out.size) ((HR2.out.below HB.out).more HB.out.size) hc1 hc2 hs1 hs2).mono ?_
  rintro e w2 ⟨v, rfl, hown, hb2⟩
  replace HKF := Lib.hid (HKF.out.below hb2 HKF.out.lt)
  replace HKT := Lib.hid (HKT.out.below hb2 HKT.out.lt)
  replace HKR := Lib.hid (HKR.out.below hb2 HKR.out.lt)
  replace HKE := Lib.hid (HKE.out.below hb2 HKE.out.lt)
  replace HB := Lib.hid (HB.out.trans (hb2.mono HB.out.size))
  have HO := Lib.hid hown
  clear hown hb2
  obtain ⟨E, hE⟩ : ∃ E, E = diffE a b := ⟨_, rfl⟩
  rw [← hE]
  have HE := Lib.hid hE
  clear hE
  obtain ⟨f0, f1, f2, f3, f4⟩ := blk5 HKF.out
  obtain ⟨t0, t1, t2, t3, t4⟩ := blk5 HKT.out
  have z0 := HKR.out.cell 0
  have z1 := HKE.out.cell 0
  simp only [List.getElem?_toArray, List.getElem?_cons_zero] at z0 z1
  have zf0 := HKR.out.frozen 0
  have zf1 := HKE.out.frozen 0
  by_cases hE0 : E ≠ 0
  · have hE1 : (E != 0) = true := by simpa using hE0
    have HE0 := Lib.hid hE0
    clear hE0
    go_wp2_with fail
    go_region
    go_wp2_with fail
    have kE := (((HKE.out.set_ 0 (.int .i64 E)).far (p := ⟨g + 1 + 1, 0, none⟩) (by simp) (.slice none 0 0)).set_ 0 (.int .i64 E)).drew
    have kR := (((HKR.out.far (p := ⟨g + 1 + 1 + 1, 0, none⟩) (by simp) (.int .i64 E)).set_ 0 (.slice none 0 0)).far (p := ⟨g + 1 + 1 + 1, 0, none⟩) (by simp) (.int .i64 E)).drew
    have hbb := (((HB.out.setCell (p := ⟨g + 1 + 1 + 1, 0, none⟩) (by have := HG.out; simp only; omega) (.int .i64 E)).setCell (p := ⟨g + 1 + 1, 0, none⟩) (by have := HG.out; simp only; omega) (.slice none 0 0)).setCell (p := ⟨g + 1 + 1 + 1, 0, none⟩) (by have := HG.out; simp only; omega) (.int .i64 E)).drew
    obtain ⟨WE, hWE⟩ : ∃ W, W = (((w2.setCell ⟨g + 1 + 1 + 1, 0, none⟩ (.int .i64 E)).setCell ⟨g + 1 + 1, 0, none⟩ (.slice none 0 0)).setCell ⟨g + 1 + 1 + 1, 0, none⟩ (.int .i64 E)).drew := ⟨_, rfl⟩
    rw [← hWE] at kE kR hbb ⊢
    clear hWE
    have q0 : WE.cell? ⟨g + 1 + 1, 0, none⟩ = some (.slice none 0 0) := kR.cell 0
    have q1 : WE.cell? ⟨g + 1 + 1 + 1, 0, none⟩ = some (.int .i64 E) := kE.cell 0
    have hme : makeE a b r0 (decide (fg < tg)) = E := by unfold makeE; rw [if_pos (by rw [← HE.out]; exact HE0.out), ← HE.out]
    simp only [bodyPostD]
    simp [Leaves, results, Try.results7, go_sem, q0, q1]
    exact ⟨_, by rw [hme], by rw [hme, if_neg HE0.out], hbb⟩
  obtain rfl : E = 0 := by omega
  clear hE0
  obtain ⟨A5, c5, rfl, hc5, _, hr5⟩ := own_form HO.out
  obtain ⟨o, ho⟩ : ∃ o, o = diffO a b := ⟨_, rfl⟩
  have HOK : Hid (∀ r ∈ o, recE (rcOf r) = 0) := by show ∀ r ∈ o, _; rw [ho]; exact diffO_ok _ _
  have HOL : Hid (o.length ≤ 1024) := by show _ ≤ _; rw [ho]; exact diffO_len _ _
  have HRL : Hid (recsL a b r0 = r0 :: o.map rcOf) := by show _ = _; rw [ho]; rfl
  rw [← ho] at HO ⊢
  obtain ⟨n5, hn5⟩ : ∃ n, n = o.length := ⟨_, rfl⟩
  rw [← hn5] at HO ⊢
  have HN5 := Lib.hid hn5
  obtain ⟨q, hq⟩ : ∃ q, q = w2.heap.size := ⟨_, rfl⟩
  obtain ⟨W4, hW4⟩ : ∃ W, W = (w2.setCell ⟨g + 1 + 1 + 1, 0, none⟩ (.int .i64 0)).alloc (.cells #[.slice none 0 0, .int .u64 0, .int .u64 0, .int .u64 0, .int .u64 0] 59) := ⟨_, rfl⟩
  have hsz2 : (w2.setCell ⟨g + 1 + 1 + 1, 0, none⟩ (.int .i64 0)).heap.size = w2.heap.size := by simp
  have kT4 : Blk W4 (g + 1) 26 #[.string ⟨tn.toArray⟩, .int .i64 tg, .slice A2 n2 c2, tt, .slice A4 n4 c4] := by rw [hW4]; exact (HKT.out.far (by simp) _).alloc _
  have kR4 : Blk W4 (g + 1 + 1) 27 #[.slice none 0 0] := by rw [hW4]; exact (HKR.out.far (by simp) _).alloc _
  have kF4 : Blk W4 g 26 #[.string ⟨fn.toArray⟩, .int .i64 fg, .slice A1 n1 c1, ft, .slice A3 n3 c3] := by rw [hW4]; exact (HKF.out.far (by simp; omega) _).alloc _
  have kE4 : Blk W4 (g + 1 + 1 + 1) 28 #[.int .i64 0] := by rw [hW4]; exact (HKE.out.set_ 0 _).alloc _
  have hb4 : Below w.heap.size w W4 := by rw [hW4]; exact (HB.out.setCell (by have := HG.out; simp only; omega) _).alloc (by rw [hsz2]; exact HB.out.size) _
  have kW4 : Blk W4 q 59 #[.slice none 0 0, .int .u64 0, .int .u64 0, .int .u64 0, .int .u64 0] := by
    rw [hW4, hq]
    have := Blk.new (w2.setCell ⟨g + 1 + 1 + 1, 0, none⟩ (.int .i64 0)) 59 #[.slice none 0 0, .int .u64 0, .int .u64 0, .int .u64 0, .int .u64 0]
    rw [hsz2] at this
    exact this
  have hr54 : Reads W4 q 12 A5 n5 (rcells o) := by
    have ho2 := Reads.of_own (own_setCell_below HO.out (p := ⟨g + 1 + 1 + 1, 0, none⟩) HS1.out (.int .i64 0))
    rw [hsz2, ← hq] at ho2
    rw [hW4]
    exact ho2.alloc (by rw [hsz2, hq]; exact Nat.le_refl _) _
  have HW4 := Lib.hid (show WrB W4 q (q + 1) [] Sm0 from ⟨none, 0, 0, rfl, kW4, World.ownsRow_nil _ _ _ _, by omega⟩)
  have HKT4 := Lib.hid kT4
  have HKF4 := Lib.hid kF4
  have HKR4 := Lib.hid kR4
  have HKE4 := Lib.hid kE4
  have HB4 := Lib.hid hb4
  have HR54 := Lib.hid hr54
  have HQ : Hid (g + 1 + 1 + 1 < q) := by show _ < _; rw [hq]; exact HKE.out.lt
  clear kT4 kR4 kF4 kE4 hb4 kW4 hr54 hr5 hn5 ho HO
  go_upto_region 13 with (fail)
  rw [← hW4, ← hq]
  have hs4 : W4.heap.size = q + 1 := by rw [hW4, hq]; simp
  have HS4 := Lib.hid hs4
  clear hs4 hq hW4 hsz2 f0 f1 f2 f3 f4 t0 t1 t2 t3 t4 z0 z1 zf0 zf1
  obtain ⟨f0, f1, f2, f3, f4⟩ := blk5 HKF4.out
  obtain ⟨t0, t1, t2, t3, t4⟩ := blk5 HKT4.out
  go_wp2_with fail
  by_cases hrE : recE r0 ≠ 0
  · have HR0N := Lib.hid hrE
    have hput := put_bad q r0 hrE n4 (by rw [HRO.out]; exact HN4.out) A4 c4 W4 w.heap.size HB4.out.size (by rw [HRO.out]; exact HR4.out.below HB4.out) hs4 (by rw [HRO.out]; exact fun y hy => (HPS.out y hy).2)
    rw [HRV.out] at hput
    clear hrE
    refine hput.mono ?_
    clear hput
    rintro e w5 ⟨rfl, hb5⟩
    have HKE5 := Lib.hid (HKE4.out.below hb5 HKE4.out.lt)
    have HKR5 := Lib.hid (HKR4.out.below hb5 HKR4.out.lt)
    have HB5 := Lib.hid (HB4.out.trans (hb5.mono HB4.out.size))
    clear hb5 f0 f1 f2 f3 f4 t0 t1 t2 t3 t4
    go_wp2_with fail
    refine leaves_cons (f := 20) (args := #[.pointer (some ⟨g + 1 + 1 + 1, 0, none⟩)]) (by simp) (by simp [go_sem]) ?_
    refine (caught_panicking ⟨g + 1 + 1 + 1, 0, none⟩ 0 0 (recE r0) [] w5 HKE5.out.lt (HKE5.out.cell 0) (HKE5.out.frozen 0)).mono ?_
    rintro e u' wd ⟨rfl, rfl, hwd⟩
    have kEd : Blk wd (g + 1 + 1 + 1) 28 #[.int .i64 (recE r0)] := by rw [hwd]; exact (HKE5.out.alloc _).set_ 0 _
    have kRd : Blk wd (g + 1 + 1) 27 #[.slice none 0 0] := by rw [hwd]; exact (HKR5.out.alloc _).far (by simp) _
    have hbd : Below w.heap.size w wd := by rw [hwd]; exact (HB5.out.alloc HB5.out.size _).setCell (by have := HG.out; simp only; omega) _
    clear hwd
    refine leaves_cons (f := 19) (args := #[.pointer (some ⟨g + 1 + 1 + 1, 0, none⟩), .pointer (some ⟨g + 1 + 1, 0, none⟩)]) (by simp [settle]) (by simp [go_sem]) ?_
    refine (mk1_bad (g + 1 + 1 + 1) (g + 1 + 1) (recE r0) HR0N.out (.slice none 0 0) _ wd (kEd.cell 0) kRd).mono ?_
    rintro e u' wf ⟨rfl, rfl, hwf⟩
    have kEf : Blk wf (g + 1 + 1 + 1) 28 #[.int .i64 (recE r0)] := by rw [hwf]; exact kEd.far (by simp) _
    have kRf : Blk wf (g + 1 + 1) 27 #[.slice none 0 0] := by rw [hwf]; exact kRd.set_ 0 _
    have hbf : Below w.heap.size w wf := by rw [hwf]; exact hbd.setCell (by have := HG.out; simp only; omega) _
    clear hwf
    have q0 : wf.cell? ⟨g + 1 + 1, 0, none⟩ = some (.slice none 0 0) := kRf.cell 0
    have q1 : wf.cell? ⟨g + 1 + 1 + 1, 0, none⟩ = some (.int .i64 (recE r0)) := kEf.cell 0
    have hme : makeE a b r0 (decide (fg < tg)) = recE r0 := by unfold makeE; rw [if_neg (by rw [← HE.out]; simp), if_pos HR0N.out]
    simp [Leaves, settle, results, Try.results7, go_sem, q0, q1]
    exact ⟨_, by rw [hme], by rw [hme, if_neg HR0N.out], hbf⟩
  have hr00 : recE r0 = 0 := by simpa using hrE
  have HR00 := Lib.hid hr00
  have hput := put_ok q (q + 1) [] Sm0 r0 hr00 n4 (by rw [HRO.out]; exact HN4.out) A4 c4 W4 w.heap.size HB4.out.size (by rw [HRO.out]; exact HR4.out.below HB4.out) hs4 (by rw [HRO.out]; exact fun y hy => (HPS.out y hy).2) HW4.out (by rw [HS4.out]; exact Nat.le_refl _) (by simp) (by have := (encL_len r0 hr00).1; omega)
  rw [HRV.out] at hput
  clear hr00 hrE
  refine hput.mono ?_
  clear hput
  rintro e w5 ⟨rfl, hw5, hb5⟩
  have HKE5 := Lib.hid (HKE4.out.below hb5 (by have := HQ.out; omega))
  have HKR5 := Lib.hid (HKR4.out.below hb5 (by have := HQ.out; omega))
  have HKF5 := Lib.hid (HKF4.out.below hb5 (by have := HQ.out; omega))
  have HKT5 := Lib.hid (HKT4.out.below hb5 (by have := HQ.out; omega))
  have HB5 := Lib.hid (HB4.out.trans (hb5.mono (by have := HQ.out; have := HG.out; omega)))
  have HR55 := Lib.hid (HR54.out.below hb5)
  have HW5 : Hid (WrB w5 q (q + 1) (encAll [r0]) (sumS Sm0 [r0])) := by
    show WrB _ _ _ _ _
    have e1 : encAll [r0] = [] ++ encL r0 := by simp [encAll]
    rw [e1]
    exact hw5
  clear hw5 hb5 f0 f1 f2 f3 f4 t0 t1 t2 t3 t4
  obtain ⟨f0, f1, f2, f3, f4⟩ := blk5 HKF5.out
  obtain ⟨t0, t1, t2, t3, t4⟩ := blk5 HKT5.out
  go_wp2_with fail
  by_cases hlt : ¬ fg < tg
  · have hdl : decide (fg < tg) = false := decide_eq_false hlt
    rw [hdl]
    go_wp2_with fail
    refine (need_bad 0 35 _).mono ?_
    rintro e w6 ⟨rfl, hw6⟩
    rw [hw6]
    clear hw6 w6
    go_wp2_with fail
    refine leaves_cons (f := 20) (args := #[.pointer (some ⟨g + 1 + 1 + 1, 0, none⟩)]) (by simp) (by simp [go_sem]) ?_
    refine (caught_panicking ⟨g + 1 + 1 + 1, 0, none⟩ 0 0 (35) [] w5 HKE5.out.lt (HKE5.out.cell 0) (HKE5.out.frozen 0)).mono ?_
    rintro e u' wd ⟨rfl, rfl, hwd⟩
    have kEd : Blk wd (g + 1 + 1 + 1) 28 #[.int .i64 (35)] := by rw [hwd]; exact (HKE5.out.alloc _).set_ 0 _
    have kRd : Blk wd (g + 1 + 1) 27 #[.slice none 0 0] := by rw [hwd]; exact (HKR5.out.alloc _).far (by simp) _
    have hbd : Below w.heap.size w wd := by rw [hwd]; exact (HB5.out.alloc HB5.out.size _).setCell (by have := HG.out; simp only; omega) _
    clear hwd
    refine leaves_cons (f := 19) (args := #[.pointer (some ⟨g + 1 + 1 + 1, 0, none⟩), .pointer (some ⟨g + 1 + 1, 0, none⟩)]) (by simp [settle]) (by simp [go_sem]) ?_
    refine (mk1_bad (g + 1 + 1 + 1) (g + 1 + 1) (35) (show (35 : Int) ≠ 0 by decide) (.slice none 0 0) _ wd (kEd.cell 0) kRd).mono ?_
    rintro e u' wf ⟨rfl, rfl, hwf⟩
    have kEf : Blk wf (g + 1 + 1 + 1) 28 #[.int .i64 (35)] := by rw [hwf]; exact kEd.far (by simp) _
    have kRf : Blk wf (g + 1 + 1) 27 #[.slice none 0 0] := by rw [hwf]; exact kRd.set_ 0 _
    have hbf : Below w.heap.size w wf := by rw [hwf]; exact hbd.setCell (by have := HG.out; simp only; omega) _
    clear hwf
    have q0 : wf.cell? ⟨g + 1 + 1, 0, none⟩ = some (.slice none 0 0) := kRf.cell 0
    have q1 : wf.cell? ⟨g + 1 + 1 + 1, 0, none⟩ = some (.int .i64 (35)) := kEf.cell 0
    have hme : makeE a b r0 false = 35 := by unfold makeE; rw [if_neg (by rw [← HE.out]; simp), if_neg (by rw [HR00.out]; simp), if_pos rfl]
    simp [Leaves, settle, results, Try.results7, go_sem, q0, q1]
    exact ⟨_, by rw [hme], by rw [hme, if_neg (show (35 : Int) ≠ 0 by decide)], hbf⟩
  have hdl : decide (fg < tg) = true := decide_eq_true (Decidable.not_not.1 hlt)
  rw [hdl]
  have HDL := Lib.hid hdl
  clear hdl
  go_wp2_with fail
  refine (need_ok 0 35 _).mono ?_
  rintro e w6 ⟨rfl, hw6⟩
  rw [hw6]
  clear hw6 w6
  go_wp2_with fail
  have HQ5 : Hid (q ≤ w5.heap.size) := by
    obtain ⟨A9, n9, c9, _, q9, _, _⟩ := HW5.out
    exact Nat.le_of_lt q9.lt
  have hn5b : n5 ≤ 1024 := by have := HOL.out; have := HN5.out; omega
  go_loopw [59] (fun i wr => ∃ k : Nat, k ≤ n5 ∧ i = .int .i64 (k : Int) ∧ Hid (WrB wr q (q + 1) (encAll (r0 :: (o.take k).map rcOf)) (sumS Sm0 (r0 :: (o.take k).map rcOf))) ∧ Hid (Below q w5 wr)) (fun i _ => n5 - (intOf i).toNat)
  case atStart => exact ⟨0, Nat.zero_le _, rfl, HW5.out, Below.refl _ _⟩
  case round =>
    clear HW5
    obtain ⟨k, hk, rfl, HW, HBq⟩ := hrel
    by_cases hlt5 : k < n5
    · obtain ⟨ad, rfl, hadB, hel⟩ := Reads.elAll (enc := encR) (k := 12) encR_len (HR55.out.below HBq.out) HN5.out hlt5
      have hkl : k < o.length := by have := HN5.out; omega
      have HTK : Hid ((o.take (k + 1)).map rcOf = (o.take k).map rcOf ++ [rcOf (o[k]'hkl)]) := by show _ = _; rw [List.take_add_one, List.getElem?_eq_getElem hkl, List.map_append]; rfl
      have HX := Lib.hid (HOK.out _ (List.getElem_mem hkl))
      have hki : (k : Int) < (n5 : Int) := by omega
      obtain ⟨x, hx⟩ : ∃ x, x = o[k]'hkl := ⟨_, rfl⟩
      rw [← hx] at hel HTK HX
      clear hx
      obtain ⟨cs, hcs⟩ : ∃ cs, cs = encR x := ⟨_, rfl⟩
      have hcl : cs.length = 12 := by rw [hcs]; rfl
      have hc1 : ∀ u ∈ cs, u.oneCell' = true := by rw [hcs]; intro u hu; exact rcells_one [x] u (by simpa [cellsK] using hu)
      have HCA : Hid (Value.agg cs.toArray = rcV (rcOf x) (.slice none 0 0)) := by show _ = _; rw [hcs]; rfl
      rw [← hcs] at hel
      clear hcs
      have HEL := Lib.hid hel
      obtain ⟨W1, hW1⟩ : ∃ W, W = wr.alloc (.cells cs.toArray 47) := ⟨_, rfl⟩
      have hL := new_cells wr 47 cs
      have hb1 : Below wr.heap.size wr (wr.alloc (.cells cs.toArray 47)) := (Below.refl _ _).alloc (Nat.le_refl _) _
      rw [← hW1] at hL hb1
      have HL := Lib.hid hL
      have HW1 := Lib.hid (HW.out.below hb1)
      have HBq1 := Lib.hid (HBq.out.trans (hb1.mono (by have := HBq.out.size; have := HQ5.out; omega)))
      have hgw : q + 1 ≤ W1.heap.size := by
        obtain ⟨A9, n9, c9, _, q9, _, _⟩ := HW1.out
        have := q9.lt
        omega
      clear hel hL hb1 hadB HW HBq
      have hol : (encAll (r0 :: (o.take k).map rcOf)).length ≤ 100000000000000 := by
        have h1 : sumE (r0 :: (o.take k).map rcOf) = 0 := (sumE_all _).2 (by
          intro y hy
          rcases List.mem_cons.1 hy with rfl | hy
          · exact HR00.out
          · obtain ⟨z, hz, rfl⟩ := List.mem_map.1 hy
            exact HOK.out z (List.mem_of_mem_take hz))
        have h2 := encAll_len _ h1
        rw [List.length_cons, List.length_map, List.length_take] at h2
        have h3 := HOL.out
        have : min k o.length ≤ 1024 := by omega
        omega
      have hput := put_ok q (q + 1) (encAll (r0 :: (o.take k).map rcOf)) (sumS Sm0 (r0 :: (o.take k).map rcOf)) (rcOf x) HX.out 0 rfl none 0 W1 0 (Nat.zero_le _) Reads.none_ (by omega) (by intro y hy; cases hy) HW1.out hgw hol (by have := (encL_len _ HX.out).1; omega)
      have HPUT := Lib.hid hput
      clear hput hol
      go_wp2_with (first | (refine wpList_load_at rfl 47 (.tmp 61) rfl (ad.add (k * 12)) rfl cs _ HEL.out Try.underlying47 rfl (by rw [hcl]; kernel_rfl) ?_) | (refine wpList_store_new wr rfl 47 (.tmp 14) (.tmp 62) rfl 47 _ cs rfl rfl (by rw [hcl]; rfl) (by rw [hcl]; kernel_rfl) hc1 ?_; rw [← hW1]; clear hW1) | (refine wpList_load_at rfl 47 (.tmp 14) rfl ⟨wr.heap.size, 0, none⟩ rfl cs _ HL.out Try.underlying47 rfl (by rw [hcl]; kernel_rfl) ?_))
      clear HEL HL hcl hc1
      rw [HCA.out]
      refine HPUT.out.mono ?_
      clear HPUT
      rintro e w7 ⟨rfl, hw7, hb7⟩
      have HW7 := Lib.hid hw7
      have HBq7 := Lib.hid (HBq1.out.trans hb7)
      clear hw7 hb7 HW1 HBq1
      go_wp2_with fail
      go_roundw
      case rel =>
        refine ⟨k + 1, by omega, by go_num, ?_, HBq7.out⟩
        show WrB _ _ _ _ _
        rw [HTK.out, ← List.cons_append, encAll_snoc, sumS_snoc]; exact HW7.out
      case measure => simp [intOf]; omega
    · obtain rfl : k = n5 := by omega
      have htl : r0 :: (o.take k).map rcOf = recsL a b r0 := by rw [HRL.out, HN5.out, List.take_length]
      rw [htl] at HW
      have HRS : Hid (sumE (recsL a b r0) = 0) := by
        show _ = _
        rw [HRL.out]
        exact (sumE_all _).2 (by
          intro y hy
          rcases List.mem_cons.1 hy with rfl | hy
          · exact HR00.out
          · obtain ⟨z, hz, rfl⟩ := List.mem_map.1 hy
            exact HOK.out z hz)
      have hol : (encAll (recsL a b r0)).length ≤ 100000000000000 := by
        have h2 := encAll_len _ HRS.out
        rw [HRL.out, List.length_cons, List.length_map] at h2
        rw [HRL.out]
        have h3 := HOL.out
        omega
      obtain ⟨L, hL⟩ : ∃ L, L = recsL a b r0 := ⟨_, rfl⟩
      rw [← hL] at HW hol
      have HLE := Lib.hid hL
      clear htl hL
      obtain ⟨s9, hs9⟩ : ∃ s, s = sumS Sm0 L := ⟨_, rfl⟩
      rw [← hs9] at HW
      have hgw : q + 1 ≤ wr.heap.size := by
        obtain ⟨A9, n9, c9, _, q9, _, _⟩ := HW.out
        have := q9.lt
        omega
      have hput := put_ok q (q + 1) (encAll L) s9 (rcEnd s9) (recE_end s9) 0 rfl none 0 wr 0 (Nat.zero_le _) Reads.none_ (by omega) (by intro y hy; cases hy) HW.out hgw hol (by have := (encL_len _ (recE_end s9)).1; omega)
      obtain ⟨A9, n9, c9, _, hk9, _, _⟩ := HW.out
      obtain ⟨sa, sb, sc, sd⟩ := s9
      have HPUT := Lib.hid hput
      have HS9 := Lib.hid hs9
      have e1 := hk9.cell 1
      have e2 := hk9.cell 2
      have e3 := hk9.cell 3
      have e4 := hk9.cell 4
      simp only [List.getElem?_toArray, List.getElem?_cons_succ, List.getElem?_cons_zero] at e1 e2 e3 e4
      clear hput hol hs9 hk9 HW
      go_wp2_with fail
      refine HPUT.out.mono ?_
      clear HPUT
      rintro e w8 ⟨rfl, hw8, hb8⟩
      have HBq8 := Lib.hid (HBq.out.trans hb8)
      have HKE8 := Lib.hid (HKE5.out.below HBq8.out (by have := HQ.out; omega))
      have HKR8 := Lib.hid (HKR5.out.below HBq8.out (by have := HQ.out; omega))
      have HB8 := Lib.hid (HB5.out.trans (HBq8.out.mono (by have := HQ.out; have := HG.out; omega)))
      obtain ⟨S, hS⟩ : ∃ S, S = makeS a b r0 := ⟨_, rfl⟩
      have hSS : encAll L ++ encL (rcEnd ⟨sa, sb, sc, sd⟩) = S := by rw [hS, HS9.out, HLE.out]; rfl
      rw [hSS] at hw8
      have HS := Lib.hid hS
      clear hS hSS hb8 e1 e2 e3 e4 HBq
      obtain ⟨A8, n8, c8, hn8, hk8, ho8, _⟩ := hw8
      have e0 := hk8.cell 0
      simp only [List.getElem?_toArray, List.getElem?_cons_zero] at e0
      have HN8 := Lib.hid hn8
      have HO8 := Lib.hid ho8
      have HK8 := Lib.hid hk8
      have HSL : Hid (n8 = (makeS a b r0).length) := by show _ = _; rw [hn8, HS.out]
      clear hn8 ho8 hk8
      by_cases hle : ¬ n8 ≤ 32768
      · have hle2 : ¬ (n8 : Int) ≤ 32768 := by omega
        have HDF : Hid (decide ((n8 : Int) ≤ 32768) = false) := decide_eq_false hle2
        have HLE2 : Hid (32768 < n8) := by show _ < _; omega
        clear hle hle2
        go_wp2_with fail
        rw [HDF.out]
        refine (need_bad 0 5 _).mono ?_
        rintro e w6 ⟨rfl, hw6⟩
        rw [hw6]
        clear hw6 w6
        go_wp2_with fail
        refine leaves_cons (f := 20) (args := #[.pointer (some ⟨g + 1 + 1 + 1, 0, none⟩)]) (by simp) (by simp [go_sem]) ?_
        refine (caught_panicking ⟨g + 1 + 1 + 1, 0, none⟩ 0 0 (5) [] w8 HKE8.out.lt (HKE8.out.cell 0) (HKE8.out.frozen 0)).mono ?_
        rintro e u' wd ⟨rfl, rfl, hwd⟩
        have kEd : Blk wd (g + 1 + 1 + 1) 28 #[.int .i64 (5)] := by rw [hwd]; exact (HKE8.out.alloc _).set_ 0 _
        have kRd : Blk wd (g + 1 + 1) 27 #[.slice none 0 0] := by rw [hwd]; exact (HKR8.out.alloc _).far (by simp) _
        have hbd : Below w.heap.size w wd := by rw [hwd]; exact (HB8.out.alloc HB8.out.size _).setCell (by have := HG.out; simp only; omega) _
        clear hwd
        refine leaves_cons (f := 19) (args := #[.pointer (some ⟨g + 1 + 1 + 1, 0, none⟩), .pointer (some ⟨g + 1 + 1, 0, none⟩)]) (by simp [settle]) (by simp [go_sem]) ?_
        refine (mk1_bad (g + 1 + 1 + 1) (g + 1 + 1) (5) (show (5 : Int) ≠ 0 by decide) (.slice none 0 0) _ wd (kEd.cell 0) kRd).mono ?_
        rintro e u' wf ⟨rfl, rfl, hwf⟩
        have kEf : Blk wf (g + 1 + 1 + 1) 28 #[.int .i64 (5)] := by rw [hwf]; exact kEd.far (by simp) _
        have kRf : Blk wf (g + 1 + 1) 27 #[.slice none 0 0] := by rw [hwf]; exact kRd.set_ 0 _
        have hbf : Below w.heap.size w wf := by rw [hwf]; exact hbd.setCell (by have := HG.out; simp only; omega) _
        clear hwf
        have q0 : wf.cell? ⟨g + 1 + 1, 0, none⟩ = some (.slice none 0 0) := kRf.cell 0
        have q1 : wf.cell? ⟨g + 1 + 1 + 1, 0, none⟩ = some (.int .i64 (5)) := kEf.cell 0
        have hme : makeE a b r0 true = 5 := by unfold makeE; rw [if_neg (by rw [← HE.out]; simp), if_neg (by rw [HR00.out]; simp), if_neg (by simp), if_pos (by rw [← HSL.out]; exact HLE2.out)]
        simp [Leaves, settle, results, Try.results7, go_sem, q0, q1]
        exact ⟨_, by rw [hme], by rw [hme, if_neg (show (5 : Int) ≠ 0 by decide)], hbf⟩
      have hle2 : (n8 : Int) ≤ 32768 := by omega
      go_wp2_with fail
      refine (need_ok 0 5 _).mono ?_
      rintro e w6 ⟨rfl, hw6⟩
      rw [hw6]
      clear hw6 w6
      have zz0 := HKR8.out.cell 0
      have zz1 := HKE8.out.cell 0
      simp only [List.getElem?_toArray, List.getElem?_cons_zero] at zz0 zz1
      have zf0 := HKR8.out.frozen 0
      have zf1 := HKE8.out.frozen 0
      have kR := ((HKR8.out.set_ 0 (.slice A8 n8 c8)).far (p := ⟨g + 1 + 1 + 1, 0, none⟩) (by simp) (.int .i64 0))
      have kE := ((HKE8.out.far (p := ⟨g + 1 + 1, 0, none⟩) (by simp) (.slice A8 n8 c8)).set_ 0 (.int .i64 0))
      have bE := ((HB8.out.setCell (p := ⟨g + 1 + 1, 0, none⟩) (by have := HG.out; simp only; omega) (.slice A8 n8 c8)).setCell (p := ⟨g + 1 + 1 + 1, 0, none⟩) (by have := HG.out; simp only; omega) (.int .i64 0))
      have oE := own_setCell_below (own_setCell_below HO8.out (p := ⟨g + 1 + 1, 0, none⟩) (by have := HQ.out; simp only; omega) (.slice A8 n8 c8)) (p := ⟨g + 1 + 1 + 1, 0, none⟩) (by have := HQ.out; simp only; omega) (.int .i64 0)
      have KR := Lib.hid kR
      have KE := Lib.hid kE
      have BE := Lib.hid bE
      have OE := Lib.hid oE
      clear kR kE bE oE HKR8 HKE8 HB8 HO8
      go_wp2_with fail
      obtain ⟨WE, hWE⟩ : ∃ W, W = (w8.setCell ⟨g + 1 + 1, 0, none⟩ (.slice A8 n8 c8)).setCell ⟨g + 1 + 1 + 1, 0, none⟩ (.int .i64 0) := ⟨_, rfl⟩
      rw [← hWE] at KR KE BE OE ⊢
      clear hWE
      refine leaves_cons (f := 20) (args := #[.pointer (some ⟨g + 1 + 1 + 1, 0, none⟩)]) (by simp) (by simp [go_sem]) ?_
      refine (caught_idle ⟨g + 1 + 1 + 1, 0, none⟩ _).mono ?_
      rintro e u' wd ⟨rfl, rfl, hwd⟩
      have kEd : Blk wd (g + 1 + 1 + 1) 28 #[.int .i64 0] := by rw [hwd]; exact KE.out.alloc _
      have kRd : Blk wd (g + 1 + 1) 27 #[.slice A8 n8 c8] := by rw [hwd]; exact KR.out.alloc _
      have hbd : Below w.heap.size w wd := by rw [hwd]; exact BE.out.alloc BE.out.size _
      have hod : wd.ownsRow (q + 1) 5 1 (.slice A8 n8 c8) n8 (bts S) := by rw [hwd]; exact own_below OE.out ((Below.refl _ _).alloc (Nat.le_refl _) _)
      clear hwd
      refine leaves_cons (f := 19) (args := #[.pointer (some ⟨g + 1 + 1 + 1, 0, none⟩), .pointer (some ⟨g + 1 + 1, 0, none⟩)]) (by simp [settle]) (by simp [go_sem]) ?_
      refine (mk1_ok (g + 1 + 1 + 1) ⟨g + 1 + 1, 0, none⟩ _ wd (kEd.cell 0)).mono ?_
      rintro e u' wf ⟨rfl, rfl, rfl⟩
      have q0 : wf.cell? ⟨g + 1 + 1, 0, none⟩ = some (.slice A8 n8 c8) := kRd.cell 0
      have q1 : wf.cell? ⟨g + 1 + 1 + 1, 0, none⟩ = some (.int .i64 0) := kEd.cell 0
      have hme : makeE a b r0 true = 0 := by unfold makeE; rw [if_neg (by rw [← HE.out]; simp), if_neg (by rw [HR00.out]; simp), if_neg (by simp), if_neg (by rw [← HSL.out]; omega)]
      simp [Leaves, settle, results, Try.results7, go_sem, q0, q1]
      rw [HDL.out]
      refine ⟨_, by rw [hme], ?_, hbd⟩
      rw [hme, if_pos rfl, ← HSL.out, ← HS.out]
      exact own_mono hod (by have := HQ.out; have := HG.out; omega)
end Go.Proofs.Ytcbeadldieeceaa
