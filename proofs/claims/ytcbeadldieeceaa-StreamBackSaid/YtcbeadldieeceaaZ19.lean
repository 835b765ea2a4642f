/-
  stream.reader.take, by its contracts.
-/
import Derived.Deep.Cut
import Derived.Deep.CutRange
import Derived.Test.YtcbeadldieeceaaZ10
import Derived.Test.YtcbeadldieeceaaZ14
import Derived.Test.YtcbeadldieeceaaZ18
namespace Go.Proofs.Ytcbeadldieeceaa
open Go.RowKit

/-- a reader's box: the state, the sum, the records that came -/
def RdCells (s n : Int) (sm : Sm) (v : Value) : Array Value := #[.int .i64 s, .int .i64 n, .int .u64 sm.a, .int .u64 sm.b, .int .u64 sm.c, .int .u64 sm.d, v]
def RdB (w : World) (q base : Nat) (s n : Int) (sm : Sm) (ys : List RcR) : Prop :=
  ∃ A k c, k = ys.length ∧ Blk w q 74 (RdCells s n sm (.slice A k c)) ∧ w.ownsRow base 47 12 (.slice A k c) k (cellsK RcR.cs ys) ∧ q < base
theorem blk7 {w : World} {g : Nat} {t : TypeId} {c0 c1 c2 c3 c4 c5 c6 : Value} (h : Blk w g t #[c0, c1, c2, c3, c4, c5, c6]) :
    (w.cell? ⟨g, 0, none⟩ = some c0 ∧ w.cell? ⟨g, 1, none⟩ = some c1 ∧ w.cell? ⟨g, 2, none⟩ = some c2 ∧ w.cell? ⟨g, 3, none⟩ = some c3 ∧ w.cell? ⟨g, 4, none⟩ = some c4 ∧ w.cell? ⟨g, 5, none⟩ = some c5 ∧ w.cell? ⟨g, 6, none⟩ = some c6) ∧
    (w.frozen? ⟨g, 0, none⟩ = false ∧ w.frozen? ⟨g, 1, none⟩ = false ∧ w.frozen? ⟨g, 2, none⟩ = false ∧ w.frozen? ⟨g, 3, none⟩ = false ∧ w.frozen? ⟨g, 4, none⟩ = false ∧ w.frozen? ⟨g, 5, none⟩ = false ∧ w.frozen? ⟨g, 6, none⟩ = false) :=
  ⟨⟨by simpa using h.cell 0, by simpa using h.cell 1, by simpa using h.cell 2, by simpa using h.cell 3, by simpa using h.cell 4, by simpa using h.cell 5, by simpa using h.cell 6⟩, ⟨h.frozen 0, h.frozen 1, h.frozen 2, h.frozen 3, h.frozen 4, h.frozen 5, h.frozen 6⟩⟩
/-- the blocks of one element type stay -/
def KeepB (t : TypeId) (w w' : World) : Prop := ∀ g cs, Blk w g t cs → Blk w' g t cs
section
variable {t e : TypeId} {w w' w'' : World} {base k n : Nat} {v : Value} {xs : List Value}
theorem KeepB.refl (t : TypeId) (w : World) : KeepB t w w := fun _ _ h => h
theorem KeepB.trans (h : KeepB t w w') (h' : KeepB t w' w'') : KeepB t w w'' := fun g cs hb => h' g cs (h g cs hb)
theorem KeepB.of_below (h : Below w.heap.size w w') : KeepB t w w' := fun _ _ hb => hb.below h hb.lt
theorem KeepB.of_grown (hs : w.ownsRow base e k v n xs) (hne : t ≠ e) (h : w.grownBy w' v.ownBlock) : KeepB t w w' := fun _ _ hb => hb.grown h (fun he => own_blk_ne hs hb (Ne.symm hne) he.symm)
theorem KeepB.of_box {g i : Nat} {u : Value} {cs : Array Value} (hg : Blk w g e cs) (hne : t ≠ e) : KeepB t w (w.setCell ⟨g, i, none⟩ u) := fun _ _ hb => hb.far (p := ⟨g, i, none⟩) (Blk.ne_ hb hg hne) u
theorem KeepB.own (h : KeepB t w w') (hr : w.ownsRow base t k v n xs) : w'.ownsRow base t k v n xs := by
  refine ⟨hr.1, ?_⟩
  rcases hr.2 with h0 | ⟨g, cap, cur, hv, hb, hh, r⟩
  · exact .inl h0
  · exact .inr ⟨g, cap, cur, hv, hb, h g cur hh, r⟩
end
theorem propT_ne : 91 ≠ 74 ∧ 91 ≠ 47 := by decide
def TakePost (q base : Nat) (s n : Int) (sm : Sm) (ys : List RcR) (x : RcR) (raw : BS) (at_ : Int) (w : World) (e : Ending) (w' : World) : Prop :=
  Below q w w' ∧ KeepB 91 w w' ∧ (if (afterL s n x.r).2.2 = false then e = .panicked [{ v := faultV at_ 35, recovered := false }] else if (x.r.kind == 4 && !smB x.r.sm sm) = true then e = .panicked [{ v := faultV at_ 34, recovered := false }]
    else e = .returned (.tuple #[]) ∧ RdB w' q base (afterL s n x.r).1 (afterL s n x.r).2.1 (feedL sm (words raw)) (ys ++ [x]))
set_option maxRecDepth 100000 in
set_option maxHeartbeats 4000000 in
theorem take_any (q base : Nat) (s n : Int) (sm : Sm) (ys : List RcR) (hs1 : 0 ≤ s) (hs2 : s ≤ 2) (hn1 : 0 ≤ n) (hn2 : n ≤ 1024) (r : Rc) (hE : recE r = 0) (n1 : Nat) (hn : n1 = r.own.length) (A1 : Option Addr) (c1 : Nat) (w : World) (B1 : Nat) (hB1 : B1 ≤ w.heap.size) (hr1 : Reads w B1 2 A1 n1 (pcells r.own)) (hn5 : n1 ≤ 5000000000000) (hv : ∀ x ∈ r.own, x.2.length ≤ 140737488351232)
    (hq : RdB w q base s n sm ys) (hys : ys.length ≤ 100000) (hbs : base ≤ w.heap.size) (raw : BS) (n2 : Nat) (h2 : n2 = raw.length) (A2 : Option Addr) (c2 : Nat) (B2 : Nat) (hB2 : B2 ≤ q) (hr2 : Reads w B2 1 A2 n2 (bts raw)) (hc2 : n2 ≤ c2) (hl2 : n2 ≤ 140737488351232) (at_ : Int) :
    Calls Try.prog 27 #[.pointer (some ⟨q, 0, none⟩), rcV r (.slice A1 n1 c1), .slice A2 n2 c2, .int .i64 at_] w (TakePost q base s n sm ys ⟨r, A1, n1, c1⟩ raw at_ w) := by
  obtain ⟨i0, hi0, hz0, hz1, hz2⟩ := info_parts Try.infoR
  obtain ⟨A, k, c, hk, hblk, hown, hqb⟩ := hq
  have hst := fun W (hb : Below w.heap.size w W) => step_any s n hs1 hs2 hn1 hn2 r hE n1 hn A1 c1 W B1 (Nat.le_trans hB1 hb.size) (hr1.below (hb.mono hB1)) hn5 hv
  obtain ⟨⟨a', b', ok⟩, hA⟩ : ∃ x : Int × Int × Bool, x = afterL s n r := ⟨_, rfl⟩
  unfold stepV at hst
  rw [← hA] at hst
  simp only at hst
  obtain ⟨TP, hTP⟩ : ∃ T, T = TakePost q base s n sm ys ⟨r, A1, n1, c1⟩ raw at_ w := ⟨_, rfl⟩
  have HP1 : Hid (ok = false → ∀ w', Below q w w' → KeepB 91 w w' → TP (.panicked [{ v := faultV at_ 35, recovered := false }]) w') := by
    intro h w' hb hkb
    rw [hTP]
    refine ⟨hb, hkb, ?_⟩
    simp [← hA, h]
  have HP2 : Hid (ok = true → (r.kind == 4 && !smB r.sm sm) = true → ∀ w', Below q w w' → KeepB 91 w w' → TP (.panicked [{ v := faultV at_ 34, recovered := false }]) w') := by
    intro h h2 w' hb hkb
    rw [hTP]
    refine ⟨hb, hkb, ?_⟩
    simp only [← hA, h, h2]
    simp
  have HP3 : Hid (ok = true → (r.kind == 4 && !smB r.sm sm) = false → ∀ w', Below q w w' → KeepB 91 w w' → RdB w' q base a' b' (feedL sm (words raw)) (ys ++ [⟨r, A1, n1, c1⟩]) → TP (.returned (.tuple #[])) w') := by
    intro h h2 w' hb hkb h3
    rw [hTP]
    refine ⟨hb, hkb, ?_⟩
    simp only [← hA, h, h2]
    simp only [Bool.true_eq_false, Bool.false_eq_true, if_false]
    exact ⟨by trivial, h3⟩
  rw [← hTP]
  clear hTP
  obtain ⟨⟨a, b, E⟩, hX⟩ : ∃ x : Int × Int × Int, x = if ok = true then (a', b', 0) else (0, 0, 35) := ⟨_, rfl⟩
  have hV : (if ok = true then Value.tuple #[.agg #[.int .i64 a', .int .i64 b'], .int .i64 0] else .tuple #[.agg #[.int .i64 0, .int .i64 0], .int .i64 35]) = .tuple #[.agg #[.int .i64 a, .int .i64 b], .int .i64 E] := by
    cases ok <;> (simp at hX; obtain ⟨rfl, rfl, rfl⟩ := hX; rfl)
  rw [hV] at hst
  have hlt := hblk.lt
  obtain ⟨sa, sb, sc, sd⟩ := sm
  replace hblk : Blk w q 74 #[.int .i64 s, .int .i64 n, .int .u64 sa, .int .u64 sb, .int .u64 sc, .int .u64 sd, .slice A k c] := hblk
  obtain ⟨X, hXX⟩ : ∃ X : RcR, X = ⟨r, A1, n1, c1⟩ := ⟨_, rfl⟩
  rw [← hXX] at HP3
  have HXC : Hid (X.cs = [.int .i64 r.kind, .string ⟨r.nm.toArray⟩, .int .i64 r.frm, .int .i64 r.gd, .slice A1 n1 c1, .int .i64 r.ix, .int .i64 r.ct, .string ⟨r.dt.toArray⟩, .int .u64 r.sm.a, .int .u64 r.sm.b, .int .u64 r.sm.c, .int .u64 r.sm.d]) := by show _ = _; rw [hXX]; rfl
  obtain ⟨rk, rn, rf, rg, ro, ri, rc, rd, ⟨ra, rb, rx, ry⟩⟩ := r
  simp only at HXC
  have HK := Lib.hid hk
  have HX := Lib.hid hX
  have HR2 := Lib.hid hr2
  have H2 := Lib.hid h2
  clear hk hr1 hv hn hB1 hn5 hE hA hV hXX hX hr2 h2
  obtain ⟨W0, hW0⟩ : ∃ W, W = w.alloc (.cells #[.int .i64 rk, .string ⟨rn.toArray⟩, .int .i64 rf, .int .i64 rg, .slice A1 n1 c1, .int .i64 ri, .int .i64 rc, .string ⟨rd.toArray⟩, .int .u64 ra, .int .u64 rb, .int .u64 rx, .int .u64 ry] 47) := ⟨_, rfl⟩
  obtain ⟨g, hg⟩ : ∃ g, g = w.heap.size := ⟨_, rfl⟩
  have kR : Blk W0 g 47 #[.int .i64 rk, .string ⟨rn.toArray⟩, .int .i64 rf, .int .i64 rg, .slice A1 n1 c1, .int .i64 ri, .int .i64 rc, .string ⟨rd.toArray⟩, .int .u64 ra, .int .u64 rb, .int .u64 rx, .int .u64 ry] := by
    rw [hW0, hg]; exact Blk.new w _ _
  have kQ : Blk W0 q 74 #[.int .i64 s, .int .i64 n, .int .u64 sa, .int .u64 sb, .int .u64 sc, .int .u64 sd, .slice A k c] := by rw [hW0]; exact hblk.alloc _
  have hb0 : Below w.heap.size w W0 := by rw [hW0]; exact (Below.refl _ _).alloc (Nat.le_refl _) _
  have HST := Lib.hid (hst W0.drew hb0.drew)
  have HB := Lib.hid hb0
  have HO := Lib.hid (own_below hown hb0)
  have hqg : q < g := by omega
  have HG := Lib.hid hg
  have HR := Lib.hid kR
  have HQ := Lib.hid kQ
  obtain ⟨⟨q0, q1, q2, q3, q4, q5, q6⟩, ⟨f0, f1, f2, f3, f4, f5, f6⟩⟩ := blk7 kQ
  obtain ⟨a0, a1, a2, a3, a4, a5, a6, a7, a8, a9, a10, a11⟩ := blk12 kR
  clear hb0 kR kQ hst hblk hown
  show Calls Try.prog 27 #[.pointer (some ⟨q, 0, none⟩), .agg #[.int .i64 rk, .string ⟨rn.toArray⟩, .int .i64 rf, .int .i64 rg, .slice A1 n1 c1, .int .i64 ri, .int .i64 rc, .string ⟨rd.toArray⟩, .int .u64 ra, .int .u64 rb, .int .u64 rx, .int .u64 ry], .slice A2 n2 c2, .int .i64 at_] w _
  go_enter Try.func27, Try.ntmps27
  go_upto_region 1 with (fail)
  rw [← hW0, ← hg]
  clear hW0 hg
  go_wp2_with fail
  go_cut [0, 2, 3, 5, 8] from 0 to 20 (fun s0 s2 s3 s5 s8 wx => s0 = .pointer (some ⟨q, 0, none⟩) ∧ s2 = .slice A2 n2 c2 ∧ s3 = .int .i64 at_ ∧ s5 = .pointer (some ⟨g, 0, none⟩) ∧ s8 = .int .i64 E ∧ Hid (Blk wx q 74 #[.int .i64 a, .int .i64 b, .int .u64 sa, .int .u64 sb, .int .u64 sc, .int .u64 sd, .slice A k c]) ∧ Hid (Blk wx g 47 #[.int .i64 rk, .string ⟨rn.toArray⟩, .int .i64 rf, .int .i64 rg, .slice A1 n1 c1, .int .i64 ri, .int .i64 rc, .string ⟨rd.toArray⟩, .int .u64 ra, .int .u64 rb, .int .u64 rx, .int .u64 ry]) ∧ Hid (wx.ownsRow base 47 12 (.slice A k c) k (cellsK RcR.cs ys)) ∧ Hid (Below q w wx) ∧ Hid (KeepB 91 w wx))
  case first =>
    go_region_with (refine HST.out.mono ?_; rintro e w1 ⟨rfl, hb1⟩; have hb1' := ((Below.refl _ _).drew).trans hb1; have HR1 := Lib.hid (HR.out.below hb1' HR.out.lt); have HQ1 := Lib.hid (HQ.out.below hb1' HQ.out.lt); have HO1 := Lib.hid (own_below HO.out hb1'); have HB1 := Lib.hid (HB.out.trans (hb1'.mono HB.out.size)); clear hb1 hb1' q0 q1 q2 q3 q4 q5 q6 f0 f1 f2 f3 f4 f5 f6; obtain ⟨⟨q0, q1, q2, q3, q4, q5, q6⟩, ⟨f0, f1, f2, f3, f4, f5, f6⟩⟩ := blk7 HQ1.out)
    all_goals
      have h1 := (HQ1.out.set_ 0 (.int .i64 a)).set_ 1 (.int .i64 b)
      have h2 := ((HR1.out.far (p := ⟨q, 0, none⟩) (by simp only; omega) (.int .i64 a)).far (p := ⟨q, 1, none⟩) (by simp only; omega) (.int .i64 b))
      have h3 := own_setCell_below (own_setCell_below HO1.out (p := ⟨q, 0, none⟩) hqb (.int .i64 a)) (p := ⟨q, 1, none⟩) hqb (.int .i64 b)
      have h4 := ((HB1.out.mono (Nat.le_of_lt hlt)).setCell (p := ⟨q, 0, none⟩) (Nat.le_refl _) (.int .i64 a)).setCell (p := ⟨q, 1, none⟩) (Nat.le_refl _) (.int .i64 b)
      have h5 : KeepB 91 w _ := ((KeepB.of_below HB1.out).trans (KeepB.of_box (i := 0) (u := .int .i64 a) HQ1.out propT_ne.1)).trans (KeepB.of_box (i := 1) (u := .int .i64 b) (HQ1.out.set_ 0 (.int .i64 a)) propT_ne.1)
      have HH := Lib.hid (show _ ∧ _ ∧ _ ∧ _ ∧ _ from ⟨h1, h2, h3, h4, h5⟩)
      clear h1 h2 h3 h4 h5 q0 q1 q2 q3 q4 q5 q6 f0 f1 f2 f3 f4 f5 f6
      go_wp2_with fail
      go_meet
      exact ⟨rfl, rfl, rfl, rfl, rfl, HH.out.1, HH.out.2.1, HH.out.2.2.1, HH.out.2.2.2.1, HH.out.2.2.2.2⟩
  case rest =>
  clear HST HR HQ HO HB q0 q1 q2 q3 q4 q5 q6 f0 f1 f2 f3 f4 f5 f6 a0 a1 a2 a3 a4 a5 a6 a7 a8 a9 a10 a11
  obtain ⟨rfl, rfl, rfl, rfl, rfl, HQc, HRc, HOc, HBc, HKc⟩ := hcut
  obtain ⟨⟨q0, q1, q2, q3, q4, q5, q6⟩, ⟨f0, f1, f2, f3, f4, f5, f6⟩⟩ := blk7 HQc.out
  obtain ⟨a0, a1, a2, a3, a4, a5, a6, a7, a8, a9, a10, a11⟩ := blk12 HRc.out
  cases ok with
  | false =>
    have hx := HX.out
    simp only [Bool.false_eq_true, if_false, Prod.mk.injEq] at hx
    obtain ⟨rfl, rfl, rfl⟩ := hx
    go_wp2_with fail
    refine (need_bad at_ 35 _).mono ?_
    rintro e w3 ⟨rfl, hw3⟩
    rw [hw3]
    clear hw3
    go_wp2_with fail
    exact ⟨rfl, HP1.out (by simp) _ HBc.out HKc.out⟩
  | true =>
    have hx := HX.out
    simp only [if_true, Prod.mk.injEq] at hx
    obtain ⟨rfl, rfl, rfl⟩ := hx
    go_wp2_with fail
    refine (need_ok at_ 0 _).mono ?_
    rintro e w3 ⟨rfl, hw3⟩
    rw [hw3]
    clear hw3 w3
    go_wp2_with fail
    by_cases hk4 : rk = 4 ∧ ¬ (⟨ra, rb, rx, ry⟩ : Sm) = ⟨sa, sb, sc, sd⟩
    · obtain ⟨rfl, hsm⟩ := hk4
      have hd : (ra == sa) = false ∨ (ra = sa ∧ (rb == sb) = false) ∨ (ra = sa ∧ rb = sb ∧ (rx == sc) = false) ∨ (ra = sa ∧ rb = sb ∧ rx = sc ∧ (ry == sd) = false) := by
        simp only [Sm.mk.injEq, not_and, beq_eq_false_iff_ne, ne_eq] at hsm ⊢
        by_cases h1 : ra = sa
        · by_cases h2 : rb = sb
          · by_cases h3 : rx = sc
            · exact .inr (.inr (.inr ⟨h1, h2, h3, hsm h1 h2 h3⟩))
            · exact .inr (.inr (.inl ⟨h1, h2, h3⟩))
          · exact .inr (.inl ⟨h1, h2⟩)
        · exact .inl h1
      have HSM : Hid (smB ⟨ra, rb, rx, ry⟩ ⟨sa, sb, sc, sd⟩ = false) := by
        show _ = _
        rw [← Bool.not_eq_true, smB_iff]
        exact hsm
      clear hsm
      have hS := Lib.hid (fun (W : World) (hb : Below wc.heap.size wc W) => (show _ ∧ _ ∧ _ ∧ _ ∧ _ ∧ _ ∧ _ ∧ _ ∧ _ ∧ _ ∧ _ ∧ _ from (fun k1 k2 => ⟨k1.1.1, k1.1.2.1, k1.1.2.2.1, k1.1.2.2.2.1, k1.1.2.2.2.2.1, k1.1.2.2.2.2.2.1, k1.1.2.2.2.2.2.2, k2.1, k2.2.2.2.2.2.2.2.2.1, k2.2.2.2.2.2.2.2.2.2.1, k2.2.2.2.2.2.2.2.2.2.2.1, k2.2.2.2.2.2.2.2.2.2.2.2⟩) (blk7 (HQc.out.below hb HQc.out.lt)) (blk12 (HRc.out.below hb HRc.out.lt))))
      clear q0 q1 q2 q3 q4 q5 q6 f0 f1 f2 f3 f4 f5 f6 a0 a1 a2 a3 a4 a5 a6 a7 a8 a9 a10 a11
      refine wp_region_good2 (by kernel_rfl) (by kernel_rfl) [(fun v _ => v = .pointer (some ⟨g, 0, none⟩)),
    (fun v _ => v = .int .i64 4),
    (fun v _ => v = .bool false),
    (fun v _ => v = .bool false),
    (fun v _ => v = .pointer (some ⟨g, 8, none⟩)),
    (fun v _ => v = .agg #[.int .u64 ra, .int .u64 rb, .int .u64 rx, .int .u64 ry]),
    (fun v _ => v = .pointer (some ⟨q, 0, none⟩)),
    (fun v _ => v = .pointer (some ⟨q, 0, none⟩)),
    (fun v _ => v = .pointer (some ⟨q, 2, none⟩)),
    (fun v _ => v = .agg #[.int .u64 sa, .int .u64 sb, .int .u64 sc, .int .u64 sd]),
    (fun v _ => v = .bool false),
    (fun v _ => v = .bool false),
    (fun v _ => v = .int .i64 at_),
    (fun _ _ => False)] ?_ ?_ ?_
      · repeat' (first | exact stays_nil | refine stays_cons ?_ ?_ | exact Stays.pure)
      · intro i oo ho m2 W hb0 hmi hcl hdeps AA KK hA hK
        rcases i with _ | _ | _ | _ | _ | _ | _ | _ | _ | _ | _ | _ | _ | _ | i
        · injection ho with ho
          subst ho
          have ef5 : AA.tmps[5]?.getD undef = .pointer (some ⟨g, 0, none⟩) := by rw [hA]; exact tmps_free (by kernel_rfl)
          clear hA hdeps hcl hmi
          have hK0 : KK (AA.put (some 26) _) _ := hK (.pointer (some ⟨g, 0, none⟩)) _ (Below.refl _ _) (Eq.refl _)
          clear hK
          go_simp
          exact hK0
        · injection ho with ho
          subst ho
          obtain ⟨x0, hx0, hg0⟩ := hdeps ⟨0, .data⟩ (by simp) rfl
          have hg0 : x0 = .pointer (some ⟨g, 0, none⟩) := hg0
          subst hg0
          have e0 : AA.tmps[26]?.getD undef = .pointer (some ⟨g, 0, none⟩) := by rw [hA]; exact tmps_own (by kernel_rfl) hx0 (of_decide_eq_true (by kernel_rfl))
          clear hA hdeps hcl hmi hx0
          obtain ⟨q0, q1, q2, q3, q4, q5, q6, d0, d8, d9, d10, d11⟩ := hS.out W hb0
          have hK0 : KK (AA.put (some 27) _) _ := hK (.int .i64 4) _ (Below.refl _ _) (Eq.refl _)
          clear hK
          go_simp
          exact hK0
        · injection ho with ho
          subst ho
          obtain ⟨x1, hx1, hg1⟩ := hdeps ⟨1, .data⟩ (by simp) rfl
          have hg1 : x1 = .int .i64 4 := hg1
          subst hg1
          have e1 : AA.tmps[27]?.getD undef = .int .i64 4 := by rw [hA]; exact tmps_own (by kernel_rfl) hx1 (of_decide_eq_true (by kernel_rfl))
          clear hA hdeps hcl hmi hx1
          have hK0 : KK (AA.put (some 28) _) _ := hK (.bool false) _ (Below.refl _ _) (Eq.refl _)
          clear hK
          go_simp
          exact hK0
        · injection ho with ho
          subst ho
          obtain ⟨x2, hx2, hg2⟩ := hdeps ⟨2, .data⟩ (by simp) rfl
          have hg2 : x2 = .bool false := hg2
          subst hg2
          have e2 : AA.tmps[28]?.getD undef = .bool false := by rw [hA]; exact tmps_own (by kernel_rfl) hx2 (of_decide_eq_true (by kernel_rfl))
          clear hA hdeps hcl hmi hx2
          have hK0 : KK (AA.put (some 29) _) _ := hK (.bool false) _ (Below.refl _ _) (Eq.refl _)
          clear hK
          go_simp
          exact hK0
        · injection ho with ho
          subst ho
          obtain ⟨x3, hx3, hg3⟩ := hdeps ⟨3, .guard⟩ (by simp) rfl
          have hg3 : x3 = .bool false := hg3
          subst hg3
          have e3 : AA.tmps[29]?.getD undef = .bool false := by rw [hA]; exact tmps_own (by kernel_rfl) hx3 (of_decide_eq_true (by kernel_rfl))
          have ef5 : AA.tmps[5]?.getD undef = .pointer (some ⟨g, 0, none⟩) := by rw [hA]; exact tmps_free (by kernel_rfl)
          clear hA hdeps hcl hmi hx3
          rw [if_pos (wanted_of (k := 29) rfl rfl e3)]
          have hK0 : KK (AA.put (some 30) _) _ := hK (.pointer (some ⟨g, 8, none⟩)) _ (Below.refl _ _) (Eq.refl _)
          clear hK
          go_simp
          exact hK0
        · injection ho with ho
          subst ho
          obtain ⟨x3, hx3, hg3⟩ := hdeps ⟨3, .guard⟩ (by simp) rfl
          have hg3 : x3 = .bool false := hg3
          subst hg3
          have e3 : AA.tmps[29]?.getD undef = .bool false := by rw [hA]; exact tmps_own (by kernel_rfl) hx3 (of_decide_eq_true (by kernel_rfl))
          obtain ⟨x4, hx4, hg4⟩ := hdeps ⟨4, .data⟩ (by simp) rfl
          have hg4 : x4 = .pointer (some ⟨g, 8, none⟩) := hg4
          subst hg4
          have e4 : AA.tmps[30]?.getD undef = .pointer (some ⟨g, 8, none⟩) := by rw [hA]; exact tmps_own (by kernel_rfl) hx4 (of_decide_eq_true (by kernel_rfl))
          clear hA hdeps hcl hmi hx3 hx4
          rw [if_pos (wanted_of (k := 29) rfl rfl e3)]
          obtain ⟨q0, q1, q2, q3, q4, q5, q6, d0, d8, d9, d10, d11⟩ := hS.out W hb0
          have hK0 : KK (AA.put (some 31) _) _ := hK (.agg #[.int .u64 ra, .int .u64 rb, .int .u64 rx, .int .u64 ry]) _ (Below.refl _ _) (Eq.refl _)
          clear hK
          go_simp
          exact hK0
        · injection ho with ho
          subst ho
          obtain ⟨x3, hx3, hg3⟩ := hdeps ⟨3, .guard⟩ (by simp) rfl
          have hg3 : x3 = .bool false := hg3
          subst hg3
          have e3 : AA.tmps[29]?.getD undef = .bool false := by rw [hA]; exact tmps_own (by kernel_rfl) hx3 (of_decide_eq_true (by kernel_rfl))
          have ef0 : AA.tmps[0]?.getD undef = .pointer (some ⟨q, 0, none⟩) := by rw [hA]; exact tmps_free (by kernel_rfl)
          clear hA hdeps hcl hmi hx3
          rw [if_pos (wanted_of (k := 29) rfl rfl e3)]
          have hK0 : KK (AA.put (some 32) _) _ := hK (.pointer (some ⟨q, 0, none⟩)) _ (Below.refl _ _) (Eq.refl _)
          clear hK
          go_simp
          exact hK0
        · injection ho with ho
          subst ho
          obtain ⟨x3, hx3, hg3⟩ := hdeps ⟨3, .guard⟩ (by simp) rfl
          have hg3 : x3 = .bool false := hg3
          subst hg3
          have e3 : AA.tmps[29]?.getD undef = .bool false := by rw [hA]; exact tmps_own (by kernel_rfl) hx3 (of_decide_eq_true (by kernel_rfl))
          obtain ⟨x6, hx6, hg6⟩ := hdeps ⟨6, .data⟩ (by simp) rfl
          have hg6 : x6 = .pointer (some ⟨q, 0, none⟩) := hg6
          subst hg6
          have e6 : AA.tmps[32]?.getD undef = .pointer (some ⟨q, 0, none⟩) := by rw [hA]; exact tmps_own (by kernel_rfl) hx6 (of_decide_eq_true (by kernel_rfl))
          clear hA hdeps hcl hmi hx3 hx6
          rw [if_pos (wanted_of (k := 29) rfl rfl e3)]
          have hK0 : KK (AA.put (some 33) _) _ := hK (.pointer (some ⟨q, 0, none⟩)) _ (Below.refl _ _) (Eq.refl _)
          clear hK
          go_simp
          exact hK0
        · injection ho with ho
          subst ho
          obtain ⟨x3, hx3, hg3⟩ := hdeps ⟨3, .guard⟩ (by simp) rfl
          have hg3 : x3 = .bool false := hg3
          subst hg3
          have e3 : AA.tmps[29]?.getD undef = .bool false := by rw [hA]; exact tmps_own (by kernel_rfl) hx3 (of_decide_eq_true (by kernel_rfl))
          obtain ⟨x7, hx7, hg7⟩ := hdeps ⟨7, .data⟩ (by simp) rfl
          have hg7 : x7 = .pointer (some ⟨q, 0, none⟩) := hg7
          subst hg7
          have e7 : AA.tmps[33]?.getD undef = .pointer (some ⟨q, 0, none⟩) := by rw [hA]; exact tmps_own (by kernel_rfl) hx7 (of_decide_eq_true (by kernel_rfl))
          clear hA hdeps hcl hmi hx3 hx7
          rw [if_pos (wanted_of (k := 29) rfl rfl e3)]
          have hK0 : KK (AA.put (some 34) _) _ := hK (.pointer (some ⟨q, 2, none⟩)) _ (Below.refl _ _) (Eq.refl _)
          clear hK
          go_simp
          exact hK0
        · injection ho with ho
          subst ho
          obtain ⟨x3, hx3, hg3⟩ := hdeps ⟨3, .guard⟩ (by simp) rfl
          have hg3 : x3 = .bool false := hg3
          subst hg3
          have e3 : AA.tmps[29]?.getD undef = .bool false := by rw [hA]; exact tmps_own (by kernel_rfl) hx3 (of_decide_eq_true (by kernel_rfl))
          obtain ⟨x8, hx8, hg8⟩ := hdeps ⟨8, .data⟩ (by simp) rfl
          have hg8 : x8 = .pointer (some ⟨q, 2, none⟩) := hg8
          subst hg8
          have e8 : AA.tmps[34]?.getD undef = .pointer (some ⟨q, 2, none⟩) := by rw [hA]; exact tmps_own (by kernel_rfl) hx8 (of_decide_eq_true (by kernel_rfl))
          clear hA hdeps hcl hmi hx3 hx8
          rw [if_pos (wanted_of (k := 29) rfl rfl e3)]
          obtain ⟨q0, q1, q2, q3, q4, q5, q6, d0, d8, d9, d10, d11⟩ := hS.out W hb0
          have hK0 : KK (AA.put (some 35) _) _ := hK (.agg #[.int .u64 sa, .int .u64 sb, .int .u64 sc, .int .u64 sd]) _ (Below.refl _ _) (Eq.refl _)
          clear hK
          go_simp
          exact hK0
        · injection ho with ho
          subst ho
          obtain ⟨x3, hx3, hg3⟩ := hdeps ⟨3, .guard⟩ (by simp) rfl
          have hg3 : x3 = .bool false := hg3
          subst hg3
          have e3 : AA.tmps[29]?.getD undef = .bool false := by rw [hA]; exact tmps_own (by kernel_rfl) hx3 (of_decide_eq_true (by kernel_rfl))
          obtain ⟨x5, hx5, hg5⟩ := hdeps ⟨5, .data⟩ (by simp) rfl
          have hg5 : x5 = .agg #[.int .u64 ra, .int .u64 rb, .int .u64 rx, .int .u64 ry] := hg5
          subst hg5
          have e5 : AA.tmps[31]?.getD undef = .agg #[.int .u64 ra, .int .u64 rb, .int .u64 rx, .int .u64 ry] := by rw [hA]; exact tmps_own (by kernel_rfl) hx5 (of_decide_eq_true (by kernel_rfl))
          obtain ⟨x9, hx9, hg9⟩ := hdeps ⟨9, .data⟩ (by simp) rfl
          have hg9 : x9 = .agg #[.int .u64 sa, .int .u64 sb, .int .u64 sc, .int .u64 sd] := hg9
          subst hg9
          have e9 : AA.tmps[35]?.getD undef = .agg #[.int .u64 sa, .int .u64 sb, .int .u64 sc, .int .u64 sd] := by rw [hA]; exact tmps_own (by kernel_rfl) hx9 (of_decide_eq_true (by kernel_rfl))
          clear hA hdeps hcl hmi hx3 hx5 hx9
          rw [if_pos (wanted_of (k := 29) rfl rfl e3)]
          have hKK := Lib.hid (hK (.bool false) _ (Below.refl _ _) (Eq.refl _))
          clear hK
          rcases hd with hd | ⟨rfl, hd⟩ | ⟨rfl, rfl, hd⟩ | ⟨rfl, rfl, rfl, hd⟩ <;> (go_simp; exact hKK.out)
        · injection ho with ho
          subst ho
          obtain ⟨x3, hx3, hg3⟩ := hdeps ⟨3, .data⟩ (by simp) rfl
          have hg3 : x3 = .bool false := hg3
          subst hg3
          have e3 : AA.tmps[29]?.getD undef = .bool false := by rw [hA]; exact tmps_own (by kernel_rfl) hx3 (of_decide_eq_true (by kernel_rfl))
          obtain ⟨x10, hx10, hg10⟩ := hdeps ⟨10, .data⟩ (by simp) rfl
          have hg10 : x10 = .bool false := hg10
          subst hg10
          have e10 : AA.tmps[36]?.getD undef = .bool false := by rw [hA]; exact tmps_own (by kernel_rfl) hx10 (of_decide_eq_true (by kernel_rfl))
          clear hA hdeps hcl hmi hx3 hx10
          have hK0 : KK (AA.put (some 37) _) _ := hK (.bool false) _ (Below.refl _ _) (Eq.refl _)
          clear hK
          go_simp
          exact hK0
        · injection ho with ho
          subst ho
          have ef3 : AA.tmps[3]?.getD undef = .int .i64 at_ := by rw [hA]; exact tmps_free (by kernel_rfl)
          clear hA hdeps hcl hmi
          have hK0 : KK (AA.put (some 38) _) _ := hK (.int .i64 at_) _ (Below.refl _ _) (Eq.refl _)
          clear hK
          go_simp
          exact hK0
        · injection ho with ho
          subst ho
          obtain ⟨x11, hx11, hg11⟩ := hdeps ⟨11, .data⟩ (by simp) rfl
          have hg11 : x11 = .bool false := hg11
          subst hg11
          have e11 : AA.tmps[37]?.getD undef = .bool false := by rw [hA]; exact tmps_own (by kernel_rfl) hx11 (of_decide_eq_true (by kernel_rfl))
          obtain ⟨x12, hx12, hg12⟩ := hdeps ⟨12, .data⟩ (by simp) rfl
          have hg12 : x12 = .int .i64 at_ := hg12
          subst hg12
          have e12 : AA.tmps[38]?.getD undef = .int .i64 at_ := by rw [hA]; exact tmps_own (by kernel_rfl) hx12 (of_decide_eq_true (by kernel_rfl))
          have hD : AA.defers = [] := by rw [hA]; rfl
          clear hA hdeps hcl hmi hx11 hx12
          clear hK
          go_simp
          refine (need_bad at_ 34 _).mono ?_
          rintro e w3 ⟨rfl, hw3⟩
          rw [hw3]
          clear hw3
          go_wp2_with fail
          exact ⟨hD, HP2.out (by simp) (by rw [HSM.out]; rfl) _ (HBc.out.trans (hb0.mono (by have := HQc.out.lt; omega))) (HKc.out.trans (KeepB.of_below hb0))⟩
        · simp at ho
      · intro m W hbx hall
        obtain ⟨x13, m13, g13⟩ := hall 13 (by simp)
        exact False.elim g13
    · have HGD : Hid ((rk == 4 && !smB ⟨ra, rb, rx, ry⟩ ⟨sa, sb, sc, sd⟩) = false) := by
        show _ = _
        by_cases h4 : rk = 4
        · have h5 : (⟨ra, rb, rx, ry⟩ : Sm) = ⟨sa, sb, sc, sd⟩ := Classical.not_not.1 (fun h => hk4 ⟨h4, h⟩)
          rw [(smB_iff _ _).2 h5]
          simp
        · simp [h4]
      have hw4 : (rk = 4 ∧ ra = sa ∧ rb = sb ∧ rx = sc ∧ ry = sd) ∨ (rk != 4) = true := by
        by_cases h4 : rk = 4
        · have h5 : (⟨ra, rb, rx, ry⟩ : Sm) = ⟨sa, sb, sc, sd⟩ := Classical.not_not.1 (fun h => hk4 ⟨h4, h⟩)
          simp only [Sm.mk.injEq] at h5
          exact .inl ⟨h4, h5⟩
        · exact .inr (by simpa using h4)
      clear hk4
      rcases hw4 with ⟨rfl, rfl, rfl, rfl, rfl⟩ | hw4
      · go_quiet (exact (need_ok at_ 34 _).quiet_of_same)
        have hraw := (HR2.out.below (HBc.out.mono hB2))
        have hqc := HQc.out.lt
        have hfe := feed_n ⟨ra, rb, rx, ry⟩ raw n2 H2.out A2 c2 (wc.drewN nq) B2 (hraw.drewN nq) (by show B2 ≤ wc.heap.size; omega) hc2 hl2
        obtain ⟨⟨ta, tb, tc, td⟩, hT⟩ : ∃ t, t = feedL ⟨ra, rb, rx, ry⟩ (words raw) := ⟨_, rfl⟩
        rw [← hT] at hfe
        have HFT := Lib.hid hT
        have HFE := Lib.hid hfe
        clear hraw hfe hT
        go_wp2_with fail
        refine HFE.out.mono ?_
        clear HFE
        rintro e w5 ⟨rfl, hb5⟩
        replace hb5 : Below wc.heap.size wc w5 := (below_drewN (Below.refl _ _) nq).trans hb5
        have HQ5 := Lib.hid (HQc.out.below hb5 HQc.out.lt)
        have HR5 := Lib.hid (HRc.out.below hb5 HRc.out.lt)
        have HO5 := Lib.hid (own_below HOc.out hb5)
        have HB5 := Lib.hid (HBc.out.trans (hb5.mono (by omega)))
        have HK5 := Lib.hid (HKc.out.trans (KeepB.of_below (t := 91) hb5))
        clear hb5 q0 q1 q2 q3 q4 q5 q6 f0 f1 f2 f3 f4 f5 f6 a0 a1 a2 a3 a4 a5 a6 a7 a8 a9 a10 a11
        obtain ⟨⟨q0, q1, q2, q3, q4, q5, q6⟩, ⟨f0, f1, f2, f3, f4, f5, f6⟩⟩ := blk7 HQ5.out
        go_wp2_with fail
        obtain ⟨W6, hW6⟩ : ∃ W, W = (((w5.setCell ⟨q, 2, none⟩ (.int .u64 ta)).setCell ⟨q, 3, none⟩ (.int .u64 tb)).setCell ⟨q, 4, none⟩ (.int .u64 tc)).setCell ⟨q, 5, none⟩ (.int .u64 td) := ⟨_, rfl⟩
        have hQ6 : Blk W6 q 74 #[.int .i64 a, .int .i64 b, .int .u64 ta, .int .u64 tb, .int .u64 tc, .int .u64 td, .slice A k c] := by rw [hW6]; exact (((HQ5.out.set_ 2 _).set_ 3 _).set_ 4 _).set_ 5 _
        have hR6 : Blk W6 g 47 #[.int .i64 4, .string ⟨rn.toArray⟩, .int .i64 rf, .int .i64 rg, .slice A1 n1 c1, .int .i64 ri, .int .i64 rc, .string ⟨rd.toArray⟩, .int .u64 ra, .int .u64 rb, .int .u64 rx, .int .u64 ry] := by rw [hW6]; exact (((HR5.out.far (by simp only; omega) _).far (by simp only; omega) _).far (by simp only; omega) _).far (by simp only; omega) _
        have hO6 : W6.ownsRow base 47 12 (.slice A k c) k (cellsK RcR.cs ys) := by rw [hW6]; exact own_setCell_below (own_setCell_below (own_setCell_below (own_setCell_below HO5.out hqb _) hqb _) hqb _) hqb _
        have hB6 : Below q w W6 := by rw [hW6]; exact (((HB5.out.setCell (Nat.le_refl _) _).setCell (Nat.le_refl _) _).setCell (Nat.le_refl _) _).setCell (Nat.le_refl _) _
        have hK6 : KeepB 91 w W6 := by rw [hW6]; exact (((HK5.out.trans (KeepB.of_box HQ5.out propT_ne.1)).trans (KeepB.of_box (HQ5.out.set_ 2 _) propT_ne.1)).trans (KeepB.of_box ((HQ5.out.set_ 2 _).set_ 3 _) propT_ne.1)).trans (KeepB.of_box (((HQ5.out.set_ 2 _).set_ 3 _).set_ 4 _) propT_ne.1)
        rw [← hW6]
        clear hW6 HQ5 HR5 HO5 HB5 q0 q1 q2 q3 q4 q5 q6 f0 f1 f2 f3 f4 f5 f6 HQc HRc HOc HBc
        have hsz : q < W6.heap.size := hQ6.lt
        have hszb : w.heap.size ≤ W6.heap.size := hB6.size
        obtain ⟨⟨q0, q1, q2, q3, q4, q5, q6⟩, ⟨f0, f1, f2, f3, f4, f5, f6⟩⟩ := blk7 hQ6
        obtain ⟨a0, a1, a2, a3, a4, a5, a6, a7, a8, a9, a10, a11⟩ := blk12 hR6
        have d6 : (W6.alloc (.cells #[.int .i64 4, .string ⟨rn.toArray⟩, .int .i64 rf, .int .i64 rg, .slice A1 n1 c1, .int .i64 ri, .int .i64 rc, .string ⟨rd.toArray⟩, .int .u64 ra, .int .u64 rb, .int .u64 rx, .int .u64 ry] 47)).cell? ⟨q, 6, none⟩ = some (.slice A k c) := (World.cell?_alloc_lt _ _ _ hsz).trans q6
        have HOWN := Lib.hid (own_drew (hO6.alloc (.cells #[.int .i64 4, .string ⟨rn.toArray⟩, .int .i64 rf, .int .i64 rg, .slice A1 n1 c1, .int .i64 ri, .int .i64 rc, .string ⟨rd.toArray⟩, .int .u64 ra, .int .u64 rb, .int .u64 rx, .int .u64 ry] 47)))
        have HBLK := Lib.hid (hQ6.alloc (.cells #[.int .i64 4, .string ⟨rn.toArray⟩, .int .i64 rf, .int .i64 rg, .slice A1 n1 c1, .int .i64 ri, .int .i64 rc, .string ⟨rd.toArray⟩, .int .u64 ra, .int .u64 rb, .int .u64 rx, .int .u64 ry] 47)).drew
        have HBE := Lib.hid (hB6.alloc (Nat.le_of_lt hsz) (.cells #[.int .i64 4, .string ⟨rn.toArray⟩, .int .i64 rf, .int .i64 rg, .slice A1 n1 c1, .int .i64 ri, .int .i64 rc, .string ⟨rd.toArray⟩, .int .u64 ra, .int .u64 rb, .int .u64 rx, .int .u64 ry] 47)).drew
        have HKB := Lib.hid (hK6.trans (KeepB.of_below ((Below.refl W6.heap.size W6).alloc (Nat.le_refl _) (.cells #[.int .i64 4, .string ⟨rn.toArray⟩, .int .i64 rf, .int .i64 rg, .slice A1 n1 c1, .int .i64 ri, .int .i64 rc, .string ⟨rd.toArray⟩, .int .u64 ra, .int .u64 rb, .int .u64 rx, .int .u64 ry] 47)).drew))
        have hr1 := (Reads.lit W6 #[.int .i64 4, .string ⟨rn.toArray⟩, .int .i64 rf, .int .i64 rg, .slice A1 n1 c1, .int .i64 ri, .int .i64 rc, .string ⟨rd.toArray⟩, .int .u64 ra, .int .u64 rb, .int .u64 rx, .int .u64 ry] 47 rfl).drew (size := 12)
        have h1c : ∀ u ∈ (#[.int .i64 4, .string ⟨rn.toArray⟩, .int .i64 rf, .int .i64 rg, .slice A1 n1 c1, .int .i64 ri, .int .i64 rc, .string ⟨rd.toArray⟩, .int .u64 ra, .int .u64 rb, .int .u64 rx, .int .u64 ry] : Array Value).toList, u.oneCell' = true := by simp [Value.oneCell']
        have hkk : k ≤ 100000 := by have := HK.out; omega
        have hq1 : k + 1 ≤ maxLen := by unfold maxLen; omega
        have hq2 : (k + 1) * 128 ≤ 140737488355328 := by omega
        have hs1b : base ≤ (W6.alloc (.cells #[.int .i64 4, .string ⟨rn.toArray⟩, .int .i64 rf, .int .i64 rg, .slice A1 n1 c1, .int .i64 ri, .int .i64 rc, .string ⟨rd.toArray⟩, .int .u64 ra, .int .u64 rb, .int .u64 rx, .int .u64 ry] 47)).drew.heap.size := by show base ≤ (W6.alloc _).heap.size; simp; omega
        have HP3F := Lib.hid (HP3.out (by simp) HGD.out)
        clear hQ6 hR6 hO6 hB6 hK6 HP1 HP2 HP3 HGD
        go_region_law (refine step_append_any _ rfl (.tmp 53) (.tmp 55) 36 rfl base 47 i0 _ 12 128 Try.underlying36 hi0 hz0 hz1 hz2 rfl (by omega) (.slice A k c) k (cellsK RcR.cs ys) ?hs HOWN.out _ (some ⟨W6.heap.size, 0, none⟩) 1 1 _ ?hx hr1 h1c hq1 hq2 hs1b ?_; (case hs => first | rfl | simp [Act.eval] | simp [Act.eval, Act.put]); (case hx => first | rfl | simp [Act.eval] | simp [Act.eval, Act.put]); intro v2 w2 hown2 hg2 _; have hne : some q ≠ (Value.slice A k c).ownBlock := (fun e => by have := (HOWN.out.lt _ e.symm).1; omega); have hblk2 := Lib.hid (HBLK.out.grown hg2 hne); have hbe2 := Lib.hid (HBE.out.grown hg2 (by have := HBLK.out.lt; omega) (fun k hk => by have := (HOWN.out.lt k hk).1; omega)); obtain ⟨A4, cc4, rfl, _, _, _⟩ := own_form hown2; obtain ⟨⟨p0, p1, p2, p3, p4, p5, p6⟩, ⟨g0, g1, g2, g3, g4, g5, g6⟩⟩ := blk7 hblk2.out; have hown2' := Lib.hid hown2; have hkb2 := Lib.hid (HKB.out.trans (KeepB.of_grown HOWN.out propT_ne.2 hg2)); clear hown2 hg2 hne d6 hr1 h1c)
        all_goals
          go_end0
          refine HP3F.out _ (hbe2.out.setCell (Nat.le_refl _) _) (hkb2.out.trans (KeepB.of_box hblk2.out propT_ne.1)) ?_
          refine ⟨A4, k + 1, cc4, by rw [List.length_append, ← HK.out]; rfl, ?_, ?_, hqb⟩
          · rw [← HFT.out]
            exact hblk2.out.set_ 6 _
          · rw [cellsK_append, cellsK_one, HXC.out]
            exact own_setCell_below (p := ⟨q, 6, none⟩) hown2'.out hqb (.slice A4 (k + 1) cc4)
      · go_quiet (exact (need_ok at_ 34 _).quiet_of_same)
        have hraw := (HR2.out.below (HBc.out.mono hB2))
        have hqc := HQc.out.lt
        have hfe := feed_n ⟨sa, sb, sc, sd⟩ raw n2 H2.out A2 c2 (wc.drewN nq) B2 (hraw.drewN nq) (by show B2 ≤ wc.heap.size; omega) hc2 hl2
        obtain ⟨⟨ta, tb, tc, td⟩, hT⟩ : ∃ t, t = feedL ⟨sa, sb, sc, sd⟩ (words raw) := ⟨_, rfl⟩
        rw [← hT] at hfe
        have HFT := Lib.hid hT
        have HFE := Lib.hid hfe
        clear hraw hfe hT
        go_wp2_with fail
        refine HFE.out.mono ?_
        clear HFE
        rintro e w5 ⟨rfl, hb5⟩
        replace hb5 : Below wc.heap.size wc w5 := (below_drewN (Below.refl _ _) nq).trans hb5
        have HQ5 := Lib.hid (HQc.out.below hb5 HQc.out.lt)
        have HR5 := Lib.hid (HRc.out.below hb5 HRc.out.lt)
        have HO5 := Lib.hid (own_below HOc.out hb5)
        have HB5 := Lib.hid (HBc.out.trans (hb5.mono (by omega)))
        have HK5 := Lib.hid (HKc.out.trans (KeepB.of_below (t := 91) hb5))
        clear hb5 q0 q1 q2 q3 q4 q5 q6 f0 f1 f2 f3 f4 f5 f6 a0 a1 a2 a3 a4 a5 a6 a7 a8 a9 a10 a11
        obtain ⟨⟨q0, q1, q2, q3, q4, q5, q6⟩, ⟨f0, f1, f2, f3, f4, f5, f6⟩⟩ := blk7 HQ5.out
        go_wp2_with fail
        obtain ⟨W6, hW6⟩ : ∃ W, W = (((w5.setCell ⟨q, 2, none⟩ (.int .u64 ta)).setCell ⟨q, 3, none⟩ (.int .u64 tb)).setCell ⟨q, 4, none⟩ (.int .u64 tc)).setCell ⟨q, 5, none⟩ (.int .u64 td) := ⟨_, rfl⟩
        have hQ6 : Blk W6 q 74 #[.int .i64 a, .int .i64 b, .int .u64 ta, .int .u64 tb, .int .u64 tc, .int .u64 td, .slice A k c] := by rw [hW6]; exact (((HQ5.out.set_ 2 _).set_ 3 _).set_ 4 _).set_ 5 _
        have hR6 : Blk W6 g 47 #[.int .i64 rk, .string ⟨rn.toArray⟩, .int .i64 rf, .int .i64 rg, .slice A1 n1 c1, .int .i64 ri, .int .i64 rc, .string ⟨rd.toArray⟩, .int .u64 ra, .int .u64 rb, .int .u64 rx, .int .u64 ry] := by rw [hW6]; exact (((HR5.out.far (by simp only; omega) _).far (by simp only; omega) _).far (by simp only; omega) _).far (by simp only; omega) _
        have hO6 : W6.ownsRow base 47 12 (.slice A k c) k (cellsK RcR.cs ys) := by rw [hW6]; exact own_setCell_below (own_setCell_below (own_setCell_below (own_setCell_below HO5.out hqb _) hqb _) hqb _) hqb _
        have hB6 : Below q w W6 := by rw [hW6]; exact (((HB5.out.setCell (Nat.le_refl _) _).setCell (Nat.le_refl _) _).setCell (Nat.le_refl _) _).setCell (Nat.le_refl _) _
        have hK6 : KeepB 91 w W6 := by rw [hW6]; exact (((HK5.out.trans (KeepB.of_box HQ5.out propT_ne.1)).trans (KeepB.of_box (HQ5.out.set_ 2 _) propT_ne.1)).trans (KeepB.of_box ((HQ5.out.set_ 2 _).set_ 3 _) propT_ne.1)).trans (KeepB.of_box (((HQ5.out.set_ 2 _).set_ 3 _).set_ 4 _) propT_ne.1)
        rw [← hW6]
        clear hW6 HQ5 HR5 HO5 HB5 q0 q1 q2 q3 q4 q5 q6 f0 f1 f2 f3 f4 f5 f6 HQc HRc HOc HBc
        have hsz : q < W6.heap.size := hQ6.lt
        have hszb : w.heap.size ≤ W6.heap.size := hB6.size
        obtain ⟨⟨q0, q1, q2, q3, q4, q5, q6⟩, ⟨f0, f1, f2, f3, f4, f5, f6⟩⟩ := blk7 hQ6
        obtain ⟨a0, a1, a2, a3, a4, a5, a6, a7, a8, a9, a10, a11⟩ := blk12 hR6
        have d6 : (W6.alloc (.cells #[.int .i64 rk, .string ⟨rn.toArray⟩, .int .i64 rf, .int .i64 rg, .slice A1 n1 c1, .int .i64 ri, .int .i64 rc, .string ⟨rd.toArray⟩, .int .u64 ra, .int .u64 rb, .int .u64 rx, .int .u64 ry] 47)).cell? ⟨q, 6, none⟩ = some (.slice A k c) := (World.cell?_alloc_lt _ _ _ hsz).trans q6
        have HOWN := Lib.hid (own_drew (hO6.alloc (.cells #[.int .i64 rk, .string ⟨rn.toArray⟩, .int .i64 rf, .int .i64 rg, .slice A1 n1 c1, .int .i64 ri, .int .i64 rc, .string ⟨rd.toArray⟩, .int .u64 ra, .int .u64 rb, .int .u64 rx, .int .u64 ry] 47)))
        have HBLK := Lib.hid (hQ6.alloc (.cells #[.int .i64 rk, .string ⟨rn.toArray⟩, .int .i64 rf, .int .i64 rg, .slice A1 n1 c1, .int .i64 ri, .int .i64 rc, .string ⟨rd.toArray⟩, .int .u64 ra, .int .u64 rb, .int .u64 rx, .int .u64 ry] 47)).drew
        have HBE := Lib.hid (hB6.alloc (Nat.le_of_lt hsz) (.cells #[.int .i64 rk, .string ⟨rn.toArray⟩, .int .i64 rf, .int .i64 rg, .slice A1 n1 c1, .int .i64 ri, .int .i64 rc, .string ⟨rd.toArray⟩, .int .u64 ra, .int .u64 rb, .int .u64 rx, .int .u64 ry] 47)).drew
        have HKB := Lib.hid (hK6.trans (KeepB.of_below ((Below.refl W6.heap.size W6).alloc (Nat.le_refl _) (.cells #[.int .i64 rk, .string ⟨rn.toArray⟩, .int .i64 rf, .int .i64 rg, .slice A1 n1 c1, .int .i64 ri, .int .i64 rc, .string ⟨rd.toArray⟩, .int .u64 ra, .int .u64 rb, .int .u64 rx, .int .u64 ry] 47)).drew))
        have hr1 := (Reads.lit W6 #[.int .i64 rk, .string ⟨rn.toArray⟩, .int .i64 rf, .int .i64 rg, .slice A1 n1 c1, .int .i64 ri, .int .i64 rc, .string ⟨rd.toArray⟩, .int .u64 ra, .int .u64 rb, .int .u64 rx, .int .u64 ry] 47 rfl).drew (size := 12)
        have h1c : ∀ u ∈ (#[.int .i64 rk, .string ⟨rn.toArray⟩, .int .i64 rf, .int .i64 rg, .slice A1 n1 c1, .int .i64 ri, .int .i64 rc, .string ⟨rd.toArray⟩, .int .u64 ra, .int .u64 rb, .int .u64 rx, .int .u64 ry] : Array Value).toList, u.oneCell' = true := by simp [Value.oneCell']
        have hkk : k ≤ 100000 := by have := HK.out; omega
        have hq1 : k + 1 ≤ maxLen := by unfold maxLen; omega
        have hq2 : (k + 1) * 128 ≤ 140737488355328 := by omega
        have hs1b : base ≤ (W6.alloc (.cells #[.int .i64 rk, .string ⟨rn.toArray⟩, .int .i64 rf, .int .i64 rg, .slice A1 n1 c1, .int .i64 ri, .int .i64 rc, .string ⟨rd.toArray⟩, .int .u64 ra, .int .u64 rb, .int .u64 rx, .int .u64 ry] 47)).drew.heap.size := by show base ≤ (W6.alloc _).heap.size; simp; omega
        have HP3F := Lib.hid (HP3.out (by simp) HGD.out)
        clear hQ6 hR6 hO6 hB6 hK6 HP1 HP2 HP3 HGD
        go_region_law (refine step_append_any _ rfl (.tmp 53) (.tmp 55) 36 rfl base 47 i0 _ 12 128 Try.underlying36 hi0 hz0 hz1 hz2 rfl (by omega) (.slice A k c) k (cellsK RcR.cs ys) ?hs HOWN.out _ (some ⟨W6.heap.size, 0, none⟩) 1 1 _ ?hx hr1 h1c hq1 hq2 hs1b ?_; (case hs => first | rfl | simp [Act.eval] | simp [Act.eval, Act.put]); (case hx => first | rfl | simp [Act.eval] | simp [Act.eval, Act.put]); intro v2 w2 hown2 hg2 _; have hne : some q ≠ (Value.slice A k c).ownBlock := (fun e => by have := (HOWN.out.lt _ e.symm).1; omega); have hblk2 := Lib.hid (HBLK.out.grown hg2 hne); have hbe2 := Lib.hid (HBE.out.grown hg2 (by have := HBLK.out.lt; omega) (fun k hk => by have := (HOWN.out.lt k hk).1; omega)); obtain ⟨A4, cc4, rfl, _, _, _⟩ := own_form hown2; obtain ⟨⟨p0, p1, p2, p3, p4, p5, p6⟩, ⟨g0, g1, g2, g3, g4, g5, g6⟩⟩ := blk7 hblk2.out; have hown2' := Lib.hid hown2; have hkb2 := Lib.hid (HKB.out.trans (KeepB.of_grown HOWN.out propT_ne.2 hg2)); clear hown2 hg2 hne d6 hr1 h1c)
        all_goals
          go_end0
          refine HP3F.out _ (hbe2.out.setCell (Nat.le_refl _) _) (hkb2.out.trans (KeepB.of_box hblk2.out propT_ne.1)) ?_
          refine ⟨A4, k + 1, cc4, by rw [List.length_append, ← HK.out]; rfl, ?_, ?_, hqb⟩
          · rw [← HFT.out]
            exact hblk2.out.set_ 6 _
          · rw [cellsK_append, cellsK_one, HXC.out]
            exact own_setCell_below (p := ⟨q, 6, none⟩) hown2'.out hqb (.slice A4 (k + 1) cc4)
end Go.Proofs.Ytcbeadldieeceaa
