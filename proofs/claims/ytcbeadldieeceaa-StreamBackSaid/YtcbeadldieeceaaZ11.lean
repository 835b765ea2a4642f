/-
  stream.writer.put: a record more, or a panic with the fault.
-/
import Derived.WalkSmall
import Derived.Defers
import Derived.Recover
import Derived.Laws.Pointers
import Derived.Test.YtcbeadldieeceaaRows
import Derived.Handy
import Derived.OrdersIn
import Derived.TacticsIn
import Derived.Laws.BytesString
import Derived.RangeFuncNested
import Derived.RangeFuncFrom
import Derived.RangeFuncWrites
import Derived.Maps.AppendAt
import Derived.Test.YtcbeadldieeceaaZ1
import Derived.Test.YtcbeadldieeceaaZ2
import Derived.Test.YtcbeadldieeceaaZ3
import Derived.Test.YtcbeadldieeceaaZ8
import Derived.Test.YtcbeadldieeceaaZ10
namespace Go.Proofs.Ytcbeadldieeceaa
open Go.RowKit

/-- a writer's box: what it wrote, and the sum -/
def WrB (w : World) (g base : Nat) (o : List UInt8) (s : Sm) : Prop := ∃ A n c, n = o.length ∧ Blk w g 59 #[.slice A n c, .int .u64 s.a, .int .u64 s.b, .int .u64 s.c, .int .u64 s.d] ∧ w.ownsRow base 5 1 (.slice A n c) n (bts o) ∧ g < base
set_option maxRecDepth 100000 in
set_option maxHeartbeats 4000000 in
theorem put_bad (g : Nat) (r : Rc) (hE : recE r ≠ 0) (n : Nat) (hn : n = r.own.length) (A1 : Option Addr) (c1 : Nat) (w : World) (B1 : Nat) (hB1 : B1 ≤ w.heap.size) (hr1 : Reads w B1 2 A1 n (pcells r.own)) (hn5 : n ≤ 5000000000000) (hv : ∀ x ∈ r.own, x.2.length ≤ 140737488351232) :
    Calls Try.prog 21 #[.pointer (some ⟨g, 0, none⟩), rcV r (.slice A1 n c1)] w fun e w' => e = .panicked [{ v := faultV 0 (recE r), recovered := false }] ∧ Below w.heap.size w w' := by
  have hc := fun W (hb : Below w.heap.size w W) => renc_any r n hn A1 c1 W B1 (Nat.le_trans hB1 hb.size) (hr1.below (hb.mono hB1)) hn5 hv
  obtain ⟨E, hEE⟩ : ∃ E, E = recE r := ⟨_, rfl⟩
  unfold EncPost at hc
  rw [← hEE] at hE hc ⊢
  simp only [if_neg hE] at hc
  clear hEE hn hr1 hv
  obtain ⟨rk, rn, rf, rg, ro, ri, rc, rd, ⟨ra, rb, rx, ry⟩⟩ := r
  have hb0 : Below w.heap.size w (w.alloc (.cells #[.int .i64 rk, .string ⟨rn.toArray⟩, .int .i64 rf, .int .i64 rg, .slice A1 n c1, .int .i64 ri, .int .i64 rc, .string ⟨rd.toArray⟩, .int .u64 ra, .int .u64 rb, .int .u64 rx, .int .u64 ry] 47)) := (Below.refl _ _).alloc (Nat.le_refl _) _
  have HC := Lib.hid (hc _ hb0)
  have HB := Lib.hid hb0
  have hd : (E == 0) = false := by simpa using hE
  have hd2 : decide (E = 0) = false := by simpa using hE
  clear hc hb0 hE
  show Calls Try.prog 21 #[.pointer (some ⟨g, 0, none⟩), .agg #[.int .i64 rk, .string ⟨rn.toArray⟩, .int .i64 rf, .int .i64 rg, .slice A1 n c1, .int .i64 ri, .int .i64 rc, .string ⟨rd.toArray⟩, .int .u64 ra, .int .u64 rb, .int .u64 rx, .int .u64 ry]] w _
  go_enter Try.func21, Try.ntmps21
  go_wp2_with fail
  refine HC.out.mono ?_
  rintro e w1 ⟨v, rfl, -, hb1⟩
  have HB1 := Lib.hid (HB.out.trans (hb1.mono HB.out.size))
  clear hb1
  go_wp2_with fail
  refine (need_bad 0 E _).mono ?_
  rintro e w2 ⟨rfl, hw2⟩
  rw [hw2]
  go_wp2_with fail
  exact ⟨rfl, rfl, HB1.out⟩
/-- a newer row stays while an older one grows -/
theorem own_apart2 {w w' : World} {b lo : Nat} {e : TypeId} {k n : Nat} {v u : Value} {xs : List Value} (h : w.ownsRow b e k v n xs) (hu : ∀ q, u.ownBlock = some q → q < lo) (hb : lo ≤ b) (hg : w.grownBy w' u.ownBlock) : w'.ownsRow b e k v n xs := by
  rcases hu' : u.ownBlock with _ | q
  · rw [hu'] at hg
    refine ⟨h.1, ?_⟩
    rcases h.2 with h0 | ⟨g, cap, cur, h1, h2, h3, h4⟩
    · exact .inl h0
    · exact .inr ⟨g, cap, cur, h1, h2, (hg.block g (Blk.lt (cs := cur) (t := e) h3) (by simp)).trans h3, h4⟩
  · rw [hu'] at hg
    refine h.kept hg (.inr fun e' => ?_)
    have h1 := (h.lt _ e').1
    have h2 := hu q hu'
    omega
set_option maxRecDepth 100000 in
set_option maxHeartbeats 4000000 in
theorem put_ok (g base : Nat) (out : List UInt8) (s : Sm) (r : Rc) (hE : recE r = 0) (n : Nat) (hn : n = r.own.length) (A1 : Option Addr) (c1 : Nat) (w : World) (B1 : Nat) (hB1 : B1 ≤ w.heap.size) (hr1 : Reads w B1 2 A1 n (pcells r.own)) (hn5 : n ≤ 5000000000000) (hv : ∀ x ∈ r.own, x.2.length ≤ 140737488351232)
    (hwr : WrB w g base out s) (hbs : base ≤ w.heap.size) (hos : out.length ≤ 100000000000000) (hes : (encL r).length ≤ 100000) :
    Calls Try.prog 21 #[.pointer (some ⟨g, 0, none⟩), rcV r (.slice A1 n c1)] w fun e w' => e = .returned (.tuple #[]) ∧ WrB w' g base (out ++ encL r) (feedL s (words (encL r))) ∧ Below g w w' := by
  obtain ⟨A, on, oc, hon, hk, hown, hgb⟩ := hwr
  have hc := fun W (hb : Below w.heap.size w W) => renc_any r n hn A1 c1 W B1 (Nat.le_trans hB1 hb.size) (hr1.below (hb.mono hB1)) hn5 hv
  obtain ⟨L, hL⟩ : ∃ L, L = encL r := ⟨_, rfl⟩
  obtain ⟨m, hm⟩ : ∃ m, m = L.length := ⟨_, rfl⟩
  unfold EncPost at hc
  rw [← hL] at hes ⊢
  simp only [hE, ← hL, ← hm] at hc
  rw [← hm] at hes
  have HM := Lib.hid hm
  obtain ⟨i0, hi0, hz0, hz1, hz2⟩ := info_parts Try.infoU8
  have hos2 : on ≤ 100000000000000 := by omega
  have HON := Lib.hid hon
  clear hL hm hn hr1 hv hE hon hos
  obtain ⟨rk, rn, rf, rg, ro, ri, rc, rd, ⟨ra, rb, rx, ry⟩⟩ := r
  obtain ⟨sa, sb, sc, sd⟩ := s
  obtain ⟨⟨ta, tb, tc, td⟩, hT⟩ : ∃ t, t = feedL ⟨sa, sb, sc, sd⟩ (words L) := ⟨_, rfl⟩
  rw [← hT]
  have HFT := Lib.hid hT
  clear hT
  obtain ⟨W1, hW1⟩ : ∃ W, W = w.alloc (.cells #[.int .i64 rk, .string ⟨rn.toArray⟩, .int .i64 rf, .int .i64 rg, .slice A1 n c1, .int .i64 ri, .int .i64 rc, .string ⟨rd.toArray⟩, .int .u64 ra, .int .u64 rb, .int .u64 rx, .int .u64 ry] 47) := ⟨_, rfl⟩
  have hb0 : Below w.heap.size w W1 := by rw [hW1]; exact (Below.refl _ _).alloc (Nat.le_refl _) _
  have HC := Lib.hid (hc _ hb0)
  have HB := Lib.hid hb0
  have HLT : Hid (∀ k, (Value.slice A on oc).ownBlock = some k → k < w.heap.size) := fun k hk => (hown.lt k hk).2
  have hw1s : w.heap.size ≤ W1.heap.size := hb0.size
  have HK1 := Lib.hid (hk.below hb0 hk.lt)
  have HO1 := Lib.hid (own_below hown hb0)
  have hg9 : g < w.heap.size := hk.lt
  clear hc hb0 hk hown
  show Calls Try.prog 21 #[.pointer (some ⟨g, 0, none⟩), .agg #[.int .i64 rk, .string ⟨rn.toArray⟩, .int .i64 rf, .int .i64 rg, .slice A1 n c1, .int .i64 ri, .int .i64 rc, .string ⟨rd.toArray⟩, .int .u64 ra, .int .u64 rb, .int .u64 rx, .int .u64 ry]] w _
  go_enter Try.func21, Try.ntmps21
  go_wp2_with fail
  rw [← hW1]
  clear hW1
  refine HC.out.mono ?_
  clear HC
  rintro e w2 ⟨v, rfl, hown2, hb2⟩
  obtain ⟨Ae, ce, rfl, hce, _, hre⟩ := own_form hown2
  have HB2 := Lib.hid (HB.out.trans (hb2.mono HB.out.size))
  have HK2 := Lib.hid (HK1.out.below hb2 HK1.out.lt)
  have HO2 := Lib.hid (own_below HO1.out hb2)
  have HRE := Lib.hid hre
  have HOE : Hid (w2.ownsRow W1.heap.size 5 1 (.slice Ae m ce) m (bts L)) := by
    show World.ownsRow _ _ _ _ _ _ _
    rw [if_pos trivial] at hown2
    exact hown2
  clear hb2 HB HK1 HO1 hown2 hre
  go_wp2_with fail
  refine (need_ok 0 0 _).mono ?_
  rintro e w3 ⟨rfl, hw3⟩
  rw [hw3]
  clear hw3 w3
  have hbs2 : base ≤ w2.heap.size := by have := HB2.out.size; omega
  obtain ⟨q0, q1, q2, q3, q4⟩ : w2.cell? ⟨g, 0, none⟩ = some (.slice A on oc) ∧ w2.cell? ⟨g, 1, none⟩ = some (.int .u64 sa) ∧ w2.cell? ⟨g, 2, none⟩ = some (.int .u64 sb) ∧ w2.cell? ⟨g, 3, none⟩ = some (.int .u64 sc) ∧ w2.cell? ⟨g, 4, none⟩ = some (.int .u64 sd) := ⟨HK2.out.cell 0, HK2.out.cell 1, HK2.out.cell 2, HK2.out.cell 3, HK2.out.cell 4⟩
  go_wp2_with (at_builtin; (refine wpList_append_any _ rfl (.tmp 19) (.tmp 20) 27 rfl base 5 i0 _ 1 1 Try.underlying27 hi0 hz0 hz1 hz2 rfl (by omega) (.slice A on oc) on (bts out) rfl HO2.out w2.heap.size Ae m ce (bts L) rfl HRE.out (bts_one _) (by unfold maxLen; omega) (by omega) hbs2 ?_); intro v4 w4 hown4 hg4 _; (obtain ⟨A4, c4, rfl, _, _, _⟩ := own_form hown4); (have hne : some g ≠ (Value.slice A on oc).ownBlock := (fun e => by have := (HO2.out.lt _ e.symm).1; omega)); (have HK4 := Lib.hid (HK2.out.grown hg4 hne)); (have HB4 : Hid (Below g w2 w4) := (Below.refl _ _).grown hg4 (by omega) (fun k hk => by have := (HO2.out.lt k hk).1; omega)); (have HO4 := Lib.hid hown4); (have HOE4 := Lib.hid (own_apart2 HOE.out HLT.out hw1s hg4)); clear hown4 hg4 hne q0 q1 q2 q3 q4; (obtain ⟨q0, q1, q2, q3, q4⟩ : w4.cell? ⟨g, 0, none⟩ = some (.slice A on oc) ∧ w4.cell? ⟨g, 1, none⟩ = some (.int .u64 sa) ∧ w4.cell? ⟨g, 2, none⟩ = some (.int .u64 sb) ∧ w4.cell? ⟨g, 3, none⟩ = some (.int .u64 sc) ∧ w4.cell? ⟨g, 4, none⟩ = some (.int .u64 sd) := ⟨HK4.out.cell 0, HK4.out.cell 1, HK4.out.cell 2, HK4.out.cell 3, HK4.out.cell 4⟩); have f0 := HK4.out.frozen 0)
  obtain ⟨W5, hW5⟩ : ∃ W, W = w4.setCell ⟨g, 0, none⟩ (.slice A4 (on + m) c4) := ⟨_, rfl⟩
  have hk5 := HK4.out.set_ 0 (.slice A4 (on + m) c4)
  have ho5 := own_setCell_below HO4.out (p := ⟨g, 0, none⟩) hgb (.slice A4 (on + m) c4)
  have he5 := own_setCell_below HOE4.out (p := ⟨g, 0, none⟩) (by simp only; omega) (.slice A4 (on + m) c4)
  have hb5 := HB4.out.setCell (p := ⟨g, 0, none⟩) (Nat.le_refl _) (.slice A4 (on + m) c4)
  rw [← hW5] at hk5 ho5 he5 hb5
  replace hk5 : Blk W5 g 59 #[.slice A4 (on + m) c4, .int .u64 sa, .int .u64 sb, .int .u64 sc, .int .u64 sd] := hk5
  have hfe := feed_n ⟨sa, sb, sc, sd⟩ L m HM.out Ae ce W5 W5.heap.size (Reads.of_own he5) (Nat.le_refl _) hce (by omega)
  rw [← HFT.out] at hfe
  have HK5 := Lib.hid hk5
  have HO5 := Lib.hid ho5
  have HB5 : Hid (Below g w W5) := (HB2.out.mono (by omega)).trans hb5
  clear hk5 ho5 he5 hb5 HK4 HO4 HOE4 HB4 HOE HRE HO2 HK2 q0 q1 q2 q3 q4 f0
  rw [← hW5]
  clear hW5
  refine hfe.mono ?_
  clear hfe
  rintro e w6 ⟨rfl, hb6⟩
  have HK6 := Lib.hid (HK5.out.below hb6 HK5.out.lt)
  have HO6 := Lib.hid (own_below HO5.out hb6)
  have HB6 : Hid (Below g w w6) := HB5.out.trans (hb6.mono (Nat.le_of_lt HK5.out.lt))
  obtain ⟨q0, q1, q2, q3, q4⟩ : w6.cell? ⟨g, 0, none⟩ = some (.slice A4 (on + m) c4) ∧ w6.cell? ⟨g, 1, none⟩ = some (.int .u64 sa) ∧ w6.cell? ⟨g, 2, none⟩ = some (.int .u64 sb) ∧ w6.cell? ⟨g, 3, none⟩ = some (.int .u64 sc) ∧ w6.cell? ⟨g, 4, none⟩ = some (.int .u64 sd) := ⟨HK6.out.cell 0, HK6.out.cell 1, HK6.out.cell 2, HK6.out.cell 3, HK6.out.cell 4⟩
  have f1 := HK6.out.frozen 1
  have f2 := HK6.out.frozen 2
  have f3 := HK6.out.frozen 3
  have f4 := HK6.out.frozen 4
  have kE := (((HK6.out.set_ 1 (.int .u64 ta)).set_ 2 (.int .u64 tb)).set_ 3 (.int .u64 tc)).set_ 4 (.int .u64 td)
  have oE := own_setCell_below (own_setCell_below (own_setCell_below (own_setCell_below HO6.out (p := ⟨g, 1, none⟩) hgb (.int .u64 ta)) (p := ⟨g, 2, none⟩) hgb (.int .u64 tb)) (p := ⟨g, 3, none⟩) hgb (.int .u64 tc)) (p := ⟨g, 4, none⟩) hgb (.int .u64 td)
  have bE := (((HB6.out.setCell (p := ⟨g, 1, none⟩) (Nat.le_refl _) (.int .u64 ta)).setCell (p := ⟨g, 2, none⟩) (Nat.le_refl _) (.int .u64 tb)).setCell (p := ⟨g, 3, none⟩) (Nat.le_refl _) (.int .u64 tc)).setCell (p := ⟨g, 4, none⟩) (Nat.le_refl _) (.int .u64 td)
  have KE := Lib.hid kE
  have OE := Lib.hid oE
  have BE := Lib.hid bE
  clear hb6 kE oE bE HK5 HO5 HB5
  go_wp2_with fail
  go_end0
  exact ⟨rfl, ⟨A4, on + m, c4, by rw [List.length_append, ← HON.out, ← HM.out], KE.out, by rw [bts_append]; exact OE.out, hgb⟩, BE.out⟩
end Go.Proofs.Ytcbeadldieeceaa

/-
  stream.caught and Sum's closure, as deferred calls.
-/
namespace Go.Proofs.Ytcbeadldieeceaa
open Go.RowKit

theorem assert_fault (a e : Int) (xT : TypeId) (w : World) : (Instr.typeAssert (faultV a e) xT 68 true).run Try.prog w = .ok (.tuple #[.agg #[.int .i64 a, .int .i64 e], .bool true]) w := by
  unfold faultV
  simp [Instr.typeAssert, run_underlying Try.underlying68, go_sem, Result.andThen]
theorem assert_nil (xT : TypeId) (w : World) : (Instr.typeAssert .nilIface xT 68 true).run Try.prog w = .ok (.tuple #[.agg #[.int .i64 0, .int .i64 0], .bool false]) w := by
  simp [Instr.typeAssert, run_underlying Try.underlying68, go_sem, Result.andThen]
set_option maxRecDepth 100000 in
set_option maxHeartbeats 2000000 in
theorem caught_idle (p : Addr) (w : World) :
    CallsD Try.prog 20 #[.pointer (some p)] .returning w fun en u' w' =>
      en = .returned (.tuple #[]) ∧ u' = .returning ∧ w' = w.alloc (.cells #[.int .i64 0, .int .i64 0] 68) := by
  refine callsD_of_wpS Try.func20 rfl fun c₀ cs hu => ?_
  apply wpS_seq
  apply wpS_region
  simp [wpOpsS, go_sem, recoverD, hu, Try.ntmps20, Exit.thenS, assert_nil]
  apply wpS_seq
  apply wpS_region
  simp [wpOpsS, go_sem, Exit.thenS, Array.replicate]
  refine wpS_cond (t := false) (by simp [Act.eval]) ?_
  simp only [Bool.false_eq_true, if_false]
  refine wpS_of_wp (wp_skip ?_)
  cases c₀
  simp_all [bodyPostS, results, Try.results20]
set_option maxRecDepth 100000 in
set_option maxHeartbeats 2000000 in
theorem caught_panicking (p : Addr) (x a e : Int) (older : List PanicEntry) (w : World) (hp : p.block < w.heap.size) (hc : w.cell? p = some (.int .i64 x)) (hz : w.frozen? p = false) :
    CallsD Try.prog 20 #[.pointer (some p)] (.panicking ({ v := faultV a e, recovered := false } :: older)) w fun en u' w' =>
      en = .returned (.tuple #[]) ∧ u' = .panicking ({ v := faultV a e, recovered := true } :: older) ∧ w' = (w.alloc (.cells #[.int .i64 a, .int .i64 e] 68)).setCell p (.int .i64 e) := by
  refine callsD_of_wpS Try.func20 rfl fun c₀ cs hu => ?_
  apply wpS_seq
  apply wpS_region
  simp [wpOpsS, go_sem, recoverD, hu, Try.ntmps20, Exit.thenS, assert_fault]
  apply wpS_seq
  apply wpS_region
  simp [wpOpsS, go_sem, Exit.thenS, Array.replicate]
  refine wpS_cond (t := true) (by simp [Act.eval]) ?_
  simp only [if_true]
  have kF := Blk.new w 68 #[.int .i64 a, .int .i64 e]
  have hb := (Below.refl w.heap.size w).alloc (Nat.le_refl _) (.cells #[.int .i64 a, .int .i64 e] 68)
  have hc2 := (hb.cell hp).trans hc
  have hz2 : (w.alloc (.cells #[.int .i64 a, .int .i64 e] 68)).frozen? p = false := (World.frozen?_alloc_old w _ p (Nat.ne_of_lt hp)).trans hz
  have k1 : (w.alloc (.cells #[.int .i64 a, .int .i64 e] 68)).cell? ⟨w.heap.size, 1, none⟩ = some (.int .i64 e) := kF.cell 1
  apply wpS_region
  simp [wpOpsS, go_sem, hc2, hz2, k1, bodyPostS, results, Try.results20]
/-! ### Sum's closure -/
theorem sum1_ok (g : Nat) (ps : Addr) (u : FrameMode) (w : World) (hc : w.cell? ⟨g, 0, none⟩ = some (.int .i64 0)) :
    CallsD Try.prog 28 #[.pointer (some ⟨g, 0, none⟩), .pointer (some ps)] u w fun en u' w' => u' = u ∧ (en = .returned (.tuple #[]) ∧ w' = w) := by
  go_enter_d Try.func28, Try.ntmps28
  go_wp2_with fail
  go_end0
  exact ⟨rfl, rfl⟩
theorem sum1_bad (g q : Nat) (e : Int) (he : e ≠ 0) (sa sb sc sd : Value) (u : FrameMode) (w : World) (hc : w.cell? ⟨g, 0, none⟩ = some (.int .i64 e)) (hk : Blk w q 42 #[sa, sb, sc, sd]) :
    CallsD Try.prog 28 #[.pointer (some ⟨g, 0, none⟩), .pointer (some ⟨q, 0, none⟩)] u w fun en u' w' => u' = u ∧ (en = .returned (.tuple #[]) ∧ w' = (((w.setCell ⟨q, 0, none⟩ (.int .u64 0)).setCell ⟨q, 1, none⟩ (.int .u64 0)).setCell ⟨q, 2, none⟩ (.int .u64 0)).setCell ⟨q, 3, none⟩ (.int .u64 0)) := by
  have he1 : (e != 0) = true := by simpa using he
  obtain ⟨q0, q1, q2, q3, f0, f1, f2, f3⟩ := blk4 hk
  go_enter_d Try.func28, Try.ntmps28
  go_wp2_with fail
  go_end0
  exact ⟨rfl, rfl⟩
end Go.Proofs.Ytcbeadldieeceaa

/-
  stream.Sum, by its contract.
-/
namespace Go.Proofs.Ytcbeadldieeceaa
open Go.RowKit

def sumR (l : List Rc) : Sm := if sumE l = 0 then sumS Sm0 l else Sm0
theorem take_map_snoc (l : List RcR) (k : Nat) (hk : k < l.length) : (l.take (k + 1)).map RcR.r = (l.take k).map RcR.r ++ [l[k].r] := by
  rw [List.take_add_one, List.getElem?_eq_getElem hk, List.map_append]; rfl
theorem addr_add0' (a : Nat) (j : Nat) : (⟨a, 0, none⟩ : Addr).add j = ⟨a, j, none⟩ := by unfold Addr.add; split <;> simp_all
theorem new_cells (wr : World) (t : TypeId) (cs : List Value) : ∀ (j : Nat) (v : Value), cs[j]? = some v → (wr.alloc (.cells cs.toArray t)).cell? ((⟨wr.heap.size, 0, none⟩ : Addr).add j) = some v := by
  intro j v hv
  have := (Blk.new wr t cs.toArray).cell j
  rw [List.getElem?_toArray, hv] at this
  rw [addr_add0']
  exact this
theorem WrB.below {w w' : World} {g base : Nat} {o : List UInt8} {s : Sm} (h : WrB w g base o s) (hb : Below w.heap.size w w') : WrB w' g base o s := by
  obtain ⟨A, n, c, h1, h2, h3, h4⟩ := h
  exact ⟨A, n, c, h1, h2.below hb h2.lt, own_below h3 hb, h4⟩
set_option maxRecDepth 100000 in
set_option maxHeartbeats 4000000 in
theorem sum_any (l : List RcR) (n : Nat) (hnl : n = l.length) (A : Option Addr) (c : Nat) (w : World) (hr : Reads w w.heap.size 12 A n (cellsK RcR.cs l)) (hn : n ≤ 1048576) (hrd : ∀ x ∈ l, x.rd w w.heap.size) (hsz : ∀ x ∈ l, x.sz) :
    Calls Try.prog 12 #[.slice A n c] w fun e w' => e = .returned (.tuple #[(sumR (l.map RcR.r)).val, .int .i64 (sumE (l.map RcR.r))]) ∧ Below w.heap.size w w' := by
  have hmf : ∀ (fn : Fn) (first cap : Array Value) (w : World), (Instr.makeFunc fn first cap).run Try.prog w = .ok (.func fn first cap) w := fun _ _ _ _ => rfl
  obtain ⟨g, hg⟩ : ∃ g, g = w.heap.size := ⟨_, rfl⟩
  have HG := Lib.hid hg
  have HN := Lib.hid hnl
  have HR := Lib.hid hr
  have HRD := Lib.hid hrd
  have HSZ := Lib.hid hsz
  obtain ⟨W0, hW0⟩ : ∃ W, W = ((w.alloc (.cells #[.int .u64 0, .int .u64 0, .int .u64 0, .int .u64 0] 42)).alloc (.cells #[.int .i64 0] 28)).alloc (.cells #[.slice none 0 0, .int .u64 0, .int .u64 0, .int .u64 0, .int .u64 0] 59) := ⟨_, rfl⟩
  have k0 : Blk W0 g 42 #[.int .u64 0, .int .u64 0, .int .u64 0, .int .u64 0] := by rw [hW0, hg]; exact ((Blk.new w _ _).alloc _).alloc _
  have k1 : Blk W0 (g + 1) 28 #[.int .i64 0] := by
    rw [hW0, hg]
    have := Blk.new (w.alloc (.cells #[.int .u64 0, .int .u64 0, .int .u64 0, .int .u64 0] 42)) 28 #[.int .i64 0]
    simp at this
    exact this.alloc _
  have k2 : Blk W0 (g + 1 + 1) 59 #[.slice none 0 0, .int .u64 0, .int .u64 0, .int .u64 0, .int .u64 0] := by
    rw [hW0, hg]
    have := Blk.new ((w.alloc (.cells #[.int .u64 0, .int .u64 0, .int .u64 0, .int .u64 0] 42)).alloc (.cells #[.int .i64 0] 28)) 59 #[.slice none 0 0, .int .u64 0, .int .u64 0, .int .u64 0, .int .u64 0]
    simp at this
    exact this
  have hb0 : Below w.heap.size w W0 := by rw [hW0]; exact ((((Below.refl _ _).alloc (Nat.le_refl _) _).alloc (by simp) _).alloc (by simp; omega) _)
  have HK0 := Lib.hid k0
  have HK1 := Lib.hid k1
  have HW := Lib.hid (show WrB W0 (g + 1 + 1) (g + 1 + 1 + 1) [] Sm0 from ⟨none, 0, 0, rfl, k2, World.ownsRow_nil _ _ _ _, by omega⟩)
  have HB0 := Lib.hid hb0
  have hs0 : W0.heap.size = g + 3 := by rw [hW0, hg]; simp
  clear k0 k1 k2 hb0 hnl hr hrd hsz
  go_enter_defers Try.func12, Try.ntmps12
  go_wp2_with fail
  rw [← hW0, ← hg]
  have HWS := Lib.hid hs0
  clear hW0 hg hs0
  go_loopw [12] (fun i wr => ∃ k : Nat, k ≤ n ∧ i = .int .i64 (k : Int) ∧ Hid (sumE ((l.take k).map RcR.r) = 0) ∧ Hid (WrB wr (g + 1 + 1) (g + 1 + 1 + 1) (encAll ((l.take k).map RcR.r)) (sumS Sm0 ((l.take k).map RcR.r))) ∧ Hid (Blk wr g 42 #[.int .u64 0, .int .u64 0, .int .u64 0, .int .u64 0]) ∧ Hid (Blk wr (g + 1) 28 #[.int .i64 0]) ∧ Hid (Below w.heap.size w wr)) (fun i _ => n - (intOf i).toNat)
  case atStart => exact ⟨0, Nat.zero_le _, rfl, rfl, HW.out, HK0.out, HK1.out, HB0.out⟩
  case round =>
    clear HW HK0 HK1 HB0 HWS
    obtain ⟨k, hk, rfl, HE, HW, HK0, HK1, HB⟩ := hrel
    by_cases hlt : k < n
    · obtain ⟨ad, rfl, hadB, hel⟩ := Reads.elAll (enc := RcR.cs) (k := 12) RcR.cs_len (HR.out.below HB.out) HN.out hlt
      have hkl : k < l.length := by have := HN.out; omega
      have HTK := Lib.hid (take_map_snoc l k hkl)
      have HTE := Lib.hid (sumE_take (l.map RcR.r) k (by simpa using hkl) (by rw [← List.map_take]; exact HE.out))
      have HX := Lib.hid (HRD.out _ (List.getElem_mem hkl))
      have HXZ := Lib.hid (HSZ.out _ (List.getElem_mem hkl))
      have hki : (k : Int) < (n : Int) := by omega
      obtain ⟨x, hx⟩ : ∃ x, x = l[k]'hkl := ⟨_, rfl⟩
      have hxr : (l.map RcR.r)[k]'(by simpa using hkl) = x.r := by rw [hx]; simp
      rw [hxr] at HTE
      rw [← hx] at hel HTK HX HXZ
      clear hxr hx
      obtain ⟨r, A1, n1, c1⟩ := x
      obtain ⟨cs, hcs⟩ : ∃ cs, cs = RcR.cs ⟨r, A1, n1, c1⟩ := ⟨_, rfl⟩
      have hcl : cs.length = 12 := by rw [hcs]; rfl
      have hc1 : ∀ u ∈ cs, u.oneCell' = true := by rw [hcs]; exact RcR.cs_one _
      have HCA : Hid (Value.agg cs.toArray = rcV r (.slice A1 n1 c1)) := by show _ = _; rw [hcs]; rfl
      rw [← hcs] at hel
      clear hcs
      have HEL := Lib.hid hel
      obtain ⟨W1, hW1⟩ : ∃ W, W = wr.alloc (.cells cs.toArray 47) := ⟨_, rfl⟩
      have hL := new_cells wr 47 cs
      have hb1 : Below wr.heap.size wr (wr.alloc (.cells cs.toArray 47)) := (Below.refl _ _).alloc (Nat.le_refl _) _
      rw [← hW1] at hL hb1
      have HL := Lib.hid hL
      have HW1 := Lib.hid (HW.out.below hb1)
      have HK01 := Lib.hid (HK0.out.below hb1 HK0.out.lt)
      have HK11 := Lib.hid (HK1.out.below hb1 HK1.out.lt)
      have HB1 := Lib.hid (HB.out.trans (hb1.mono HB.out.size))
      have HX1 : Hid ((RcR.mk r A1 n1 c1).rd W1 w.heap.size) := HX.out.below HB1.out
      clear hel hL hb1 hadB HW HK0 HK1 HB HX HE
      go_wp2_with (first | (refine wpList_load_at rfl 47 (.tmp 14) rfl (ad.add (k * 12)) rfl cs _ HEL.out Try.underlying47 rfl (by rw [hcl]; kernel_rfl) ?_) | (refine wpList_store_new wr rfl 47 (.tmp 6) (.tmp 15) rfl 47 _ cs rfl rfl (by rw [hcl]; rfl) (by rw [hcl]; kernel_rfl) hc1 ?_; rw [← hW1]; clear hW1) | (refine wpList_load_at rfl 47 (.tmp 6) rfl ⟨wr.heap.size, 0, none⟩ rfl cs _ HL.out Try.underlying47 rfl (by rw [hcl]; kernel_rfl) ?_))
      clear HEL HL hcl hc1
      rw [HCA.out]
      have hgw : g + 1 + 1 + 1 ≤ W1.heap.size := by
        obtain ⟨A9, n9, c9, _, q9, _, _⟩ := HW1.out
        have := q9.lt
        omega
      by_cases hE : recE r = 0
      · have HSE := Lib.hid (HTE.out.1 hE)
        have hol : (encAll ((l.take k).map RcR.r)).length ≤ 100000000000000 := by
          have h0 := HSE.out
          rw [← List.map_take, HTK.out] at h0
          have h1 : sumE ((l.take k).map RcR.r) = 0 := (sumE_all _).2 (fun y hy => (sumE_all _).1 h0 y (List.mem_append_left _ hy))
          have h2 := encAll_len _ h1
          rw [List.length_map, List.length_take] at h2
          have : 703 * min k l.length ≤ 703 * k := Nat.mul_le_mul_left _ (Nat.min_le_left _ _)
          omega
        refine (put_ok (g + 1 + 1) (g + 1 + 1 + 1) (encAll ((l.take k).map RcR.r)) (sumS Sm0 ((l.take k).map RcR.r)) r hE n1 HX1.out.1 A1 c1 W1 w.heap.size HB1.out.size HX1.out.2 HXZ.out.n (fun y hy => (HXZ.out.ps y hy).2) HW1.out hgw hol (by have := (encL_len r hE).1; omega)).mono ?_
        clear hol
        rintro e w2 ⟨rfl, hw2, hb2⟩
        have HW2 := Lib.hid hw2
        have HK02 := Lib.hid (HK01.out.below hb2 (by omega))
        have HK12 := Lib.hid (HK11.out.below hb2 (by omega))
        have HB2 := Lib.hid (HB1.out.trans (hb2.mono (by have := HG.out; omega)))
        clear hw2 hb2 HW1 HK01 HK11 HB1 HX1 hE
        go_wp2_with fail
        go_roundw
        case rel =>
          refine ⟨k + 1, by omega, by go_num, ?_, ?_, HK02.out, HK12.out, HB2.out⟩
          · show _ = _
            rw [List.map_take]; exact HSE.out
          · show WrB _ _ _ _ _
            rw [HTK.out, encAll_snoc, sumS_snoc]; exact HW2.out
        case measure => simp [intOf]; omega
      · have HSE := Lib.hid (HTE.out.2 hE)
        refine (put_bad (g + 1 + 1) r hE n1 HX1.out.1 A1 c1 W1 w.heap.size HB1.out.size HX1.out.2 HXZ.out.n (fun y hy => (HXZ.out.ps y hy).2)).mono ?_
        rintro e w2 ⟨rfl, hb2⟩
        have HK02 := Lib.hid (HK01.out.below hb2 (by omega))
        have HK12 := Lib.hid (HK11.out.below hb2 (by omega))
        have HB2 := Lib.hid (HB1.out.trans (hb2.mono HB1.out.size))
        clear hb2 HW1 HK01 HK11 HB1 HX1
        go_wp2_with fail
        refine leaves_cons (f := 20) (args := #[.pointer (some ⟨g + 1, 0, none⟩)]) (by simp) (by simp [go_sem]) ?_
        refine (caught_panicking ⟨g + 1, 0, none⟩ 0 0 (recE r) [] w2 HK12.out.lt (HK12.out.cell 0) (HK12.out.frozen 0)).mono ?_
        rintro e u' w3 ⟨rfl, rfl, hw3⟩
        have k03 : Blk w3 g 42 #[.int .u64 0, .int .u64 0, .int .u64 0, .int .u64 0] := by rw [hw3]; exact (HK02.out.alloc _).far (by simp) _
        have k13 : Blk w3 (g + 1) 28 #[.int .i64 (recE r)] := by rw [hw3]; exact (HK12.out.alloc _).set_ 0 _
        have hb3 : Below w.heap.size w w3 := by rw [hw3]; exact (HB2.out.alloc HB2.out.size _).setCell (by have := HG.out; simp only; omega) _
        clear hw3
        refine leaves_cons (f := 28) (args := #[.pointer (some ⟨g + 1, 0, none⟩), .pointer (some ⟨g, 0, none⟩)]) (by simp [settle]) (by simp [go_sem]) ?_
        refine (sum1_bad (g + 1) g (recE r) hE _ _ _ _ _ w3 (k13.cell 0) k03).mono ?_
        rintro e u' w4 ⟨rfl, rfl, hw4⟩
        have k14 : Blk w4 (g + 1) 28 #[.int .i64 (recE r)] := by rw [hw4]; exact (((k13.far (by simp) _).far (by simp) _).far (by simp) _).far (by simp) _
        have k04 : Blk w4 g 42 #[.int .u64 0, .int .u64 0, .int .u64 0, .int .u64 0] := by rw [hw4]; exact (((k03.set_ 0 _).set_ 1 _).set_ 2 _).set_ 3 _
        have hb4 : Below w.heap.size w w4 := by
          have hgg : w.heap.size ≤ g := by have := HG.out; omega
          rw [hw4]; exact (((hb3.setCell hgg _).setCell hgg _).setCell hgg _).setCell hgg _
        clear hw4
        obtain ⟨q0, q1, q2, q3, _⟩ := blk4 k04
        have q4 : w4.cell? ⟨g + 1, 0, none⟩ = some (.int .i64 (recE r)) := k14.cell 0
        have hs : sumE (l.map RcR.r) = recE r := HSE.out
        have hz : sumR (l.map RcR.r) = Sm0 := by unfold sumR; rw [if_neg (by rw [hs]; exact hE)]
        rw [hz, hs]
        simp [Leaves, settle, results, Try.results12, go_sem, q0, q1, q2, q3, q4]
        exact ⟨rfl, hb4⟩
    · obtain rfl : k = n := by omega
      have HTL : Hid ((l.take k).map RcR.r = l.map RcR.r) := by show _ = _; rw [HN.out, List.take_length]
      have HSE : Hid (sumE (l.map RcR.r) = 0) := by show _ = _; rw [← HTL.out]; exact HE.out
      have hsr : sumR (l.map RcR.r) = sumS Sm0 ((l.take k).map RcR.r) := by unfold sumR; rw [if_pos HSE.out, HTL.out]
      obtain ⟨⟨sa, sb, sc, sd⟩, hS⟩ : ∃ s, s = sumS Sm0 ((l.take k).map RcR.r) := ⟨_, rfl⟩
      rw [← hS] at HW hsr
      have HSR := Lib.hid hsr
      obtain ⟨A9, n9, c9, _, hk9, _, _⟩ := HW.out
      obtain ⟨q0, q1, q2, q3, f0, f1, f2, f3⟩ := blk4 HK0.out
      have e1 := hk9.cell 1
      have e2 := hk9.cell 2
      have e3 := hk9.cell 3
      have e4 := hk9.cell 4
      simp only [List.getElem?_toArray, List.getElem?_cons_succ, List.getElem?_cons_zero] at e1 e2 e3 e4
      have p0 := HK1.out.cell 0
      have pf := HK1.out.frozen 0
      simp only [List.getElem?_toArray, List.getElem?_cons_zero] at p0
      have k0e := (((((HK0.out.set_ 0 (.int .u64 sa)).set_ 1 (.int .u64 sb)).set_ 2 (.int .u64 sc)).set_ 3 (.int .u64 sd)).far (p := ⟨g + 1, 0, none⟩) (by simp) (.int .i64 0))
      have k1e := (((((HK1.out.far (p := ⟨g, 0, none⟩) (by simp) (.int .u64 sa)).far (p := ⟨g, 1, none⟩) (by simp) (.int .u64 sb)).far (p := ⟨g, 2, none⟩) (by simp) (.int .u64 sc)).far (p := ⟨g, 3, none⟩) (by simp) (.int .u64 sd)).set_ 0 (.int .i64 0))
      have hgg : w.heap.size ≤ g := by have := HG.out; omega
      have hbe := (((((HB.out.setCell (p := ⟨g, 0, none⟩) hgg (.int .u64 sa)).setCell (p := ⟨g, 1, none⟩) hgg (.int .u64 sb)).setCell (p := ⟨g, 2, none⟩) hgg (.int .u64 sc)).setCell (p := ⟨g, 3, none⟩) hgg (.int .u64 sd)).setCell (p := ⟨g + 1, 0, none⟩) (by simp only; omega) (.int .i64 0))
      have HK0E := Lib.hid k0e
      have HK1E := Lib.hid k1e
      have HBE := Lib.hid hbe
      clear k0e k1e hbe HE HTL hsr hS HW HK0 HK1 HB hk9
      go_wp2_with fail
      refine leaves_cons (f := 20) (args := #[.pointer (some ⟨g + 1, 0, none⟩)]) (by simp) (by simp [go_sem]) ?_
      refine (caught_idle ⟨g + 1, 0, none⟩ _).mono ?_
      rintro e u' w3 ⟨rfl, rfl, hw3⟩
      have k03 : Blk w3 g 42 #[.int .u64 sa, .int .u64 sb, .int .u64 sc, .int .u64 sd] := by rw [hw3]; exact HK0E.out.alloc _
      have k13 : Blk w3 (g + 1) 28 #[.int .i64 0] := by rw [hw3]; exact HK1E.out.alloc _
      have hb3 : Below w.heap.size w w3 := by rw [hw3]; exact HBE.out.alloc HBE.out.size _
      clear hw3
      refine leaves_cons (f := 28) (args := #[.pointer (some ⟨g + 1, 0, none⟩), .pointer (some ⟨g, 0, none⟩)]) (by simp [settle]) (by simp [go_sem]) ?_
      refine (sum1_ok (g + 1) ⟨g, 0, none⟩ _ w3 (k13.cell 0)).mono ?_
      rintro e u' w4 ⟨rfl, rfl, rfl⟩
      obtain ⟨q0, q1, q2, q3, _⟩ := blk4 k03
      have q4 : w4.cell? ⟨g + 1, 0, none⟩ = some (.int .i64 0) := k13.cell 0
      have hs : sumE (l.map RcR.r) = 0 := HSE.out
      have hz : sumR (l.map RcR.r) = ⟨sa, sb, sc, sd⟩ := HSR.out
      rw [hz, hs]
      simp [Leaves, settle, results, Try.results12, go_sem, q0, q1, q2, q3, q4]
      exact ⟨rfl, hb3⟩
end Go.Proofs.Ytcbeadldieeceaa

/-
  Lists of blocks in memory; blocks.Get, blocks.Check, the page's Same, by their contracts.
-/
namespace Go.Proofs.Ytcbeadldieeceaa
open Go.RowKit

abbrev BL := List (Int × List UInt8)
def bcells (l : BL) : List Value := l.flatMap fun x => [.int .i64 x.1, .string ⟨x.2.toArray⟩]
theorem bcells_length (l : BL) : (bcells l).length = l.length * 2 := by
  induction l with
  | nil => rfl
  | cons x l ih => simp only [bcells, List.flatMap_cons, List.length_append, List.length_cons, List.length_nil] at ih ⊢; omega
theorem bcells_append (a b : BL) : bcells (a ++ b) = bcells a ++ bcells b := by simp [bcells]
theorem bcells_get (l : BL) (k : Nat) (h : k < l.length) : (bcells l)[k * 2]? = some (.int .i64 (l[k]).1) ∧ (bcells l)[k * 2 + 1]? = some (.string ⟨(l[k]).2.toArray⟩) := by
  induction l generalizing k with
  | nil => simp at h
  | cons x l ih =>
    have e : bcells (x :: l) = .int .i64 x.1 :: .string ⟨x.2.toArray⟩ :: bcells l := rfl
    rw [e]
    cases k with
    | zero => exact ⟨rfl, rfl⟩
    | succ k =>
      rw [show (k + 1) * 2 = k * 2 + 1 + 1 by omega]
      simp only [List.getElem?_cons_succ, List.getElem_cons_succ]
      exact ih k (by simpa using h)
theorem Reads.blk2 {w : World} {B n : Nat} {A : Option Addr} {l : BL} (h : Reads w B 2 A n (bcells l)) (hn : n = l.length) {k : Nat} (hk : k < n) :
    ∃ ad, A = some ad ∧ ad.block < B ∧ w.cell? (ad.add (k * 2)) = some (.int .i64 (l[k]'(by omega)).1) ∧ w.cell? ⟨(ad.add (k * 2)).block, (ad.add (k * 2)).off + 1, none⟩ = some (.string ⟨(l[k]'(by omega)).2.toArray⟩) := by
  obtain ⟨ad, e, hb, hc⟩ := h.2 (by omega)
  obtain ⟨g1, g2⟩ := bcells_get l k (by omega)
  refine ⟨ad, e, hb, hc _ _ g1, ?_⟩
  have h2 := hc _ _ g2
  rw [← add_of_add] at h2
  simpa [Addr.add] using h2

def getL (l : BL) (i : Int) : List UInt8 := match l.find? (fun x => x.1 == i) with
  | some x => x.2
  | none => []
def hasL (l : BL) (i : Int) : Bool := l.any fun x => x.1 == i

/-! ### Same -/
set_option maxRecDepth 100000 in
set_option maxHeartbeats 1000000 in
theorem bksame_any (l m : BL) (n n' : Nat) (hnl : n = l.length) (hnm : n' = m.length) (A A' : Option Addr) (c c' : Nat) (w : World) (B B' : Nat) (hr : Reads w B 2 A n (bcells l)) (hr' : Reads w B' 2 A' n' (bcells m)) (hn : n ≤ 140737488351232) :
    Calls Try.prog 15 #[.slice A n c, .slice A' n' c'] w fun e w' => e = .returned (.bool (l == m)) ∧ ∃ q, w' = w.drewN q := by
  by_cases hlen : n = n'
  · have e1 : ((n : Int) == (n' : Int)) = true := by simp [hlen]
    have e2 : ((n : Int) != (n' : Int)) = false := by simp [hlen]
    have HL := Lib.hid hlen
    have HN := Lib.hid hnl
    have HM := Lib.hid hnm
    clear hnl hnm hlen
    go_enter Try.func15, Try.ntmps15
    go_wp2_with fail
    clear e1 e2
    go_loopw [5] (fun j wr => ∃ k q : Nat, k ≤ n ∧ j = .int .i64 (k : Int) ∧ Hid (l.take k = m.take k) ∧ wr = w.drewN q) (fun j _ => n - (intOf j).toNat)
    case atStart => exact ⟨0, 0, Nat.zero_le _, rfl, (show _ = _ by simp), rfl⟩
    case round =>
      obtain ⟨k, q, hk, rfl, heq, rfl⟩ := hrel
      by_cases hlt : k < n
      · obtain ⟨ad, rfl, _, c0, c1⟩ := hr.blk2 HN.out hlt
        obtain ⟨ad', rfl, _, c0', c1'⟩ := hr'.blk2 HM.out (k := k) (by have := HL.out; omega)
        have hki : (k : Int) < (n : Int) := by omega
        have hki' : (k : Int) < (n' : Int) := by have := HL.out; omega
        have hkl : k < l.length := by have := HN.out; omega
        have hkm : k < m.length := by have := HL.out; have := HN.out; have := HM.out; omega
        obtain ⟨x, hx⟩ : ∃ x, x = l[k]'hkl := ⟨_, rfl⟩
        obtain ⟨y, hy⟩ : ∃ y, y = m[k]'hkm := ⟨_, rfl⟩
        rw [← hx] at c0 c1
        rw [← hy] at c0' c1'
        have htl := List.take_succ_eq_append_getElem hkl
        have htm := List.take_succ_eq_append_getElem hkm
        rw [← hx] at htl
        rw [← hy] at htm
        have HX := Lib.hid hx
        have HY := Lib.hid hy
        have HTL := Lib.hid htl
        have HTM := Lib.hid htm
        obtain ⟨xi, xs⟩ := x
        obtain ⟨yi, ys⟩ := y
        simp only at c0 c1 c0' c1'
        clear hx hy htl htm hr hr'
        go_wp2_with fail
        by_cases hxy : xi = yi
        · subst hxy
          by_cases hss : xs = ys
          · subst hss
            have hnext : Hid (l.take (k + 1) = m.take (k + 1)) := by
              show _ = _
              rw [HTL.out, HTM.out, heq.out]
            clear heq HTL HTM HX HY
            go_big_quiet (fail)
            go_wp2_with fail
            go_roundw
            case rel => exact ⟨k + 1, q + nq, by omega, by go_num, hnext, rfl⟩
            case measure => simp [intOf]; omega
          · have hb1 : (xs == ys) = false := by simpa using hss
            have hb2 : (xs != ys) = true := by simpa using hss
            have HF : Hid ((l == m) = false) := by
              show _ = _
              cases h : (l == m) with
              | false => rfl
              | true =>
                have e := eq_of_beq h
                subst e
                exact absurd (HX.out.trans HY.out.symm) (by intro e; injection e with e1 e2; exact hss e2)
            clear hss heq HX HY HTL HTM
            go_big_quiet (fail)
            go_wp2_with fail
            go_ret
            exact ⟨by rw [HF.out]; rfl, q + nq, World.drewN_drewN _ _ _⟩
        · have hb1 : (xi == yi) = false := by simpa using hxy
          have hb2 : (xi != yi) = true := by simpa using hxy
          have HF : Hid ((l == m) = false) := by
            show _ = _
            cases h : (l == m) with
            | false => rfl
            | true =>
              have e := eq_of_beq h
              subst e
              exact absurd (HX.out.trans HY.out.symm) (by intro e; injection e with e1 e2; exact hxy e1)
          clear hxy heq HX HY HTL HTM
          go_big_quiet (fail)
          go_wp2_with fail
          go_ret
          exact ⟨by rw [HF.out]; rfl, q + nq, World.drewN_drewN _ _ _⟩
      · obtain rfl : k = n := by omega
        have HF : Hid ((l == m) = true) := by
          show _ = _
          have h1 := heq.out
          rw [List.take_of_length_le (by rw [HN.out]; exact Nat.le_refl _), List.take_of_length_le (by rw [HL.out, HM.out]; exact Nat.le_refl _)] at h1
          rw [h1]
          exact beq_self_eq_true m
        clear heq hr hr'
        go_wp2_with fail
        go_ret
        exact ⟨by rw [HF.out]; rfl, q, rfl⟩
  · have e1 : ((n : Int) == (n' : Int)) = false := by simp; omega
    have e2 : ((n : Int) != (n' : Int)) = true := by simp; omega
    have e3 : ¬ (n : Int) = (n' : Int) := by omega
    have hne : (l == m) = false := by
      cases h : (l == m) with
      | false => rfl
      | true => exact absurd (by rw [hnl, hnm, (eq_of_beq h : l = m)]) hlen
    have HNE := Lib.hid hne
    clear hnl hnm hne hr hr'
    go_enter Try.func15, Try.ntmps15
    go_wp2_with fail
    go_ret
    exact ⟨by rw [HNE.out]; rfl, 0, rfl⟩

/-! ### Check -/
def okFrom : Option Int → BL → Bool
  | _, [] => true
  | p, x :: r => decide (0 ≤ x.1) && decide (x.1 < 1024) && decide (x.2.length = 16) && (match p with
    | none => true
    | some y => decide (y < x.1)) && okFrom (some x.1) r
def okL (l : BL) : Bool := okFrom none l
def okE (l : BL) : Int := if okL l then 0 else 9
def prevAt (l : BL) (k : Nat) : Option Int := match k with
  | 0 => none
  | j + 1 => (l[j]?).map (·.1)
def CheckBk (w : World) (E : Int) (e : Ending) (w' : World) : Prop := e = .returned (.int .i64 E) ∧ Below w.heap.size w w'

set_option maxRecDepth 100000 in
set_option maxHeartbeats 2000000 in
theorem checkBk_any (l : BL) (n : Nat) (hnl : n = l.length) (A : Option Addr) (c : Nat) (w : World) (B : Nat) (hr : Reads w B 2 A n (bcells l)) (hB : B ≤ w.heap.size) (hn : n ≤ 140737488351232) :
    Calls Try.prog 17 #[.slice A n c] w (CheckBk w (okE l)) := by
  have HN := Lib.hid hnl
  clear hnl
  go_enter Try.func17, Try.ntmps17
  go_wp2_with fail
  go_loopw [7] (fun j wr => ∃ k : Nat, k ≤ n ∧ j = .int .i64 (k : Int) ∧ Hid (okL l = okFrom (prevAt l k) (l.drop k)) ∧ Below w.heap.size w wr) (fun j _ => n - (intOf j).toNat)
  case atStart => exact ⟨0, Nat.zero_le _, rfl, rfl, Below.refl _ _⟩
  case round =>
    obtain ⟨k, hk, rfl, hok, hbw⟩ := hrel
    by_cases hlt : k < n
    · have hrw := hr.below (hbw.mono hB)
      obtain ⟨ad, rfl, hadB, c0, c1⟩ := hrw.blk2 HN.out hlt
      have hki : (k : Int) < (n : Int) := by omega
      have hkl : k < l.length := by have := HN.out; omega
      obtain ⟨x, hx⟩ : ∃ x, x = l[k]'hkl := ⟨_, rfl⟩
      rw [← hx] at c0 c1
      have hdr := List.drop_eq_getElem_cons hkl
      rw [← hx] at hdr
      have HX := Lib.hid hx
      have HDR := Lib.hid hdr
      obtain ⟨xi, xs⟩ := x
      simp only at c0 c1
      have hk0 : (wr.alloc (.cells #[.int .i64 xi, .string ⟨xs.toArray⟩] 87)).cell? ⟨wr.heap.size, 0, none⟩ = some (.int .i64 xi) := (Blk.new wr _ _).cell 0
      have hk1 : (wr.alloc (.cells #[.int .i64 xi, .string ⟨xs.toArray⟩] 87)).cell? ⟨wr.heap.size, 1, none⟩ = some (.string ⟨xs.toArray⟩) := (Blk.new wr _ _).cell 1
      have hbad : Hid ((xi < 0 ∨ 1024 ≤ xi ∨ xs.length ≠ 16 ∨ (∃ y, prevAt l k = some y ∧ xi ≤ y)) → okE l = 9) := by
        intro h
        have hf : okL l = false := by
          rw [hok.out, HDR.out]
          cases hfv : okFrom (prevAt l k) ((xi, xs) :: l.drop (k + 1)) with
          | false => rfl
          | true =>
            exfalso
            simp only [okFrom, Bool.and_eq_true, decide_eq_true_eq] at hfv
            obtain ⟨⟨⟨⟨h1, h2⟩, h3⟩, h4⟩, _⟩ := hfv
            rcases h with h | h | h | ⟨y, hy, h⟩
            · omega
            · omega
            · exact h h3
            · rw [hy] at h4; simp at h4; omega
        unfold okE
        rw [hf]
        rfl
      have hgood : Hid ((0 ≤ xi ∧ xi < 1024 ∧ xs.length = 16 ∧ (∀ y, prevAt l k = some y → y < xi)) → okL l = okFrom (prevAt l (k + 1)) (l.drop (k + 1))) := by
        rintro ⟨h1, h2, h3, h4⟩
        rw [hok.out, HDR.out]
        have hp : prevAt l (k + 1) = some xi := by
          show (l[k]?).map (·.1) = _
          rw [List.getElem?_eq_getElem hkl, ← HX.out]
          rfl
        rw [hp]
        simp only [okFrom, h1, h2, h3, decide_true, Bool.true_and]
        cases hq : prevAt l k with
        | none => rfl
        | some y => simp [h4 y hq]
      clear hx hdr hok
      by_cases g1 : xi < 0
      · have HB := Lib.hid (hbad.out (.inl g1))
        clear hr hrw hbad hgood
        go_wp2_with fail
        go_big_quiet (fail)
        go_wp2_with fail
        go_ret
        exact ⟨by rw [HB.out]; rfl, below_drewN (hbw.alloc hbw.size _) nq⟩
      by_cases g2 : 1024 ≤ xi
      · have HB := Lib.hid (hbad.out (.inr (.inl g2)))
        have d1 : decide (xi < 0) = false := by simp; omega
        have d2 : decide (1024 ≤ xi) = true := by simp; omega
        clear hr hrw hbad hgood g1 g2
        go_wp2_with fail
        go_big_quiet (fail)
        go_wp2_with fail
        go_ret
        exact ⟨by rw [HB.out]; rfl, below_drewN (hbw.alloc hbw.size _) nq⟩
      by_cases g3 : xs.length = 16
      · have g1' : 0 ≤ xi := by omega
        have g2' : xi < 1024 := by omega
        have g3a : ((xs.length : Int) == 16) = true := by simp [g3]
        have g3b : ((xs.length : Int) != 16) = false := by simp [g3]
        have d1 : decide (xi < 0) = false := by simp; omega
        have d2 : decide (1024 ≤ xi) = false := by simp; omega
        rcases Nat.eq_zero_or_pos k with h0 | h0
        · have HG := Lib.hid (hgood.out ⟨g1', g2', g3, fun y hy => by subst h0; cases hy⟩)
          have d4 : decide ((0 : Int) < (k : Int)) = false := by simp; omega
          have d4' : decide (0 < k) = false := by simp; omega
          have H0 := Lib.hid h0
          clear hr hrw hbad hgood g1 g2 g3 h0
          go_wp2_with fail
          go_big_quiet (fail)
          go_wp2_with fail
          go_roundw
          case rel => exact ⟨k + 1, by omega, by go_num, HG, below_drewN (hbw.alloc hbw.size _) nq⟩
          case measure => simp [intOf]; omega
        · have d4 : decide ((0 : Int) < (k : Int)) = true := by simp; omega
          have d4' : decide (0 < k) = true := by simp; omega
          have hk1l : k - 1 < l.length := by omega
          obtain ⟨y, hy⟩ : ∃ y, y = (l[k - 1]'hk1l).1 := ⟨_, rfl⟩
          have hpv : prevAt l k = some y := by
            obtain ⟨j, rfl⟩ : ∃ j, k = j + 1 := ⟨k - 1, by omega⟩
            show (l[j]?).map (·.1) = _
            have hj : j < l.length := by simpa using hk1l
            rw [List.getElem?_eq_getElem hj, hy]
            rfl
          have hcp := (hrw.blk2 HN.out (k := k - 1) (by omega))
          obtain ⟨ad2, e2, -, c2, -⟩ := hcp
          injection e2 with e2
          subst e2
          rw [← hy] at c2
          have c3 : (wr.alloc (.cells #[.int .i64 xi, .string ⟨xs.toArray⟩] 87)).cell? (ad.add ((k - 1) * 2)) = some (.int .i64 y) := (World.cell?_alloc_lt wr _ _ (by rw [block_of_add]; have := hbw.size; omega)).trans c2
          have i1 : (0 : Int) ≤ (k : Int) - 1 := by omega
          have i2 : (k : Int) - 1 < (n : Int) := by omega
          have i3 : IntKind.i64.wrap ((k : Int) - 1) = (k : Int) - 1 := IntWalk.i64_in _ (by omega)
          have i4 : ((k : Int) - 1).toNat = k - 1 := by omega
          by_cases g5 : y < xi
          · have HG := Lib.hid (hgood.out ⟨g1', g2', g3, fun y' hy' => by rw [hpv] at hy'; cases hy'; exact g5⟩)
            have d5 : decide (xi ≤ y) = false := by simp; omega
            clear hr hrw hbad hgood g1 g2 g3 h0 hpv hy c2 g5
            go_wp2_with fail
            go_big_quiet (fail)
            clear i3 i4
            go_wp2_with fail
            go_roundw
            case rel => exact ⟨k + 1, by omega, by go_num, HG, below_drewN (hbw.alloc hbw.size _) nq⟩
            case measure => simp [intOf]; omega
          · have HB := Lib.hid (hbad.out (.inr (.inr (.inr ⟨y, hpv, by omega⟩))))
            have d5 : decide (xi ≤ y) = true := by simp; omega
            clear hr hrw hbad hgood g1 g2 g3 h0 hpv hy c2 g5
            go_wp2_with fail
            go_big_quiet (fail)
            clear i3 i4
            go_wp2_with fail
            go_ret
            exact ⟨by rw [HB.out]; rfl, below_drewN (hbw.alloc hbw.size _) nq⟩
      · have g3a : ((xs.length : Int) == 16) = false := by simp; omega
        have g3b : ((xs.length : Int) != 16) = true := by simp; omega
        have g1' : 0 ≤ xi := by omega
        have g2' : xi < 1024 := by omega
        have HB := Lib.hid (hbad.out (.inr (.inr (.inl g3))))
        have d1 : decide (xi < 0) = false := by simp; omega
        have d2 : decide (1024 ≤ xi) = false := by simp; omega
        clear hr hrw hbad hgood g1 g2 g3
        go_wp2_with fail
        go_big_quiet (fail)
        go_wp2_with fail
        go_ret
        exact ⟨by rw [HB.out]; rfl, below_drewN (hbw.alloc hbw.size _) nq⟩
    · obtain rfl : k = n := by omega
      have HF : Hid (okE l = 0) := by
        show _ = _
        unfold okE
        rw [hok.out, List.drop_of_length_le (by rw [HN.out]; exact Nat.le_refl _)]
        rfl
      clear hok hr
      go_wp2_with fail
      go_ret
      exact ⟨by rw [HF.out]; rfl, hbw⟩
end Go.Proofs.Ytcbeadldieeceaa

/-
  A region that draws its order, by an invariant, inside a fence: each operation is looked at once, whatever the order.
-/
namespace Go.Proofs.Ytcbeadldieeceaa
open Go.RowKit

section
variable {F : Fence} {n : Nat} {P : Program} {ops : Array Oper}

/-- the end of a list of one operation -/
def endK (K : Act → World → Prop) (Q : Exit → Act → World → Prop) : Exit → Act → World → Prop
  | .normal, a, w => K a w
  | e, a, w => Q e a w
theorem wpIn_endK {o : Oper} {a : Act} {w : World} {K : Act → World → Prop} {Q : Exit → Act → World → Prop} (hh : o.wpIn F n P a w K (endK K Q)) : o.wpIn F n P a w K Q := by
  unfold Oper.wpIn at *
  refine ⟨hh.1, ?_⟩
  have hh := hh.2
  generalize (o.semAt F.round a.eval).run P w = r at *
  cases r with
  | ok x w' =>
    cases x <;> simp only [Oper.uponIn] at hh ⊢ <;>
      first
        | exact hh
        | exact ⟨hh.1, CallsIn.mono hh.2 (fun e w'' he => by cases e <;> exact he)⟩
        | exact ⟨hh.1, RoundIn.mono hh.2 (fun e w'' he => by cases e <;> exact he)⟩
  | halt x w' => cases x <;> simp only [Oper.uponIn] at hh ⊢ <;> exact hh

theorem wpIn_region_inv {id : Nat} {a0 : Act} {w : World} {Q : Exit → Act → World → Prop} (hm : P.follows .mixedOrders = true) (hok : regionOk ops a0.tmps.size = true) (J : (Nat → Option Value) → World → Prop)
    (h0 : J (fun _ => none) w.drew)
    (hstep : ∀ i o, ops[i]? = some o → ∀ m w, J m w → m i = none → (∀ e ∈ o.after, Region.binds .any e = true → (m e.on).isSome = true) → 
      ∀ (A : Act) (QK : Exit → Act → World → Prop), A = frameM a0 ops m → (∀ v w', J (upd m i v) w' → QK .normal (A.put o.dst v) w') → wpListIn F n P ops QK [o] A w)
    (hend : ∀ m w, J m w → (∀ i, i < ops.size → (m i).isSome = true) → Q .normal (frameM a0 ops m) w) :
    (Code.region id ops true).wpIn F n P Q a0 w := by
  refine wpIn_region_any hm ?_
  have key : ∀ (fuel : Nat) (listed : Array Bool) (m : Nat → Option Value) (w : World), J m w → listed.size = ops.size → (∀ i, i < ops.size → listed.getD i true = (m i).isSome) →
      ((List.range ops.size).filter fun i => (m i).isNone).length ≤ fuel → wpAnyIn F n P .any ops Q fuel listed (frameM a0 ops m) w := by
    intro fuel
    induction fuel with
    | zero =>
      intro listed m w hJ hsz hl hc
      have hall : ∀ i, i < ops.size → (m i).isSome = true := by
        intro i hi
        have he : (List.range ops.size).filter (fun i => (m i).isNone) = [] := List.eq_nil_of_length_eq_zero (by omega)
        have := List.filter_eq_nil_iff.1 he i (List.mem_range.2 hi)
        cases hmi : m i with
        | none => rw [hmi] at this; exact absurd rfl this
        | some _ => rfl
      refine ⟨?_, hend m w hJ hall⟩
      apply List.eq_nil_iff_forall_not_mem.2
      intro j hj
      obtain ⟨hu, o, ho, _⟩ := mem_ready.1 hj
      have hjs : j < ops.size := (Array.getElem?_eq_some_iff.1 ho).1
      rw [hl j hjs, hall j hjs] at hu
      cases hu
    | succ fuel ih =>
      intro listed m w hJ hsz hl hc
      refine ⟨fun hr => hend m w hJ ?_, fun i hi => ?_⟩
      · intro i
        induction i using Nat.strongRecOn with
        | ind i ihi =>
          intro hi
          cases hmi : m i with
          | some _ => rfl
          | none =>
            exfalso
            have ho : ops[i]? = some ops[i] := Array.getElem?_eq_getElem hi
            have : i ∈ Region.ready .any ops listed := by
              refine mem_ready.2 ⟨by rw [hl i hi, hmi]; rfl, ops[i], ho, fun e he hb => ?_⟩
              have hlt := (regionOk_spec hok ho).2 e he hb
              have h2 := ihi e.on hlt (by omega)
              have h3 := hl e.on (by omega)
              rw [h2] at h3
              have h4 : e.on < listed.size := by omega
              simp [Array.getD, h4] at h3 ⊢
              exact h3
            rw [hr] at this
            cases this
      · obtain ⟨hu, o, ho, hdeps⟩ := mem_ready.1 hi
        have his : i < ops.size := (Array.getElem?_eq_some_iff.1 ho).1
        have hmi : m i = none := by
          rw [hl i his] at hu
          cases hmi : m i with
          | none => rfl
          | some _ => rw [hmi] at hu; cases hu
        have hs := hstep i o ho m w hJ hmi (fun e he hb => by
          have h1 := hdeps e he hb
          have hlt := (regionOk_spec hok ho).2 e he hb
          have h2 := hl e.on (by omega)
          have h4 : e.on < listed.size := by omega
          simp [Array.getD, h4] at h1 h2
          rw [← h2]; exact h1)
        have next : ∀ v w', J (upd m i v) w' → wpAnyIn F n P .any ops Q fuel (listed.setIfInBounds i true) ((frameM a0 ops m).put o.dst v) w' := by
          intro v w' hJ'
          rw [frameM_put hok ho]
          refine ih _ _ _ hJ' (by simpa using hsz) ?_ ?_
          · intro j hj
            by_cases hji : j = i
            · subst hji
              simp [upd_self, Array.getD, hsz, hj]
            · rw [upd_ne m v hji, ← hl j hj]
              exact getD_set_ne true (fun h => hji h.symm)
          · have hlt : ((List.range ops.size).filter fun j => (upd m i v j).isNone).length < ((List.range ops.size).filter fun j => (m j).isNone).length := by
              have hsub : (List.range ops.size).filter (fun j => (upd m i v j).isNone) = ((List.range ops.size).filter fun j => (m j).isNone).filter fun j => decide (j ≠ i) := by
                rw [List.filter_filter]
                apply List.filter_congr
                intro j _
                by_cases hji : j = i
                · subst hji; simp [upd_self]
                · simp [upd_ne m v hji, hji]
              rw [hsub]
              exact List.length_filter_lt_length_iff_exists.2 ⟨i, List.mem_filter.2 ⟨List.mem_range.2 his, by rw [hmi]; rfl⟩, by simp⟩
            omega
        have hs' := hs (frameM a0 ops m) (endK (wpAnyIn F n P .any ops Q fuel (listed.setIfInBounds i true)) Q) rfl (fun v w' h => next v w' h)
        unfold wpOpIn
        rw [ho]
        show if Region.wanted o (yielded ops (frameM a0 ops m).tmps) = true then _ else _
        unfold wpListIn at hs'
        by_cases hw : Region.wanted o (yielded ops (frameM a0 ops m).tmps) = true
        · rw [if_pos hw] at hs' ⊢
          exact wpIn_endK (Oper.wpIn_mono (fun a w h => h) hs')
        · rw [if_neg hw] at hs' ⊢
          exact ⟨hs'.1, hs'.2⟩
  have h := key ops.size (Array.replicate ops.size false) (fun _ => none) w.drew h0 (by simp) (fun i hi => by simp [Array.getD, hi]) (Nat.le_trans (List.length_filter_le _ _) (by simp))
  rw [frameM_none] at h
  exact h
/-- the same; each step is told besides that whatever has come up had all that it waits for -/
theorem wpIn_region_inv2 {id : Nat} {a0 : Act} {w : World} {Q : Exit → Act → World → Prop} (hm : P.follows .mixedOrders = true) (hok : regionOk ops a0.tmps.size = true) (J : (Nat → Option Value) → World → Prop)
    (h0 : J (fun _ => none) w.drew)
    (hstep : ∀ i o, ops[i]? = some o → ∀ m w, J m w → m i = none → (∀ j o', ops[j]? = some o' → (m j).isSome = true → ∀ e ∈ o'.after, Region.binds .any e = true → (m e.on).isSome = true) → (∀ e ∈ o.after, Region.binds .any e = true → (m e.on).isSome = true) → 
      ∀ (A : Act) (QK : Exit → Act → World → Prop), A = frameM a0 ops m → (∀ v w', J (upd m i v) w' → QK .normal (A.put o.dst v) w') → wpListIn F n P ops QK [o] A w)
    (hend : ∀ m w, J m w → (∀ i, i < ops.size → (m i).isSome = true) → Q .normal (frameM a0 ops m) w) :
    (Code.region id ops true).wpIn F n P Q a0 w := by
  refine wpIn_region_inv hm hok (fun m W => J m W ∧ (∀ j o', ops[j]? = some o' → (m j).isSome = true → ∀ e ∈ o'.after, Region.binds .any e = true → (m e.on).isSome = true)) ⟨h0, fun _ _ _ h => by cases h⟩ ?_ (fun m W hJ hall => hend m W hJ.1 hall)
  intro i o ho m W hJ hmi hdeps A QK hA hK
  refine hstep i o ho m W hJ.1 hmi hJ.2 hdeps A QK hA (fun v W' hJ' => hK v W' ⟨hJ', fun j o' ho' hj e he hbi => ?_⟩)
  by_cases hei : e.on = i
  · rw [hei, upd_self]; rfl
  · rw [upd_ne m v hei]
    by_cases hji : j = i
    · subst hji
      rw [ho] at ho'
      cases ho'
      exact hdeps e he hbi
    · rw [upd_ne m v hji] at hj
      exact hJ.2 j o' ho' hj e he hbi
end
/-! ### A region that ends: 'append' of one built element behind a loaded slice, and the store of it (a6 builds, a7 appends, a8 stores) -/
structure TailJ (W WA : World) (p : Addr) (val : Nat → Option Value) (S : Value → World → Prop) (a6 a7 a8 : Nat) (m : Nat → Option Value) (X : World) : Prop where
  det : Det val m
  pre : m a6 = none → X = W
  mid : (m a6).isSome = true → m a7 = none → X = WA
  app : ∀ v, m a7 = some v → m a8 = none → S v X
  fin : ∀ v u, m a7 = some v → m a8 = some u → ∃ Y, S v Y ∧ X = Y.setCell p v
section
variable {W WA X : World} {p : Addr} {val : Nat → Option Value} {S : Value → World → Prop} {a6 a7 a8 : Nat} {m : Nat → Option Value}
theorem TailJ.start : TailJ W WA p val S a6 a7 a8 (fun _ => none) W := ⟨Det.start _, fun _ => rfl, fun h => (by cases h), fun _ h => (by cases h), fun _ _ h => (by cases h)⟩
theorem TailJ.pure (h : TailJ W WA p val S a6 a7 a8 m X) {i : Nat} {v : Value} (h6 : a6 ≠ i) (h7 : a7 ≠ i) (h8 : a8 ≠ i) (hv : ∀ x, val i = some x → v = x) : TailJ W WA p val S a6 a7 a8 (upd m i v) X :=
  ⟨h.det.up hv, by rw [upd_ne m v h6]; exact h.pre, by rw [upd_ne m v h6, upd_ne m v h7]; exact h.mid, by rw [upd_ne m v h7, upd_ne m v h8]; exact h.app, by rw [upd_ne m v h7, upd_ne m v h8]; exact h.fin⟩
theorem TailJ.world (h : TailJ W WA p val S a6 a7 a8 m X) (h7 : m a7 = none) : X = W ∨ X = WA := by
  cases h6 : m a6 with
  | none => exact .inl (h.pre h6)
  | some v => exact .inr (h.mid (by rw [h6]; rfl) h7)
theorem TailJ.six (h : TailJ W WA p val S a6 a7 a8 m X) {v : Value} (h67 : a7 ≠ a6) (h7 : m a7 = none) (hv : ∀ x, val a6 = some x → v = x) : TailJ W WA p val S a6 a7 a8 (upd m a6 v) WA :=
  ⟨h.det.up hv, by rw [upd_self]; intro h; (cases h), fun _ _ => rfl, by rw [upd_ne m v h67, h7]; intro _ h; (cases h), by rw [upd_ne m v h67, h7]; intro _ _ h; (cases h)⟩
theorem TailJ.seven (h : TailJ W WA p val S a6 a7 a8 m X) {v : Value} {Y : World} (h67 : a6 ≠ a7) (h78 : a8 ≠ a7) (h6 : (m a6).isSome = true) (h8 : m a8 = none) (hv : val a7 = none) (hS : S v Y) : TailJ W WA p val S a6 a7 a8 (upd m a7 v) Y :=
  ⟨h.det.up (fun x hx => by rw [hv] at hx; cases hx), by rw [upd_ne m v h67]; intro h; (rw [h] at h6; cases h6), by rw [upd_self]; intro _ h; (cases h), by rw [upd_self]; intro u h _; (cases h; exact hS), by rw [upd_self, upd_ne m v h78, h8]; intro _ _ _ h; (cases h)⟩
theorem TailJ.eight (h : TailJ W WA p val S a6 a7 a8 m X) {v u : Value} (h68 : a6 ≠ a8) (h78 : a7 ≠ a8) (h6 : (m a6).isSome = true) (h7 : m a7 = some v) (h8 : m a8 = none) (hv : val a8 = none) : TailJ W WA p val S a6 a7 a8 (upd m a8 u) (X.setCell p v) :=
  ⟨h.det.up (fun x hx => by rw [hv] at hx; cases hx), by rw [upd_ne m u h68]; intro h; (rw [h] at h6; cases h6), by rw [upd_ne m u h78, h7]; intro _ h; (cases h), by rw [upd_self]; intro _ _ h; (cases h), by rw [upd_ne m u h78, h7]; intro v' u' e _; (cases e; exact ⟨X, h.app v h7 h8, rfl⟩)⟩
end
end Go.Proofs.Ytcbeadldieeceaa

/-
  blocks.Read, by its contract.
-/
namespace Go.Proofs.Ytcbeadldieeceaa
open Go.RowKit

attribute [local go_sem] Oper.semAt_some
theorem strE_of {P : Program} {w : World} {B n c : Nat} {A : Option Addr} {b : List UInt8} (hr : Reads w B 1 A n (bts b)) (hnb : n = b.length) {src dst e : TypeId} (hs : P.underlying src = some (.slice e)) (he : P.underlying e = some (.int .u8)) (hd : P.underlying dst = some .string) :
    (convert src dst (.slice A n c)).run P w = .ok (.string ⟨b.toArray⟩) w := by
  subst hnb
  rcases Nat.eq_zero_or_pos b.length with h | h
  · obtain rfl := List.eq_nil_of_length_eq_zero h
    rw [run_convert_bytes_string w src dst e _ _ c hs he hd]
    cases A <;> simp [Conv.bytesToString, loadCells]
    all_goals rfl
  · obtain ⟨ad, rfl, _, hc⟩ := hr.2 h
    exact run_convert_bytes_back w src dst e ad c b hs he hd (fun j hj => hc j _ (by rw [bts_get, List.getElem?_eq_getElem hj]; rfl))

theorem Try.infoB : (Try.prog.info? 87).map (fun i => (i.zero, i.size, i.bytes)) = some (some (.agg #[.int .i64 0, .string ByteArray.empty]), 2, 24) := by kernel_rfl
def chunkEL (b : List UInt8) (j : Nat) : List UInt8 := (b.drop (18 * j)).take 18
/-- one block of a chunk -/
def rdOne (p : List UInt8) : Int × List UInt8 := (numV (p.take 2), p.drop 2)
def rdL (b : List UInt8) (js : List Nat) : BL := js.map fun j => rdOne (chunkEL b j)
/-- what Read makes -/
def readL (b : List UInt8) : BL := rdL b (List.range (b.length / 18))
theorem ownE_other {W W' : World} {base : Nat} {e : TypeId} {size n : Nat} {v : Value} {xs : List Value} {row : Option Nat} (h : W.ownsRow base e size v n xs) (hg : W.grownBy W' row) (hr : ∀ r, row = some r → ∃ o : Obj, W.heap[r]? = some o ∧ o.isCells = false) : W'.ownsRow base e size v n xs := by
  refine h.kept hg ?_
  rcases h.2 with ⟨rfl, _⟩ | ⟨g, cap, cur, rfl, _, hh, _⟩
  · exact .inl rfl
  · refine .inr fun he => ?_
    obtain ⟨o, ho, hc⟩ := hr g he.symm
    rw [hh] at ho
    cases ho
    cases hc
theorem heapE_kept {W W' : World} {row : Option Nat} {k : Nat} {cs : Array Value} {T : TypeId} {fr : Nat × Nat} (h : W.heap[k]? = some (.cells cs T fr)) (hg : W.grownBy W' row) (hr : ∀ r, row = some r → ∃ o : Obj, W.heap[r]? = some o ∧ o.isCells = false) : W'.heap[k]? = some (.cells cs T fr) := by
  rw [hg.block k (Array.getElem?_eq_some_iff.1 h).1 ?_]
  · exact h
  · intro e
    obtain ⟨o, ho, hc⟩ := hr k e.symm
    rw [h] at ho
    cases ho
    cases hc
/-- between two rounds -/
def RdI (w : World) (b : List UInt8) (js : List Nat) (W : World) : Prop :=
  (∃ v, Blk W w.heap.size 22 #[v] ∧ W.ownsRow (w.heap.size + 3) 87 2 v js.length (bcells (rdL b js))) ∧ Below w.heap.size w W ∧ w.heap.size + 3 ≤ W.heap.size
def ReadPostB (w : World) (b : List UInt8) (M : Nat) (e : Ending) (w' : World) : Prop :=
  (∃ v, e = .returned (.tuple #[v, .int .i64 (okE (readL b))]) ∧ (if okL (readL b) then w'.ownsRow w.heap.size 87 2 v M (bcells (readL b)) else v = .slice none 0 0)) ∧ Below w.heap.size w w'

end Go.Proofs.Ytcbeadldieeceaa
