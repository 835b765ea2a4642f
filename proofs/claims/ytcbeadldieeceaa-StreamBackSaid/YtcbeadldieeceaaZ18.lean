/-
  order.after, order.Step: by their contracts, at a record that may be and a state that may be. (mkstord.py)
-/
import Derived.WalkSmall
import Derived.Test.YtcbeadldieeceaaZ3
import Derived.Test.YtcbeadldieeceaaZ8
import Derived.Test.YtcbeadldieeceaaZ10
namespace Go.Proofs.Ytcbeadldieeceaa
open Go.RowKit

theorem blk2' {w : World} {g : Nat} {t : TypeId} {a b : Value} (h : Blk w g t #[a, b]) : w.cell? ⟨g, 0, none⟩ = some a ∧ w.cell? ⟨g, 1, none⟩ = some b ∧ w.frozen? ⟨g, 0, none⟩ = false ∧ w.frozen? ⟨g, 1, none⟩ = false :=
  ⟨by simpa using h.cell 0, by simpa using h.cell 1, h.frozen 0, h.frozen 1⟩
/-- the state behind a record; whether it may follow -/
def afterL (s n : Int) (r : Rc) : Int × Int × Bool :=
  if r.kind = 1 then (1, 0, s == 0) else if r.kind = 2 then (1, r.ix + 1, s == 1 && decide (n ≤ r.ix)) else if r.kind = 3 then (1, r.ix + r.ct, s == 1 && decide (n ≤ r.ix)) else (2, n, s == 1)
set_option maxRecDepth 100000 in
set_option maxHeartbeats 2000000 in
theorem after1 (s : Int) (n : Int) (rn : BS) (rf rg ri rc : Int) (rd : BS) (ra rb rx ry : Int) (A1 : Option Addr) (n1 c1 : Nat) (w : World) :
    Calls Try.prog 68 #[.agg #[.int .i64 s, .int .i64 n], .agg #[.int .i64 1, .string ⟨rn.toArray⟩, .int .i64 rf, .int .i64 rg, .slice A1 n1 c1, .int .i64 ri, .int .i64 rc, .string ⟨rd.toArray⟩, .int .u64 ra, .int .u64 rb, .int .u64 rx, .int .u64 ry]] w fun e w' => e = .returned (.tuple #[.agg #[.int .i64 1, .int .i64 0], .bool (s == 0)]) ∧ Below w.heap.size w w' := by
  obtain ⟨W0, hW0⟩ : ∃ W, W = ((w.alloc (.cells #[.int .i64 s, .int .i64 n] 72)).alloc (.cells #[.int .i64 1, .string ⟨rn.toArray⟩, .int .i64 rf, .int .i64 rg, .slice A1 n1 c1, .int .i64 ri, .int .i64 rc, .string ⟨rd.toArray⟩, .int .u64 ra, .int .u64 rb, .int .u64 rx, .int .u64 ry] 47)).alloc (.cells #[.int .i64 0, .int .i64 0] 72) := ⟨_, rfl⟩
  obtain ⟨g, hg⟩ : ∃ g, g = w.heap.size := ⟨_, rfl⟩
  have kS : Blk W0 g 72 #[.int .i64 s, .int .i64 n] := by rw [hW0, hg]; exact ((Blk.new w _ _).alloc _).alloc _
  have kR : Blk W0 (g + 1) 47 #[.int .i64 1, .string ⟨rn.toArray⟩, .int .i64 rf, .int .i64 rg, .slice A1 n1 c1, .int .i64 ri, .int .i64 rc, .string ⟨rd.toArray⟩, .int .u64 ra, .int .u64 rb, .int .u64 rx, .int .u64 ry] := by
    rw [hW0, hg]
    have := Blk.new (w.alloc (.cells #[.int .i64 s, .int .i64 n] 72)) 47 #[.int .i64 1, .string ⟨rn.toArray⟩, .int .i64 rf, .int .i64 rg, .slice A1 n1 c1, .int .i64 ri, .int .i64 rc, .string ⟨rd.toArray⟩, .int .u64 ra, .int .u64 rb, .int .u64 rx, .int .u64 ry]
    simp at this
    exact this.alloc _
  have kO : Blk W0 (g + 1 + 1) 72 #[.int .i64 0, .int .i64 0] := by
    rw [hW0, hg]
    have := Blk.new ((w.alloc (.cells #[.int .i64 s, .int .i64 n] 72)).alloc (.cells #[.int .i64 1, .string ⟨rn.toArray⟩, .int .i64 rf, .int .i64 rg, .slice A1 n1 c1, .int .i64 ri, .int .i64 rc, .string ⟨rd.toArray⟩, .int .u64 ra, .int .u64 rb, .int .u64 rx, .int .u64 ry] 47)) 72 #[.int .i64 0, .int .i64 0]
    simp at this
    exact this
  have hb0 : Below w.heap.size w W0 := by rw [hW0]; exact (((Below.refl _ _).alloc (Nat.le_refl _) _).alloc (by simp) _).alloc (by simp; omega) _
  have HB := Lib.hid hb0
  have HG := Lib.hid hg
  obtain ⟨s0, s1, _, _⟩ := blk2' kS
  obtain ⟨z0, z1, q0, q1⟩ := blk2' kO
  obtain ⟨a0, a1, a2, a3, a4, a5, a6, a7, a8, a9, a10, a11⟩ := blk12 kR
  have KO := Lib.hid ((kO.set_ 0 (.int .i64 1)).set_ 1 (.int .i64 0)).drew
  have BO := Lib.hid ((hb0.setCell (p := ⟨g + 1 + 1, 0, none⟩) (by simp only; omega) (.int .i64 1)).setCell (p := ⟨g + 1 + 1, 1, none⟩) (by simp only; omega) (.int .i64 0)).drew
  clear hb0 kS kR kO
  go_enter Try.func68, Try.ntmps68
  go_upto_region 1 with (fail)
  rw [← hW0, ← hg]
  clear hW0 hg
  go_wp2_with fail
  go_region
  go_wp2_with fail
  obtain ⟨WE, hWE⟩ : ∃ W, W = ((W0.setCell ⟨g + 1 + 1, 0, none⟩ (.int .i64 1)).setCell ⟨g + 1 + 1, 1, none⟩ (.int .i64 0)).drew := ⟨_, rfl⟩
  rw [← hWE] at KO BO ⊢
  clear hWE
  have e0 : WE.cell? ⟨g + 1 + 1, 0, none⟩ = some (.int .i64 1) := KO.out.cell 0
  have e1 : WE.cell? ⟨g + 1 + 1, 1, none⟩ = some (.int .i64 0) := KO.out.cell 1
  exact bodyPost_ret (v := .tuple #[.agg #[.int .i64 1, .int .i64 0], .bool (s == 0)]) (by simp [results, Try.results68, go_sem, e0, e1]) rfl ⟨rfl, BO.out⟩
set_option maxRecDepth 100000 in
set_option maxHeartbeats 2000000 in
theorem after2a (n : Int) (rn : BS) (rf rg ri rc : Int) (rd : BS) (ra rb rx ry : Int) (A1 : Option Addr) (n1 c1 : Nat) (hi : 0 ≤ ri ∧ ri < 1024) (w : World) :
    Calls Try.prog 68 #[.agg #[.int .i64 1, .int .i64 n], .agg #[.int .i64 2, .string ⟨rn.toArray⟩, .int .i64 rf, .int .i64 rg, .slice A1 n1 c1, .int .i64 ri, .int .i64 rc, .string ⟨rd.toArray⟩, .int .u64 ra, .int .u64 rb, .int .u64 rx, .int .u64 ry]] w fun e w' => e = .returned (.tuple #[.agg #[.int .i64 1, .int .i64 (ri + 1)], .bool (decide (n ≤ ri))]) ∧ Below w.heap.size w w' := by
  obtain ⟨W0, hW0⟩ : ∃ W, W = ((w.alloc (.cells #[.int .i64 1, .int .i64 n] 72)).alloc (.cells #[.int .i64 2, .string ⟨rn.toArray⟩, .int .i64 rf, .int .i64 rg, .slice A1 n1 c1, .int .i64 ri, .int .i64 rc, .string ⟨rd.toArray⟩, .int .u64 ra, .int .u64 rb, .int .u64 rx, .int .u64 ry] 47)).alloc (.cells #[.int .i64 0, .int .i64 0] 72) := ⟨_, rfl⟩
  obtain ⟨g, hg⟩ : ∃ g, g = w.heap.size := ⟨_, rfl⟩
  have kS : Blk W0 g 72 #[.int .i64 1, .int .i64 n] := by rw [hW0, hg]; exact ((Blk.new w _ _).alloc _).alloc _
  have kR : Blk W0 (g + 1) 47 #[.int .i64 2, .string ⟨rn.toArray⟩, .int .i64 rf, .int .i64 rg, .slice A1 n1 c1, .int .i64 ri, .int .i64 rc, .string ⟨rd.toArray⟩, .int .u64 ra, .int .u64 rb, .int .u64 rx, .int .u64 ry] := by
    rw [hW0, hg]
    have := Blk.new (w.alloc (.cells #[.int .i64 1, .int .i64 n] 72)) 47 #[.int .i64 2, .string ⟨rn.toArray⟩, .int .i64 rf, .int .i64 rg, .slice A1 n1 c1, .int .i64 ri, .int .i64 rc, .string ⟨rd.toArray⟩, .int .u64 ra, .int .u64 rb, .int .u64 rx, .int .u64 ry]
    simp at this
    exact this.alloc _
  have kO : Blk W0 (g + 1 + 1) 72 #[.int .i64 0, .int .i64 0] := by
    rw [hW0, hg]
    have := Blk.new ((w.alloc (.cells #[.int .i64 1, .int .i64 n] 72)).alloc (.cells #[.int .i64 2, .string ⟨rn.toArray⟩, .int .i64 rf, .int .i64 rg, .slice A1 n1 c1, .int .i64 ri, .int .i64 rc, .string ⟨rd.toArray⟩, .int .u64 ra, .int .u64 rb, .int .u64 rx, .int .u64 ry] 47)) 72 #[.int .i64 0, .int .i64 0]
    simp at this
    exact this
  have hb0 : Below w.heap.size w W0 := by rw [hW0]; exact (((Below.refl _ _).alloc (Nat.le_refl _) _).alloc (by simp) _).alloc (by simp; omega) _
  have HB := Lib.hid hb0
  have HG := Lib.hid hg
  obtain ⟨s0, s1, _, _⟩ := blk2' kS
  obtain ⟨z0, z1, q0, q1⟩ := blk2' kO
  obtain ⟨a0, a1, a2, a3, a4, a5, a6, a7, a8, a9, a10, a11⟩ := blk12 kR
  have KO := Lib.hid ((kO.set_ 0 (.int .i64 1)).set_ 1 (.int .i64 (ri + 1))).drew
  have BO := Lib.hid ((hb0.setCell (p := ⟨g + 1 + 1, 0, none⟩) (by simp only; omega) (.int .i64 1)).setCell (p := ⟨g + 1 + 1, 1, none⟩) (by simp only; omega) (.int .i64 (ri + 1))).drew
  clear hb0 kS kR kO
  go_enter Try.func68, Try.ntmps68
  go_upto_region 1 with (fail)
  rw [← hW0, ← hg]
  clear hW0 hg
  go_wp2_with fail
  go_region
  go_wp2_with fail
  obtain ⟨WE, hWE⟩ : ∃ W, W = ((W0.setCell ⟨g + 1 + 1, 0, none⟩ (.int .i64 1)).setCell ⟨g + 1 + 1, 1, none⟩ (.int .i64 (ri + 1))).drew := ⟨_, rfl⟩
  rw [← hWE] at KO BO ⊢
  clear hWE
  have e0 : WE.cell? ⟨g + 1 + 1, 0, none⟩ = some (.int .i64 1) := KO.out.cell 0
  have e1 : WE.cell? ⟨g + 1 + 1, 1, none⟩ = some (.int .i64 (ri + 1)) := KO.out.cell 1
  exact bodyPost_ret (v := .tuple #[.agg #[.int .i64 1, .int .i64 (ri + 1)], .bool (decide (n ≤ ri))]) (by simp [results, Try.results68, go_sem, e0, e1]) rfl ⟨rfl, BO.out⟩
set_option maxRecDepth 100000 in
set_option maxHeartbeats 2000000 in
theorem after2b (s : Int) (n : Int) (rn : BS) (rf rg ri rc : Int) (rd : BS) (ra rb rx ry : Int) (A1 : Option Addr) (n1 c1 : Nat) (hi : 0 ≤ ri ∧ ri < 1024) (hs : (s == 1) = false) (w : World) :
    Calls Try.prog 68 #[.agg #[.int .i64 s, .int .i64 n], .agg #[.int .i64 2, .string ⟨rn.toArray⟩, .int .i64 rf, .int .i64 rg, .slice A1 n1 c1, .int .i64 ri, .int .i64 rc, .string ⟨rd.toArray⟩, .int .u64 ra, .int .u64 rb, .int .u64 rx, .int .u64 ry]] w fun e w' => e = .returned (.tuple #[.agg #[.int .i64 1, .int .i64 (ri + 1)], .bool false]) ∧ Below w.heap.size w w' := by
  obtain ⟨W0, hW0⟩ : ∃ W, W = ((w.alloc (.cells #[.int .i64 s, .int .i64 n] 72)).alloc (.cells #[.int .i64 2, .string ⟨rn.toArray⟩, .int .i64 rf, .int .i64 rg, .slice A1 n1 c1, .int .i64 ri, .int .i64 rc, .string ⟨rd.toArray⟩, .int .u64 ra, .int .u64 rb, .int .u64 rx, .int .u64 ry] 47)).alloc (.cells #[.int .i64 0, .int .i64 0] 72) := ⟨_, rfl⟩
  obtain ⟨g, hg⟩ : ∃ g, g = w.heap.size := ⟨_, rfl⟩
  have kS : Blk W0 g 72 #[.int .i64 s, .int .i64 n] := by rw [hW0, hg]; exact ((Blk.new w _ _).alloc _).alloc _
  have kR : Blk W0 (g + 1) 47 #[.int .i64 2, .string ⟨rn.toArray⟩, .int .i64 rf, .int .i64 rg, .slice A1 n1 c1, .int .i64 ri, .int .i64 rc, .string ⟨rd.toArray⟩, .int .u64 ra, .int .u64 rb, .int .u64 rx, .int .u64 ry] := by
    rw [hW0, hg]
    have := Blk.new (w.alloc (.cells #[.int .i64 s, .int .i64 n] 72)) 47 #[.int .i64 2, .string ⟨rn.toArray⟩, .int .i64 rf, .int .i64 rg, .slice A1 n1 c1, .int .i64 ri, .int .i64 rc, .string ⟨rd.toArray⟩, .int .u64 ra, .int .u64 rb, .int .u64 rx, .int .u64 ry]
    simp at this
    exact this.alloc _
  have kO : Blk W0 (g + 1 + 1) 72 #[.int .i64 0, .int .i64 0] := by
    rw [hW0, hg]
    have := Blk.new ((w.alloc (.cells #[.int .i64 s, .int .i64 n] 72)).alloc (.cells #[.int .i64 2, .string ⟨rn.toArray⟩, .int .i64 rf, .int .i64 rg, .slice A1 n1 c1, .int .i64 ri, .int .i64 rc, .string ⟨rd.toArray⟩, .int .u64 ra, .int .u64 rb, .int .u64 rx, .int .u64 ry] 47)) 72 #[.int .i64 0, .int .i64 0]
    simp at this
    exact this
  have hb0 : Below w.heap.size w W0 := by rw [hW0]; exact (((Below.refl _ _).alloc (Nat.le_refl _) _).alloc (by simp) _).alloc (by simp; omega) _
  have HB := Lib.hid hb0
  have HG := Lib.hid hg
  obtain ⟨s0, s1, _, _⟩ := blk2' kS
  obtain ⟨z0, z1, q0, q1⟩ := blk2' kO
  obtain ⟨a0, a1, a2, a3, a4, a5, a6, a7, a8, a9, a10, a11⟩ := blk12 kR
  have KO := Lib.hid ((kO.set_ 0 (.int .i64 1)).set_ 1 (.int .i64 (ri + 1))).drew
  have BO := Lib.hid ((hb0.setCell (p := ⟨g + 1 + 1, 0, none⟩) (by simp only; omega) (.int .i64 1)).setCell (p := ⟨g + 1 + 1, 1, none⟩) (by simp only; omega) (.int .i64 (ri + 1))).drew
  clear hb0 kS kR kO
  go_enter Try.func68, Try.ntmps68
  go_upto_region 1 with (fail)
  rw [← hW0, ← hg]
  clear hW0 hg
  go_wp2_with fail
  go_region
  go_wp2_with fail
  obtain ⟨WE, hWE⟩ : ∃ W, W = ((W0.setCell ⟨g + 1 + 1, 0, none⟩ (.int .i64 1)).setCell ⟨g + 1 + 1, 1, none⟩ (.int .i64 (ri + 1))).drew := ⟨_, rfl⟩
  rw [← hWE] at KO BO ⊢
  clear hWE
  have e0 : WE.cell? ⟨g + 1 + 1, 0, none⟩ = some (.int .i64 1) := KO.out.cell 0
  have e1 : WE.cell? ⟨g + 1 + 1, 1, none⟩ = some (.int .i64 (ri + 1)) := KO.out.cell 1
  exact bodyPost_ret (v := .tuple #[.agg #[.int .i64 1, .int .i64 (ri + 1)], .bool false]) (by simp [results, Try.results68, go_sem, e0, e1]) rfl ⟨rfl, BO.out⟩
set_option maxRecDepth 100000 in
set_option maxHeartbeats 2000000 in
theorem after3a (n : Int) (rn : BS) (rf rg ri rc : Int) (rd : BS) (ra rb rx ry : Int) (A1 : Option Addr) (n1 c1 : Nat) (hi : 0 ≤ ri ∧ ri < 1024) (hc : 0 ≤ rc ∧ rc ≤ 1024) (w : World) :
    Calls Try.prog 68 #[.agg #[.int .i64 1, .int .i64 n], .agg #[.int .i64 3, .string ⟨rn.toArray⟩, .int .i64 rf, .int .i64 rg, .slice A1 n1 c1, .int .i64 ri, .int .i64 rc, .string ⟨rd.toArray⟩, .int .u64 ra, .int .u64 rb, .int .u64 rx, .int .u64 ry]] w fun e w' => e = .returned (.tuple #[.agg #[.int .i64 1, .int .i64 (ri + rc)], .bool (decide (n ≤ ri))]) ∧ Below w.heap.size w w' := by
  obtain ⟨W0, hW0⟩ : ∃ W, W = ((w.alloc (.cells #[.int .i64 1, .int .i64 n] 72)).alloc (.cells #[.int .i64 3, .string ⟨rn.toArray⟩, .int .i64 rf, .int .i64 rg, .slice A1 n1 c1, .int .i64 ri, .int .i64 rc, .string ⟨rd.toArray⟩, .int .u64 ra, .int .u64 rb, .int .u64 rx, .int .u64 ry] 47)).alloc (.cells #[.int .i64 0, .int .i64 0] 72) := ⟨_, rfl⟩
  obtain ⟨g, hg⟩ : ∃ g, g = w.heap.size := ⟨_, rfl⟩
  have kS : Blk W0 g 72 #[.int .i64 1, .int .i64 n] := by rw [hW0, hg]; exact ((Blk.new w _ _).alloc _).alloc _
  have kR : Blk W0 (g + 1) 47 #[.int .i64 3, .string ⟨rn.toArray⟩, .int .i64 rf, .int .i64 rg, .slice A1 n1 c1, .int .i64 ri, .int .i64 rc, .string ⟨rd.toArray⟩, .int .u64 ra, .int .u64 rb, .int .u64 rx, .int .u64 ry] := by
    rw [hW0, hg]
    have := Blk.new (w.alloc (.cells #[.int .i64 1, .int .i64 n] 72)) 47 #[.int .i64 3, .string ⟨rn.toArray⟩, .int .i64 rf, .int .i64 rg, .slice A1 n1 c1, .int .i64 ri, .int .i64 rc, .string ⟨rd.toArray⟩, .int .u64 ra, .int .u64 rb, .int .u64 rx, .int .u64 ry]
    simp at this
    exact this.alloc _
  have kO : Blk W0 (g + 1 + 1) 72 #[.int .i64 0, .int .i64 0] := by
    rw [hW0, hg]
    have := Blk.new ((w.alloc (.cells #[.int .i64 1, .int .i64 n] 72)).alloc (.cells #[.int .i64 3, .string ⟨rn.toArray⟩, .int .i64 rf, .int .i64 rg, .slice A1 n1 c1, .int .i64 ri, .int .i64 rc, .string ⟨rd.toArray⟩, .int .u64 ra, .int .u64 rb, .int .u64 rx, .int .u64 ry] 47)) 72 #[.int .i64 0, .int .i64 0]
    simp at this
    exact this
  have hb0 : Below w.heap.size w W0 := by rw [hW0]; exact (((Below.refl _ _).alloc (Nat.le_refl _) _).alloc (by simp) _).alloc (by simp; omega) _
  have HB := Lib.hid hb0
  have HG := Lib.hid hg
  obtain ⟨s0, s1, _, _⟩ := blk2' kS
  obtain ⟨z0, z1, q0, q1⟩ := blk2' kO
  obtain ⟨a0, a1, a2, a3, a4, a5, a6, a7, a8, a9, a10, a11⟩ := blk12 kR
  have KO := Lib.hid ((kO.set_ 0 (.int .i64 1)).set_ 1 (.int .i64 (ri + rc))).drew
  have BO := Lib.hid ((hb0.setCell (p := ⟨g + 1 + 1, 0, none⟩) (by simp only; omega) (.int .i64 1)).setCell (p := ⟨g + 1 + 1, 1, none⟩) (by simp only; omega) (.int .i64 (ri + rc))).drew
  clear hb0 kS kR kO
  go_enter Try.func68, Try.ntmps68
  go_upto_region 1 with (fail)
  rw [← hW0, ← hg]
  clear hW0 hg
  go_wp2_with fail
  go_region
  go_wp2_with fail
  obtain ⟨WE, hWE⟩ : ∃ W, W = ((W0.setCell ⟨g + 1 + 1, 0, none⟩ (.int .i64 1)).setCell ⟨g + 1 + 1, 1, none⟩ (.int .i64 (ri + rc))).drew := ⟨_, rfl⟩
  rw [← hWE] at KO BO ⊢
  clear hWE
  have e0 : WE.cell? ⟨g + 1 + 1, 0, none⟩ = some (.int .i64 1) := KO.out.cell 0
  have e1 : WE.cell? ⟨g + 1 + 1, 1, none⟩ = some (.int .i64 (ri + rc)) := KO.out.cell 1
  exact bodyPost_ret (v := .tuple #[.agg #[.int .i64 1, .int .i64 (ri + rc)], .bool (decide (n ≤ ri))]) (by simp [results, Try.results68, go_sem, e0, e1]) rfl ⟨rfl, BO.out⟩
set_option maxRecDepth 100000 in
set_option maxHeartbeats 2000000 in
theorem after3b (s : Int) (n : Int) (rn : BS) (rf rg ri rc : Int) (rd : BS) (ra rb rx ry : Int) (A1 : Option Addr) (n1 c1 : Nat) (hi : 0 ≤ ri ∧ ri < 1024) (hc : 0 ≤ rc ∧ rc ≤ 1024) (hs : (s == 1) = false) (w : World) :
    Calls Try.prog 68 #[.agg #[.int .i64 s, .int .i64 n], .agg #[.int .i64 3, .string ⟨rn.toArray⟩, .int .i64 rf, .int .i64 rg, .slice A1 n1 c1, .int .i64 ri, .int .i64 rc, .string ⟨rd.toArray⟩, .int .u64 ra, .int .u64 rb, .int .u64 rx, .int .u64 ry]] w fun e w' => e = .returned (.tuple #[.agg #[.int .i64 1, .int .i64 (ri + rc)], .bool false]) ∧ Below w.heap.size w w' := by
  obtain ⟨W0, hW0⟩ : ∃ W, W = ((w.alloc (.cells #[.int .i64 s, .int .i64 n] 72)).alloc (.cells #[.int .i64 3, .string ⟨rn.toArray⟩, .int .i64 rf, .int .i64 rg, .slice A1 n1 c1, .int .i64 ri, .int .i64 rc, .string ⟨rd.toArray⟩, .int .u64 ra, .int .u64 rb, .int .u64 rx, .int .u64 ry] 47)).alloc (.cells #[.int .i64 0, .int .i64 0] 72) := ⟨_, rfl⟩
  obtain ⟨g, hg⟩ : ∃ g, g = w.heap.size := ⟨_, rfl⟩
  have kS : Blk W0 g 72 #[.int .i64 s, .int .i64 n] := by rw [hW0, hg]; exact ((Blk.new w _ _).alloc _).alloc _
  have kR : Blk W0 (g + 1) 47 #[.int .i64 3, .string ⟨rn.toArray⟩, .int .i64 rf, .int .i64 rg, .slice A1 n1 c1, .int .i64 ri, .int .i64 rc, .string ⟨rd.toArray⟩, .int .u64 ra, .int .u64 rb, .int .u64 rx, .int .u64 ry] := by
    rw [hW0, hg]
    have := Blk.new (w.alloc (.cells #[.int .i64 s, .int .i64 n] 72)) 47 #[.int .i64 3, .string ⟨rn.toArray⟩, .int .i64 rf, .int .i64 rg, .slice A1 n1 c1, .int .i64 ri, .int .i64 rc, .string ⟨rd.toArray⟩, .int .u64 ra, .int .u64 rb, .int .u64 rx, .int .u64 ry]
    simp at this
    exact this.alloc _
  have kO : Blk W0 (g + 1 + 1) 72 #[.int .i64 0, .int .i64 0] := by
    rw [hW0, hg]
    have := Blk.new ((w.alloc (.cells #[.int .i64 s, .int .i64 n] 72)).alloc (.cells #[.int .i64 3, .string ⟨rn.toArray⟩, .int .i64 rf, .int .i64 rg, .slice A1 n1 c1, .int .i64 ri, .int .i64 rc, .string ⟨rd.toArray⟩, .int .u64 ra, .int .u64 rb, .int .u64 rx, .int .u64 ry] 47)) 72 #[.int .i64 0, .int .i64 0]
    simp at this
    exact this
  have hb0 : Below w.heap.size w W0 := by rw [hW0]; exact (((Below.refl _ _).alloc (Nat.le_refl _) _).alloc (by simp) _).alloc (by simp; omega) _
  have HB := Lib.hid hb0
  have HG := Lib.hid hg
  obtain ⟨s0, s1, _, _⟩ := blk2' kS
  obtain ⟨z0, z1, q0, q1⟩ := blk2' kO
  obtain ⟨a0, a1, a2, a3, a4, a5, a6, a7, a8, a9, a10, a11⟩ := blk12 kR
  have KO := Lib.hid ((kO.set_ 0 (.int .i64 1)).set_ 1 (.int .i64 (ri + rc))).drew
  have BO := Lib.hid ((hb0.setCell (p := ⟨g + 1 + 1, 0, none⟩) (by simp only; omega) (.int .i64 1)).setCell (p := ⟨g + 1 + 1, 1, none⟩) (by simp only; omega) (.int .i64 (ri + rc))).drew
  clear hb0 kS kR kO
  go_enter Try.func68, Try.ntmps68
  go_upto_region 1 with (fail)
  rw [← hW0, ← hg]
  clear hW0 hg
  go_wp2_with fail
  go_region
  go_wp2_with fail
  obtain ⟨WE, hWE⟩ : ∃ W, W = ((W0.setCell ⟨g + 1 + 1, 0, none⟩ (.int .i64 1)).setCell ⟨g + 1 + 1, 1, none⟩ (.int .i64 (ri + rc))).drew := ⟨_, rfl⟩
  rw [← hWE] at KO BO ⊢
  clear hWE
  have e0 : WE.cell? ⟨g + 1 + 1, 0, none⟩ = some (.int .i64 1) := KO.out.cell 0
  have e1 : WE.cell? ⟨g + 1 + 1, 1, none⟩ = some (.int .i64 (ri + rc)) := KO.out.cell 1
  exact bodyPost_ret (v := .tuple #[.agg #[.int .i64 1, .int .i64 (ri + rc)], .bool false]) (by simp [results, Try.results68, go_sem, e0, e1]) rfl ⟨rfl, BO.out⟩
set_option maxRecDepth 100000 in
set_option maxHeartbeats 2000000 in
theorem after4 (s : Int) (n : Int) (rn : BS) (rf rg ri rc : Int) (rd : BS) (ra rb rx ry : Int) (A1 : Option Addr) (n1 c1 : Nat) (w : World) :
    Calls Try.prog 68 #[.agg #[.int .i64 s, .int .i64 n], .agg #[.int .i64 4, .string ⟨rn.toArray⟩, .int .i64 rf, .int .i64 rg, .slice A1 n1 c1, .int .i64 ri, .int .i64 rc, .string ⟨rd.toArray⟩, .int .u64 ra, .int .u64 rb, .int .u64 rx, .int .u64 ry]] w fun e w' => e = .returned (.tuple #[.agg #[.int .i64 2, .int .i64 n], .bool (s == 1)]) ∧ Below w.heap.size w w' := by
  obtain ⟨W0, hW0⟩ : ∃ W, W = ((w.alloc (.cells #[.int .i64 s, .int .i64 n] 72)).alloc (.cells #[.int .i64 4, .string ⟨rn.toArray⟩, .int .i64 rf, .int .i64 rg, .slice A1 n1 c1, .int .i64 ri, .int .i64 rc, .string ⟨rd.toArray⟩, .int .u64 ra, .int .u64 rb, .int .u64 rx, .int .u64 ry] 47)).alloc (.cells #[.int .i64 0, .int .i64 0] 72) := ⟨_, rfl⟩
  obtain ⟨g, hg⟩ : ∃ g, g = w.heap.size := ⟨_, rfl⟩
  have kS : Blk W0 g 72 #[.int .i64 s, .int .i64 n] := by rw [hW0, hg]; exact ((Blk.new w _ _).alloc _).alloc _
  have kR : Blk W0 (g + 1) 47 #[.int .i64 4, .string ⟨rn.toArray⟩, .int .i64 rf, .int .i64 rg, .slice A1 n1 c1, .int .i64 ri, .int .i64 rc, .string ⟨rd.toArray⟩, .int .u64 ra, .int .u64 rb, .int .u64 rx, .int .u64 ry] := by
    rw [hW0, hg]
    have := Blk.new (w.alloc (.cells #[.int .i64 s, .int .i64 n] 72)) 47 #[.int .i64 4, .string ⟨rn.toArray⟩, .int .i64 rf, .int .i64 rg, .slice A1 n1 c1, .int .i64 ri, .int .i64 rc, .string ⟨rd.toArray⟩, .int .u64 ra, .int .u64 rb, .int .u64 rx, .int .u64 ry]
    simp at this
    exact this.alloc _
  have kO : Blk W0 (g + 1 + 1) 72 #[.int .i64 0, .int .i64 0] := by
    rw [hW0, hg]
    have := Blk.new ((w.alloc (.cells #[.int .i64 s, .int .i64 n] 72)).alloc (.cells #[.int .i64 4, .string ⟨rn.toArray⟩, .int .i64 rf, .int .i64 rg, .slice A1 n1 c1, .int .i64 ri, .int .i64 rc, .string ⟨rd.toArray⟩, .int .u64 ra, .int .u64 rb, .int .u64 rx, .int .u64 ry] 47)) 72 #[.int .i64 0, .int .i64 0]
    simp at this
    exact this
  have hb0 : Below w.heap.size w W0 := by rw [hW0]; exact (((Below.refl _ _).alloc (Nat.le_refl _) _).alloc (by simp) _).alloc (by simp; omega) _
  have HB := Lib.hid hb0
  have HG := Lib.hid hg
  obtain ⟨s0, s1, _, _⟩ := blk2' kS
  obtain ⟨z0, z1, q0, q1⟩ := blk2' kO
  obtain ⟨a0, a1, a2, a3, a4, a5, a6, a7, a8, a9, a10, a11⟩ := blk12 kR
  have KO := Lib.hid ((kO.set_ 0 (.int .i64 2)).set_ 1 (.int .i64 n)).drew
  have BO := Lib.hid ((hb0.setCell (p := ⟨g + 1 + 1, 0, none⟩) (by simp only; omega) (.int .i64 2)).setCell (p := ⟨g + 1 + 1, 1, none⟩) (by simp only; omega) (.int .i64 n)).drew
  clear hb0 kS kR kO
  go_enter Try.func68, Try.ntmps68
  go_upto_region 1 with (fail)
  rw [← hW0, ← hg]
  clear hW0 hg
  go_wp2_with fail
  go_region
  go_wp2_with fail
  obtain ⟨WE, hWE⟩ : ∃ W, W = ((W0.setCell ⟨g + 1 + 1, 0, none⟩ (.int .i64 2)).setCell ⟨g + 1 + 1, 1, none⟩ (.int .i64 n)).drew := ⟨_, rfl⟩
  rw [← hWE] at KO BO ⊢
  clear hWE
  have e0 : WE.cell? ⟨g + 1 + 1, 0, none⟩ = some (.int .i64 2) := KO.out.cell 0
  have e1 : WE.cell? ⟨g + 1 + 1, 1, none⟩ = some (.int .i64 n) := KO.out.cell 1
  exact bodyPost_ret (v := .tuple #[.agg #[.int .i64 2, .int .i64 n], .bool (s == 1)]) (by simp [results, Try.results68, go_sem, e0, e1]) rfl ⟨rfl, BO.out⟩
theorem after_any (s n : Int) (r : Rc) (hE : recE r = 0) (A1 : Option Addr) (n1 c1 : Nat) (w : World) :
    Calls Try.prog 68 #[.agg #[.int .i64 s, .int .i64 n], rcV r (.slice A1 n1 c1)] w fun e w' => e = .returned (.tuple #[.agg #[.int .i64 (afterL s n r).1, .int .i64 (afterL s n r).2.1], .bool (afterL s n r).2.2]) ∧ Below w.heap.size w w' := by
  obtain ⟨hk, hm⟩ := recE_kind r hE
  obtain ⟨rk, rn, rf, rg, ro, ri, rc, rd, ⟨ra, rb, rx, ry⟩⟩ := r
  simp only at hk
  rcases hk with rfl | rfl | rfl | rfl
  · exact after1 s n rn rf rg ri rc rd ra rb rx ry A1 n1 c1 w
  · have hi := (mayB_2 _ rfl hm).1
    by_cases hs : s = 1
    · subst hs
      exact after2a n rn rf rg ri rc rd ra rb rx ry A1 n1 c1 hi w
    · have hs2 : (s == 1) = false := by simpa using hs
      have := after2b s n rn rf rg ri rc rd ra rb rx ry A1 n1 c1 hi hs2 w
      unfold afterL
      simp only [hs2]
      exact this
  · obtain ⟨hi, hc, _⟩ := mayB_3 _ rfl hm
    simp only at hi hc
    have hc2 : 0 ≤ rc ∧ rc ≤ 1024 := by omega
    by_cases hs : s = 1
    · subst hs
      exact after3a n rn rf rg ri rc rd ra rb rx ry A1 n1 c1 hi hc2 w
    · have hs2 : (s == 1) = false := by simpa using hs
      have := after3b s n rn rf rg ri rc rd ra rb rx ry A1 n1 c1 hi hc2 hs2 w
      unfold afterL
      simp only [hs2]
      exact this
  · exact after4 s n rn rf rg ri rc rd ra rb rx ry A1 n1 c1 w
end Go.Proofs.Ytcbeadldieeceaa

/-
  order.Step, by its contract, at a record that may be and a state that may be.
-/
namespace Go.Proofs.Ytcbeadldieeceaa
open Go.RowKit

def stepV (s n : Int) (r : Rc) : Value := if (afterL s n r).2.2 = true then .tuple #[.agg #[.int .i64 (afterL s n r).1, .int .i64 (afterL s n r).2.1], .int .i64 0] else .tuple #[.agg #[.int .i64 0, .int .i64 0], .int .i64 35]
set_option maxRecDepth 100000 in
set_option maxHeartbeats 4000000 in
theorem step_any (s n : Int) (hs1 : 0 ≤ s) (hs2 : s ≤ 2) (hn1 : 0 ≤ n) (hn2 : n ≤ 1024) (r : Rc) (hE : recE r = 0) (n1 : Nat) (hn : n1 = r.own.length) (A1 : Option Addr) (c1 : Nat) (w : World) (B1 : Nat) (hB1 : B1 ≤ w.heap.size) (hr1 : Reads w B1 2 A1 n1 (pcells r.own)) (hn5 : n1 ≤ 5000000000000) (hv : ∀ x ∈ r.own, x.2.length ≤ 140737488351232) :
    Calls Try.prog 50 #[.agg #[.int .i64 s, .int .i64 n], rcV r (.slice A1 n1 c1)] w fun e w' => e = .returned (stepV s n r) ∧ Below w.heap.size w w' := by
  have hck := fun W (hb : Below w.heap.size w W) => rcheck_any r n1 hn A1 c1 W B1 (Nat.le_trans hB1 hb.size) (hr1.below (hb.mono hB1)) hn5 hv
  have haf := fun W => after_any s n r hE A1 n1 c1 W
  obtain ⟨⟨a, b, ok⟩, hA⟩ : ∃ x : Int × Int × Bool, x = afterL s n r := ⟨_, rfl⟩
  unfold stepV
  simp only [← hA, hE] at haf hck ⊢
  clear hA hr1 hv hn hB1 hn5 hE
  obtain ⟨rk, rn, rf, rg, ro, ri, rc, rd, ⟨ra, rb, rx, ry⟩⟩ := r
  obtain ⟨W0, hW0⟩ : ∃ W, W = ((w.alloc (.cells #[.int .i64 s, .int .i64 n] 72)).alloc (.cells #[.int .i64 rk, .string ⟨rn.toArray⟩, .int .i64 rf, .int .i64 rg, .slice A1 n1 c1, .int .i64 ri, .int .i64 rc, .string ⟨rd.toArray⟩, .int .u64 ra, .int .u64 rb, .int .u64 rx, .int .u64 ry] 47)).alloc (.cells #[.int .i64 0, .int .i64 0] 72) := ⟨_, rfl⟩
  obtain ⟨g, hg⟩ : ∃ g, g = w.heap.size := ⟨_, rfl⟩
  have kS : Blk W0 g 72 #[.int .i64 s, .int .i64 n] := by rw [hW0, hg]; exact ((Blk.new w _ _).alloc _).alloc _
  have kR : Blk W0 (g + 1) 47 #[.int .i64 rk, .string ⟨rn.toArray⟩, .int .i64 rf, .int .i64 rg, .slice A1 n1 c1, .int .i64 ri, .int .i64 rc, .string ⟨rd.toArray⟩, .int .u64 ra, .int .u64 rb, .int .u64 rx, .int .u64 ry] := by
    rw [hW0, hg]
    have := Blk.new (w.alloc (.cells #[.int .i64 s, .int .i64 n] 72)) 47 #[.int .i64 rk, .string ⟨rn.toArray⟩, .int .i64 rf, .int .i64 rg, .slice A1 n1 c1, .int .i64 ri, .int .i64 rc, .string ⟨rd.toArray⟩, .int .u64 ra, .int .u64 rb, .int .u64 rx, .int .u64 ry]
    simp at this
    exact this.alloc _
  have kO : Blk W0 (g + 1 + 1) 72 #[.int .i64 0, .int .i64 0] := by
    rw [hW0, hg]
    have := Blk.new ((w.alloc (.cells #[.int .i64 s, .int .i64 n] 72)).alloc (.cells #[.int .i64 rk, .string ⟨rn.toArray⟩, .int .i64 rf, .int .i64 rg, .slice A1 n1 c1, .int .i64 ri, .int .i64 rc, .string ⟨rd.toArray⟩, .int .u64 ra, .int .u64 rb, .int .u64 rx, .int .u64 ry] 47)) 72 #[.int .i64 0, .int .i64 0]
    simp at this
    exact this
  have hb0 : Below w.heap.size w W0 := by rw [hW0]; exact (((Below.refl _ _).alloc (Nat.le_refl _) _).alloc (by simp) _).alloc (by simp; omega) _
  have HB := Lib.hid hb0
  have HG := Lib.hid hg
  have HC := Lib.hid (hck W0 hb0)
  have HA := Lib.hid haf
  have HS := Lib.hid kS
  have HR := Lib.hid kR
  have HO := Lib.hid kO
  obtain ⟨s0, s1, _, _⟩ := blk2' kS
  obtain ⟨a0, a1, a2, a3, a4, a5, a6, a7, a8, a9, a10, a11⟩ := blk12 kR
  clear hb0 kS kR kO hck haf
  show Calls Try.prog 50 #[.agg #[.int .i64 s, .int .i64 n], .agg #[.int .i64 rk, .string ⟨rn.toArray⟩, .int .i64 rf, .int .i64 rg, .slice A1 n1 c1, .int .i64 ri, .int .i64 rc, .string ⟨rd.toArray⟩, .int .u64 ra, .int .u64 rb, .int .u64 rx, .int .u64 ry]] w _
  go_enter Try.func50, Try.ntmps50
  go_upto_region 1 with (fail)
  rw [← hW0, ← hg]
  clear hW0 hg
  go_wp2_with fail
  refine HC.out.mono ?_
  clear HC
  rintro e w1 ⟨rfl, hb1⟩
  have HS1 := Lib.hid (HS.out.below hb1 HS.out.lt)
  have HR1 := Lib.hid (HR.out.below hb1 HR.out.lt)
  have HO1 := Lib.hid (HO.out.below hb1 HO.out.lt)
  have HB1 := Lib.hid (HB.out.trans (hb1.mono HB.out.size))
  clear hb1 HS HR HO HB s0 s1 a0 a1 a2 a3 a4 a5 a6 a7 a8 a9 a10 a11
  obtain ⟨s0, s1, _, _⟩ := blk2' HS1.out
  obtain ⟨a0, a1, a2, a3, a4, a5, a6, a7, a8, a9, a10, a11⟩ := blk12 HR1.out
  go_wp2_with fail
  refine (HA.out w1).mono ?_
  clear HA
  rintro e w2 ⟨rfl, hb2⟩
  have HO2 := Lib.hid (HO1.out.below hb2 HO1.out.lt)
  have HB2 := Lib.hid (HB1.out.trans (hb2.mono HB1.out.size))
  clear hb2 HS1 HR1 HO1 HB1 s0 s1 a0 a1 a2 a3 a4 a5 a6 a7 a8 a9 a10 a11
  obtain ⟨q, hq⟩ : ∃ q, q = w2.heap.size := ⟨_, rfl⟩
  obtain ⟨W3, hW3⟩ : ∃ W, W = w2.alloc (.cells #[.int .i64 a, .int .i64 b] 72) := ⟨_, rfl⟩
  have HO3 := Lib.hid (show Blk W3 (g + 1 + 1) _ _ by rw [hW3]; exact HO2.out.alloc _)
  have HB3 := Lib.hid (show Below w.heap.size w W3 by rw [hW3]; exact HB2.out.alloc HB2.out.size _)
  have HN3 := Lib.hid (show Blk W3 q 72 #[.int .i64 a, .int .i64 b] by rw [hW3, hq]; exact Blk.new _ _ _)
  obtain ⟨z0, z1, q0, q1⟩ := blk2' HO3.out
  obtain ⟨m0, m1, _, _⟩ := blk2' HN3.out
  have hgg : w.heap.size ≤ g + 1 + 1 := by have := HG.out; omega
  cases ok with
  | true =>
    have KO := Lib.hid ((HO3.out.set_ 0 (.int .i64 a)).set_ 1 (.int .i64 b))
    have BO := Lib.hid ((HB3.out.setCell (p := ⟨g + 1 + 1, 0, none⟩) hgg (.int .i64 a)).setCell (p := ⟨g + 1 + 1, 1, none⟩) hgg (.int .i64 b))
    clear HO3 HB3 HN3 HO2 HB2
    go_upto_region 7 with (fail)
    rw [← hW3, ← hq]
    clear hW3 hq
    go_wp2_with fail
    obtain ⟨WE, hWE⟩ : ∃ W, W = ((W3.setCell ⟨g + 1 + 1, 0, none⟩ (.int .i64 a)).setCell ⟨g + 1 + 1, 1, none⟩ (.int .i64 b)) := ⟨_, rfl⟩
    rw [← hWE] at KO BO ⊢
    clear hWE
    have e0 : WE.cell? ⟨g + 1 + 1, 0, none⟩ = some (.int .i64 a) := KO.out.cell 0
    have e1 : WE.cell? ⟨g + 1 + 1, 1, none⟩ = some (.int .i64 b) := KO.out.cell 1
    exact bodyPost_ret (v := .tuple #[.agg #[.int .i64 a, .int .i64 b], .int .i64 0]) (by simp [results, Try.results50, go_sem, e0, e1]) rfl ⟨rfl, BO.out⟩
  | false =>
    have KO := Lib.hid ((HO3.out.set_ 0 (.int .i64 0)).set_ 1 (.int .i64 0))
    have BO := Lib.hid ((HB3.out.setCell (p := ⟨g + 1 + 1, 0, none⟩) hgg (.int .i64 0)).setCell (p := ⟨g + 1 + 1, 1, none⟩) hgg (.int .i64 0))
    clear HO3 HB3 HN3 HO2 HB2
    go_upto_region 7 with (fail)
    rw [← hW3, ← hq]
    clear hW3 hq
    go_wp2_with fail
    obtain ⟨WE, hWE⟩ : ∃ W, W = ((W3.setCell ⟨g + 1 + 1, 0, none⟩ (.int .i64 0)).setCell ⟨g + 1 + 1, 1, none⟩ (.int .i64 0)) := ⟨_, rfl⟩
    rw [← hWE] at KO BO ⊢
    clear hWE
    have e0 : WE.cell? ⟨g + 1 + 1, 0, none⟩ = some (.int .i64 0) := KO.out.cell 0
    have e1 : WE.cell? ⟨g + 1 + 1, 1, none⟩ = some (.int .i64 0) := KO.out.cell 1
    exact bodyPost_ret (v := .tuple #[.agg #[.int .i64 0, .int .i64 0], .int .i64 35]) (by simp [results, Try.results50, go_sem, e0, e1]) rfl ⟨rfl, BO.out⟩
end Go.Proofs.Ytcbeadldieeceaa

/-
  Drawn regions with guards: when an operation is wanted.
-/
namespace Go.Proofs.Ytcbeadldieeceaa
open Go.RowKit

theorem wanted_of {ops : Array Oper} {o : Oper} {A : Act} {g k : Nat} {b : Bool} (hg : o.guard = some (g, b)) (hd : (ops[g]?).bind (·.dst) = some k) (h : A.tmps[k]?.getD undef = .bool b) : Region.wanted o (yielded ops A.tmps) = true := by
  have h1 : A.tmps[k]? = some (.bool b) := by
    cases hk : A.tmps[k]? with
    | none => rw [hk] at h; cases h
    | some x => rw [hk] at h; exact congrArg some h
  simp [Region.wanted, hg, yielded, hd, h1]
theorem unwanted_of {ops : Array Oper} {o : Oper} {A : Act} {g k : Nat} {b : Bool} (hg : o.guard = some (g, b)) (hd : (ops[g]?).bind (·.dst) = some k) (h : A.tmps[k]?.getD undef = .bool (!b) ∨ A.tmps[k]?.getD undef = undef) : ¬ Region.wanted o (yielded ops A.tmps) = true := by
  have hy : ∀ v, A.tmps[k]?.getD undef = v → yielded ops A.tmps g = match v with | .bool b => some b | _ => none := by
    rintro v rfl
    unfold yielded
    rw [hd]
    simp only [Option.bind_some]
    cases A.tmps[k]? with
    | none => rfl
    | some v => cases v <;> rfl
  rcases h with h | h
  · simp [Region.wanted, hg, hy _ h]
  · have := hy _ h
    simp [Region.wanted, hg, this, undef]
end Go.Proofs.Ytcbeadldieeceaa
