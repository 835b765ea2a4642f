/-
  record.Same, the reference's SameRecord: by their contracts.
-/
import Derived.Test.YtjdebhemoeojiaaDoorRcLaw
import Derived.Test.YtjdebhemoeojiaaDoorYPr
namespace Go.Proofs.YtjdebhemoeojiaaDoor
open Go.RowKit

def rcCells (r : Rc) (o : Value) : Array Value := #[.int .i64 r.kind, .string ⟨r.nm.toArray⟩, .int .i64 r.frm, .int .i64 r.gd, o, .int .i64 r.ix, .int .i64 r.ct, .string ⟨r.dt.toArray⟩, .int .u64 r.sm.a, .int .u64 r.sm.b, .int .u64 r.sm.c, .int .u64 r.sm.d]
def rcV (r : Rc) (o : Value) : Value := .agg (rcCells r o)
def smB (s t : Sm) : Bool := s.a == t.a && s.b == t.b && s.c == t.c && s.d == t.d
theorem smB_iff (s t : Sm) : smB s t = true ↔ s = t := by
  obtain ⟨a, b, c, d⟩ := s
  obtain ⟨a', b', c', d'⟩ := t
  simp [smB, and_assoc]
def sameR (r s : Rc) : Bool := r.kind == s.kind && r.nm == s.nm && r.frm == s.frm && r.gd == s.gd && r.ix == s.ix && r.ct == s.ct && r.dt == s.dt && smB r.sm s.sm && decide (r.own = s.own)
theorem sameR_iff (r s : Rc) : sameR r s = true ↔ r = s := by
  obtain ⟨a, b, c, d, e, f, g, h, i⟩ := r
  obtain ⟨a', b', c', d', e', f', g', h', i'⟩ := s
  simp only [sameR, Bool.and_eq_true, beq_iff_eq, decide_eq_true_eq, smB_iff, Rc.mk.injEq]
  constructor
  · rintro ⟨⟨⟨⟨⟨⟨⟨⟨h1, h2⟩, h3⟩, h4⟩, h5⟩, h6⟩, h7⟩, h8⟩, h9⟩
    exact ⟨h1, h2, h3, h4, h9, h5, h6, h7, h8⟩
  · rintro ⟨h1, h2, h3, h4, h9, h5, h6, h7, h8⟩
    exact ⟨⟨⟨⟨⟨⟨⟨⟨h1, h2⟩, h3⟩, h4⟩, h5⟩, h6⟩, h7⟩, h8⟩, h9⟩
theorem blk12 {w : World} {g : Nat} {t : TypeId} {c0 c1 c2 c3 c4 c5 c6 c7 c8 c9 c10 c11 : Value} (h : Blk w g t #[c0, c1, c2, c3, c4, c5, c6, c7, c8, c9, c10, c11]) :
    w.cell? ⟨g, 0, none⟩ = some c0 ∧ w.cell? ⟨g, 1, none⟩ = some c1 ∧ w.cell? ⟨g, 2, none⟩ = some c2 ∧ w.cell? ⟨g, 3, none⟩ = some c3 ∧ w.cell? ⟨g, 4, none⟩ = some c4 ∧ w.cell? ⟨g, 5, none⟩ = some c5 ∧ w.cell? ⟨g, 6, none⟩ = some c6 ∧ w.cell? ⟨g, 7, none⟩ = some c7 ∧
      w.cell? ⟨g, 8, none⟩ = some c8 ∧ w.cell? ⟨g, 9, none⟩ = some c9 ∧ w.cell? ⟨g, 10, none⟩ = some c10 ∧ w.cell? ⟨g, 11, none⟩ = some c11 :=
  ⟨by simpa using h.cell 0, by simpa using h.cell 1, by simpa using h.cell 2, by simpa using h.cell 3, by simpa using h.cell 4, by simpa using h.cell 5, by simpa using h.cell 6, by simpa using h.cell 7, by simpa using h.cell 8, by simpa using h.cell 9, by simpa using h.cell 10, by simpa using h.cell 11⟩

set_option maxRecDepth 100000 in
set_option maxHeartbeats 4000000 in
theorem rsame_any (r s : Rc) (n m : Nat) (hn : n = r.own.length) (hm : m = s.own.length) (A1 A2 : Option Addr) (c1 c2 : Nat) (w : World) (B1 B2 : Nat) (hB1 : B1 ≤ w.heap.size) (hB2 : B2 ≤ w.heap.size) (hr1 : Reads w B1 2 A1 n (pcells r.own)) (hr2 : Reads w B2 2 A2 m (pcells s.own)) (hn5 : n ≤ 5000000000000) (hm5 : m ≤ 5000000000000) :
    Calls Tryd.prog 112 #[rcV r (.slice A1 n c1), rcV s (.slice A2 m c2)] w fun e w' => e = .returned (.bool (sameR r s)) ∧ Below w.heap.size w w' := by
  obtain ⟨R, hR⟩ : ∃ R, R = sameR r s := ⟨_, rfl⟩
  rw [← hR]
  have HR := Lib.hid hR
  clear hR
  obtain ⟨rk, rn, rf, rg, ro, ri, rc, rd, ⟨ra, rb, rx, ry⟩⟩ := r
  obtain ⟨sk, sn, sf, sg, so, si, sc, sd, ⟨sa, sb, sx, sy⟩⟩ := s
  simp only [] at hn hm hr1 hr2
  show Calls _ _ #[.agg #[.int .i64 rk, .string ⟨rn.toArray⟩, .int .i64 rf, .int .i64 rg, .slice A1 n c1, .int .i64 ri, .int .i64 rc, .string ⟨rd.toArray⟩, .int .u64 ra, .int .u64 rb, .int .u64 rx, .int .u64 ry], .agg #[.int .i64 sk, .string ⟨sn.toArray⟩, .int .i64 sf, .int .i64 sg, .slice A2 m c2, .int .i64 si, .int .i64 sc, .string ⟨sd.toArray⟩, .int .u64 sa, .int .u64 sb, .int .u64 sx, .int .u64 sy]] _ _
  have hcs := fun W (hb : Below w.heap.size w W) => psame_any ro so n m hn hm A1 A2 c1 c2 W B1 B2 (hr1.below (hb.mono hB1)) (hr2.below (hb.mono hB2)) hn5 hm5
  have HC := Lib.hid hcs
  clear hn hm hr1 hr2 hB1 hB2 hcs
  go_enter Tryd.func112, Tryd.ntmps112
  go_wp2_with fail
  refine (HC.out _ (((Below.refl _ w).alloc (Nat.le_refl _) _).alloc (by simp) _)).mono ?_
  · rintro e w3 ⟨rfl, q, rfl⟩
    have HF : Hid (R = decide (ro = so)) := by
      show _ = _
      rw [HR.out, Bool.eq_iff_iff, sameR_iff, decide_eq_true_eq]
      simp_all
    go_wp2_with fail
    go_ret
    exact ⟨by rw [HF.out]; rfl, below_drewN (((Below.refl _ w).alloc (Nat.le_refl _) _).alloc (by simp) _) q⟩
  all_goals
    go_ret
    refine ⟨?_, (((Below.refl _ w).alloc (Nat.le_refl _) _).alloc (by simp) _)⟩
    have HF : R = false := by
      rw [HR.out, ← Bool.not_eq_true, sameR_iff]
      intro h
      simp_all
    rw [HF]
    rfl

end Go.Proofs.YtjdebhemoeojiaaDoor
