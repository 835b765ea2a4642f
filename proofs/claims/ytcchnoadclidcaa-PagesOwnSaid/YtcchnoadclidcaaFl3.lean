/-
  fletch.Of, the page's example, and a statement's own parts.
-/
import Derived.Test.YtcchnoadclidcaaFl2
import Derived.Test.YtcchnoadclidcaaFrame
namespace Go.Proofs.Ytcchnoadclidcaa
open Go.RowKit

set_option maxRecDepth 100000 in
theorem of_any (b : List UInt8) (A : Option Addr) (c : Nat) (w : World) (B : Nat) (hr : Reads w B 1 A b.length (bts b)) (hB : B ≤ w.heap.size) (hc : b.length ≤ c) (hn : b.length ≤ 140737488351232) :
    Calls Try.prog 31 #[.slice A b.length c] w fun e w' => e = .returned (feedL ⟨0, 0, 0, 0⟩ (words b)).val ∧ Below w.heap.size w w' := by
  go_enter Try.func31, Try.ntmps31
  go_wp2_with fail
  refine (feed_any ⟨0, 0, 0, 0⟩ b A c _ B (hr.below (by go_grown)) (by simp; omega) hc hn).mono ?_
  rintro e w1 ⟨rfl, hb1⟩
  have hb : Below w.heap.size w w1 := ((Below.refl _ _).alloc (Nat.le_refl _) _).trans (hb1.mono (by simp))
  have hk : Blk w1 w.heap.size 24 #[.int .u64 0, .int .u64 0, .int .u64 0, .int .u64 0] := (Blk.new w _ _).below hb1 (by simp)
  obtain ⟨d0, d1, d2, d3, g0, g1, g2, g3⟩ := blk4 hk
  clear hb1 hr hk
  generalize hst : feedL ⟨0, 0, 0, 0⟩ (words b) = st
  have HST := Lib.hid hst
  clear hst
  obtain ⟨ya, yb, yc, yd⟩ := st
  simp only [Sm.val]
  go_wp2_with fail
  refine bodyPost_ret (v := .agg #[.int .u64 ya, .int .u64 yb, .int .u64 yc, .int .u64 yd]) (by simp [results, Try.results31, go_sem, d0, d1, d2, d3]) rfl ⟨by rw [HST.out]; rfl, (((hb.setCell (by simp) _).setCell (by simp) _).setCell (by simp) _).setCell (by simp) _⟩

theorem words_one : words [0, 0, 0, 1] = [1] := by decide

set_option maxRecDepth 100000 in
theorem alive4_any (w : World) :
    Calls Try.prog 17 #[] w fun e w' => e = .returned (.bool true) ∧ Below w.heap.size w w' := by
  go_enter Try.func17, Try.ntmps17
  go_wp2_with fail
  refine (of_any [0, 0, 0, 1] _ 4 _ _ (Reads.lit w _ _ rfl) (by simp) (by decide) (by decide)).mono ?_
  rintro e w1 ⟨rfl, hb1⟩
  have hb : Below w.heap.size w w1 := ((Below.refl _ _).alloc (Nat.le_refl _) _).trans (hb1.mono (by simp))
  clear hb1
  rw [words_one]
  simp only [feedL, List.foldl, Sm.step, Sm.val, wu, IntKind.wrap_u64]
  go_wp2_with fail
  go_ret
  exact ⟨rfl, hb⟩

open Go.ChangeShapes Go.WideShapes Go.Joins Go.Deep in
theorem ArgIn.sum {H : Type} {enc : TypeId × Value → H} {P : Program} {W : World} {t e : TypeId} {v : Value} {d : DataW H} {f0 f1 f2 f3 : Field}
    (ht : P.underlying t = some (.struct #[f0, f1, f2, f3])) (hf : f0.type = e ∧ f1.type = e ∧ f2.type = e ∧ f3.type = e) (he : P.underlying e = some (.int .u64)) (hone : oneCellFields P #[f0, f1, f2, f3] = true) (hC : P.cellsOf t = 4)
    (h : ArgIn enc P W t v d) : ∃ s : Sm, v = s.val ∧ s.ok := by
  obtain ⟨⟨base, ho⟩, ⟨p, hr⟩, _⟩ := h
  obtain ⟨v0, v1, v2, v3, y0, y1, y2, y3, n, rfl, _, _, h0, h1, h2, h3⟩ := open_agg4 ht hone hC ho hr
  rw [hf.1] at h0
  rw [hf.2.1] at h1
  rw [hf.2.2.1] at h2
  rw [hf.2.2.2] at h3
  obtain ⟨a, ha, _, wa⟩ := DataW.trod_int he h0
  obtain ⟨b, hb, _, wb⟩ := DataW.trod_int he h1
  obtain ⟨c, hc, _, wc⟩ := DataW.trod_int he h2
  obtain ⟨d, hd, _, wd⟩ := DataW.trod_int he h3
  simp at ha hb hc hd
  subst ha hb hc hd
  simp [Lit.wf, IntKind.min, IntKind.max, IntKind.signed, IntKind.bits] at wa wb wc wd
  exact ⟨⟨a, b, c, d⟩, rfl, by constructor <;> simp <;> omega⟩
end Go.Proofs.Ytcchnoadclidcaa
