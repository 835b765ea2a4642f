/-
  The uber law's example and its arguments.
-/
import Derived.Test.YtcchnoadclidcaaUberLaw
import Derived.Test.YtcchnoadclidcaaFrame
namespace Go.Proofs.Ytcchnoadclidcaa
open Go.RowKit

theorem ok3 : (⟨3, 0, 0⟩ : Ub).ok := ⟨by decide, ⟨.inl rfl, by decide⟩, by decide, by simp⟩
set_option maxRecDepth 100000 in
theorem alive8_any (w : World) : Calls Try.prog 44 #[] w fun e w' => e = .returned (.bool true) ∧ Below w.heap.size w w' := by
  go_enter Try.func44, Try.ntmps44
  go_wp2_with fail
  refine (encode_ok ⟨3, 0, 0⟩ ok3 _).mono ?_
  rintro e w1 ⟨v, rfl, hown, hb1⟩
  obtain ⟨A, c, rfl, _, _, _⟩ := own_form hown
  clear hown
  go_wp2_with fail
  refine (numU_any 0 _).mono ?_
  rintro e w2 ⟨rfl, rfl⟩
  go_wp2_with fail
  refine (slotU_any ⟨3, 0, 0⟩ _).mono ?_
  rintro e w2 ⟨rfl, hb2⟩
  have h1 : bits .and .i64 (⟨3, 0, 0⟩ : Ub).t 1 = 1 := by decide
  rw [h1]
  go_wp2_with fail
  go_ret
  exact ⟨rfl, below_step hb1 hb2⟩

open Go.ChangeShapes Go.WideShapes Go.Joins Go.Deep in
theorem ArgIn.uber {H : Type} {enc : TypeId × Value → H} {P : Program} {W : World} {t e : TypeId} {v : Value} {d : DataW H} {f0 f1 f2 : Field}
    (ht : P.underlying t = some (.struct #[f0, f1, f2])) (hf : f0.type = e ∧ f1.type = e ∧ f2.type = e) (he : P.underlying e = some (.int .i64)) (hone : oneCellFields P #[f0, f1, f2] = true) (hC : P.cellsOf t = 3)
    (h : ArgIn enc P W t v d) : ∃ u : Ub, v = u.val := by
  obtain ⟨⟨base, ho⟩, ⟨p, hr⟩, _⟩ := h
  obtain ⟨v0, v1, v2, y0, y1, y2, n, rfl, _, _, h0, h1, h2⟩ := open_agg3 ht hone hC ho hr
  rw [hf.1] at h0
  rw [hf.2.1] at h1
  rw [hf.2.2] at h2
  obtain ⟨a, ha, _, wa⟩ := DataW.trod_int he h0
  obtain ⟨b, hb, _, wb⟩ := DataW.trod_int he h1
  obtain ⟨c, hc, _, wc⟩ := DataW.trod_int he h2
  simp at ha hb hc
  subst ha hb hc
  exact ⟨⟨a, b, c⟩, rfl⟩

end Go.Proofs.Ytcchnoadclidcaa
