/-
  UberNewestSaid: of two sectors the greater Txg's counts, of one Txg the first; one that is none never. No condition.
-/
import Derived.Test.YtcchnoadclidcaaUTells
namespace Go.Proofs.Ytcchnoadclidcaa
open Go.RowKit Go.ChangeShapes Go.WideShapes Go.ChangeAt

def NewCase (X Y R : Ub) (E F At G : Int) : Prop :=
  (E = 21 ∧ F = 21 ∧ R = ⟨0, 0, 0⟩ ∧ At = 0 ∧ G = 21) ∨ (E = 21 ∧ F = 0 ∧ R = Y ∧ At = 1 ∧ G = 0) ∨ (E = 0 ∧ F = 21 ∧ R = X ∧ At = 0 ∧ G = 0) ∨ (E = 0 ∧ F = 0 ∧ R = Y ∧ At = 1 ∧ G = 0 ∧ X.t < Y.t) ∨ (E = 0 ∧ F = 0 ∧ R = X ∧ At = 0 ∧ G = 0 ∧ Y.t ≤ X.t)

set_option maxRecDepth 100000 in
set_option maxHeartbeats 1000000 in
theorem newest_any (X Y R : Ub) (E F At G : Int) (hc : NewCase X Y R E F At G) (A A' : Option Addr) (n n' c c' : Nat) (w : World)
    (ha : ∀ W, Below w.heap.size w W → Calls Try.prog 39 #[.slice A n c] W fun e w' => e = .returned (.tuple #[X.val, .int .i64 E]) ∧ Below W.heap.size W w')
    (hb : ∀ W, Below w.heap.size w W → Calls Try.prog 39 #[.slice A' n' c'] W fun e w' => e = .returned (.tuple #[Y.val, .int .i64 F]) ∧ Below W.heap.size W w') :
    Calls Try.prog 45 #[.slice A n c, .slice A' n' c'] w fun e w' => e = .returned (.tuple #[R.val, .int .i64 At, .int .i64 G]) ∧ Below w.heap.size w w' := by
  obtain ⟨xt, xf, xo⟩ := X
  obtain ⟨yt, yf, yo⟩ := Y
  simp only [Ub.val] at ha hb
  rcases hc with ⟨rfl, rfl, rfl, rfl, rfl⟩ | ⟨rfl, rfl, rfl, rfl, rfl⟩ | ⟨rfl, rfl, rfl, rfl, rfl⟩ | ⟨rfl, rfl, rfl, rfl, rfl, hlt⟩ | ⟨rfl, rfl, rfl, rfl, rfl, hlt⟩
  all_goals
    try simp only [] at *
    go_enter Try.func45, Try.ntmps45
    go_wp2_with fail
    refine (ha _ (by go_grown)).mono ?_
    rintro e w1 ⟨rfl, hb1⟩
    have hk0 := ((Blk.new w 56 #[.int .i64 0, .int .i64 0, .int .i64 0]).below hb1 (by simp)).alloc (.cells #[.int .i64 xt, .int .i64 xf, .int .i64 xo] 56)
    have hkx := Blk.new w1 56 #[.int .i64 xt, .int .i64 xf, .int .i64 xo]
    have hba := ((((Below.refl w.heap.size w).alloc (Nat.le_refl _) (.cells #[.int .i64 0, .int .i64 0, .int .i64 0] 56)).trans (hb1.mono (by simp))).alloc (by have := hb1.size; simp at this; omega) (.cells #[.int .i64 xt, .int .i64 xf, .int .i64 xo] 56))
    clear hb1 ha
    go_wp2_with fail
    refine (hb _ hba).mono ?_
    rintro e w2 ⟨rfl, hb2⟩
    have hk0' := (hk0.below hb2 hk0.lt).alloc (.cells #[.int .i64 yt, .int .i64 yf, .int .i64 yo] 56)
    have hkx' := (hkx.below hb2 hkx.lt).alloc (.cells #[.int .i64 yt, .int .i64 yf, .int .i64 yo] 56)
    have hky' := Blk.new w2 56 #[.int .i64 yt, .int .i64 yf, .int .i64 yo]
    have hbb := (hba.trans (hb2.mono hba.size)).alloc (by have := hba.size; have := hb2.size; omega) (.cells #[.int .i64 yt, .int .i64 yf, .int .i64 yo] 56)
    obtain ⟨d0, d1, d2, f0, f1, f2⟩ := blk3 hk0'
    obtain ⟨e0, e1, e2, _, _, _⟩ := blk3 hkx'
    obtain ⟨g0, g1, g2, _, _, _⟩ := blk3 hky'
    clear hb2 hba hk0 hkx hb hk0' hkx' hky'
    go_wp2_with fail
  · refine bodyPost_ret (v := .tuple #[.agg #[.int .i64 0, .int .i64 0, .int .i64 0], .int .i64 0, .int .i64 21]) (by simp [results, Try.results45, go_sem, d0, d1, d2]) rfl ⟨rfl, ((hbb.setCell (Nat.le_refl _) _).setCell (Nat.le_refl _) _).setCell (Nat.le_refl _) _⟩
  · refine bodyPost_ret (v := .tuple #[.agg #[.int .i64 yt, .int .i64 yf, .int .i64 yo], .int .i64 1, .int .i64 0]) (by simp [results, Try.results45, go_sem, d0, d1, d2]) rfl ⟨rfl, ((hbb.setCell (Nat.le_refl _) _).setCell (Nat.le_refl _) _).setCell (Nat.le_refl _) _⟩
  · refine bodyPost_ret (v := .tuple #[.agg #[.int .i64 xt, .int .i64 xf, .int .i64 xo], .int .i64 0, .int .i64 0]) (by simp [results, Try.results45, go_sem, d0, d1, d2]) rfl ⟨rfl, ((hbb.setCell (Nat.le_refl _) _).setCell (Nat.le_refl _) _).setCell (Nat.le_refl _) _⟩
  · refine bodyPost_ret (v := .tuple #[.agg #[.int .i64 yt, .int .i64 yf, .int .i64 yo], .int .i64 1, .int .i64 0]) (by simp [results, Try.results45, go_sem, d0, d1, d2]) rfl ⟨rfl, ((hbb.setCell (Nat.le_refl _) _).setCell (Nat.le_refl _) _).setCell (Nat.le_refl _) _⟩
  · refine bodyPost_ret (v := .tuple #[.agg #[.int .i64 xt, .int .i64 xf, .int .i64 xo], .int .i64 0, .int .i64 0]) (by simp [results, Try.results45, go_sem, d0, d1, d2]) rfl ⟨rfl, ((hbb.setCell (Nat.le_refl _) _).setCell (Nat.le_refl _) _).setCell (Nat.le_refl _) _⟩

theorem newCase (X Y : Ub) (a b : List UInt8)  : ∃ R At G, NewCase X Y R (decE a) (decE b) At G := by
  by_cases ha : DecOk a <;> by_cases hb : DecOk b
  · by_cases h : X.t < Y.t
    · exact ⟨Y, 1, 0, by unfold NewCase; simp [decE, ha, hb, h]⟩
    · exact ⟨X, 0, 0, by unfold NewCase; simp [decE, ha, hb]; omega⟩
  · exact ⟨X, 0, 0, by unfold NewCase; simp [decE, ha, hb]⟩
  · exact ⟨Y, 1, 0, by unfold NewCase; simp [decE, ha, hb]⟩
  · exact ⟨⟨0, 0, 0⟩, 0, 21, by unfold NewCase; simp [decE, ha, hb]⟩

set_option maxRecDepth 100000 in
set_option maxHeartbeats 2000000 in
theorem uberNewest_any (a b : List UInt8) (A A' : Option Addr) (c c' : Nat) (w : World) (hra : Reads w w.heap.size 1 A a.length (bts a)) (hrb : Reads w w.heap.size 1 A' b.length (bts b)) (hca : a.length ≤ c) (hna : c ≤ 140737488351232) (hcb : b.length ≤ c') (hnb : c' ≤ 140737488351232) :
    LawCalls Try.prog 12 #[.slice A a.length c, .slice A' b.length c'] w := by
  have da := fun W (hb : Below w.heap.size w W) => decode_both a a.length rfl A c W w.heap.size (hra.below hb) hb.size hca (by omega)
  have db := fun W (hb : Below w.heap.size w W) => decode_both b b.length rfl A' c' W w.heap.size (hrb.below hb) hb.size hcb (by omega)
  have ra := fun W (hb : Below w.heap.size w W) => rdecode_both a a.length rfl A c W w.heap.size (hra.below hb) hb.size hca (by omega)
  have rb := fun W (hb : Below w.heap.size w W) => rdecode_both b b.length rfl A' c' W w.heap.size (hrb.below hb) hb.size hcb (by omega)
  obtain ⟨R, At, G, hcase⟩ := newCase (decV a) (decV b) a b
  revert da db ra rb hcase
  generalize decV a = X
  generalize decV b = Y
  generalize decE a = E
  generalize decE b = F
  intro da db ra rb hcase
  have hnew := newest_any X Y R E F At G hcase A A' a.length b.length c c' w (fun W hb => da W hb) (fun W hb => db W hb)
  clear da db hra hrb hca hcb hna hnb
  obtain ⟨xt, xf, xo⟩ := X
  obtain ⟨yt, yf, yo⟩ := Y
  generalize a.length = n at *
  generalize b.length = n' at *
  simp only [Ub.val] at ra rb
  rcases hcase with ⟨rfl, rfl, rfl, rfl, rfl⟩ | ⟨rfl, rfl, rfl, rfl, rfl⟩ | ⟨rfl, rfl, rfl, rfl, rfl⟩ | ⟨rfl, rfl, rfl, rfl, rfl, hlt⟩ | ⟨rfl, rfl, rfl, rfl, rfl, hlt⟩
  · simp only [Ub.val] at *
    go_enter Try.func12, Try.ntmps12
    go_wp2_with fail
    refine hnew.mono ?_
    clear hnew
    rintro e w1 ⟨rfl, hb1⟩
    have hk1 := Blk.new w1 56 #[.int .i64 0, .int .i64 0, .int .i64 0]
    have hb1' := hb1.alloc hb1.size (.cells #[.int .i64 0, .int .i64 0, .int .i64 0] 56)
    clear hb1
    go_wp2_with fail
    refine (ra _ hb1').mono ?_
    rintro e w2 ⟨rfl, hb2⟩
    have hk1' := (hk1.below hb2 hk1.lt).alloc (.cells #[.int .i64 xt, .int .i64 xf, .int .i64 xo] 56)
    have hk2 := Blk.new w2 56 #[.int .i64 xt, .int .i64 xf, .int .i64 xo]
    have hb2' := (hb1'.trans (hb2.mono hb1'.size)).alloc (by have := hb1'.size; have := hb2.size; omega) (.cells #[.int .i64 xt, .int .i64 xf, .int .i64 xo] 56)
    clear hb2 hb1' hk1 ra
    go_wp2_with fail
    refine (rb _ hb2').mono ?_
    rintro e w3 ⟨rfl, hb3⟩
    have hk1'' := (hk1'.below hb3 hk1'.lt).alloc (.cells #[.int .i64 yt, .int .i64 yf, .int .i64 yo] 56)
    have hk2' := (hk2.below hb3 hk2.lt).alloc (.cells #[.int .i64 yt, .int .i64 yf, .int .i64 yo] 56)
    have hk3 := Blk.new w3 56 #[.int .i64 yt, .int .i64 yf, .int .i64 yo]
    have hb3' := (hb2'.trans (hb3.mono hb2'.size)).alloc (by have := hb2'.size; have := hb3.size; omega) (.cells #[.int .i64 yt, .int .i64 yf, .int .i64 yo] 56)
    obtain ⟨d0, d1, d2, _, _, _⟩ := blk3 hk1''
    obtain ⟨e0, e1, e2, _, _, _⟩ := blk3 hk2'
    obtain ⟨g0, g1, g2, _, _, _⟩ := blk3 hk3
    clear hb3 hb2' hk1' hk2 rb hk1'' hk2' hk3
    go_wp2_with fail
    refine (numU_any _ _).mono ?_
    rintro e w6 ⟨rfl, rfl⟩
    go_wp2_with fail
    refine (alive8_any _).mono ?_
    rintro e w7 ⟨rfl, hb7⟩
    have hb8 := hb3'.trans (hb7.mono hb3'.size)
    clear hb7 hb3'
    go_wp2_with fail
    go_ret
    exact ⟨rfl, hb8⟩
  · simp only [Ub.val] at *
    go_enter Try.func12, Try.ntmps12
    go_wp2_with fail
    refine hnew.mono ?_
    clear hnew
    rintro e w1 ⟨rfl, hb1⟩
    have hk1 := Blk.new w1 56 #[.int .i64 yt, .int .i64 yf, .int .i64 yo]
    have hb1' := hb1.alloc hb1.size (.cells #[.int .i64 yt, .int .i64 yf, .int .i64 yo] 56)
    clear hb1
    go_wp2_with fail
    refine (ra _ hb1').mono ?_
    rintro e w2 ⟨rfl, hb2⟩
    have hk1' := (hk1.below hb2 hk1.lt).alloc (.cells #[.int .i64 xt, .int .i64 xf, .int .i64 xo] 56)
    have hk2 := Blk.new w2 56 #[.int .i64 xt, .int .i64 xf, .int .i64 xo]
    have hb2' := (hb1'.trans (hb2.mono hb1'.size)).alloc (by have := hb1'.size; have := hb2.size; omega) (.cells #[.int .i64 xt, .int .i64 xf, .int .i64 xo] 56)
    clear hb2 hb1' hk1 ra
    go_wp2_with fail
    refine (rb _ hb2').mono ?_
    rintro e w3 ⟨rfl, hb3⟩
    have hk1'' := (hk1'.below hb3 hk1'.lt).alloc (.cells #[.int .i64 yt, .int .i64 yf, .int .i64 yo] 56)
    have hk2' := (hk2.below hb3 hk2.lt).alloc (.cells #[.int .i64 yt, .int .i64 yf, .int .i64 yo] 56)
    have hk3 := Blk.new w3 56 #[.int .i64 yt, .int .i64 yf, .int .i64 yo]
    have hb3' := (hb2'.trans (hb3.mono hb2'.size)).alloc (by have := hb2'.size; have := hb3.size; omega) (.cells #[.int .i64 yt, .int .i64 yf, .int .i64 yo] 56)
    obtain ⟨d0, d1, d2, _, _, _⟩ := blk3 hk1''
    obtain ⟨e0, e1, e2, _, _, _⟩ := blk3 hk2'
    obtain ⟨g0, g1, g2, _, _, _⟩ := blk3 hk3
    clear hb3 hb2' hk1' hk2 rb hk1'' hk2' hk3
    go_wp2_with fail
    refine (numU_any _ _).mono ?_
    rintro e w6 ⟨rfl, rfl⟩
    go_wp2_with fail
    refine (alive8_any _).mono ?_
    rintro e w7 ⟨rfl, hb7⟩
    have hb8 := hb3'.trans (hb7.mono hb3'.size)
    clear hb7 hb3'
    go_wp2_with fail
    go_ret
    exact ⟨rfl, hb8⟩
  · simp only [Ub.val] at *
    go_enter Try.func12, Try.ntmps12
    go_wp2_with fail
    refine hnew.mono ?_
    clear hnew
    rintro e w1 ⟨rfl, hb1⟩
    have hk1 := Blk.new w1 56 #[.int .i64 xt, .int .i64 xf, .int .i64 xo]
    have hb1' := hb1.alloc hb1.size (.cells #[.int .i64 xt, .int .i64 xf, .int .i64 xo] 56)
    clear hb1
    go_wp2_with fail
    refine (ra _ hb1').mono ?_
    rintro e w2 ⟨rfl, hb2⟩
    have hk1' := (hk1.below hb2 hk1.lt).alloc (.cells #[.int .i64 xt, .int .i64 xf, .int .i64 xo] 56)
    have hk2 := Blk.new w2 56 #[.int .i64 xt, .int .i64 xf, .int .i64 xo]
    have hb2' := (hb1'.trans (hb2.mono hb1'.size)).alloc (by have := hb1'.size; have := hb2.size; omega) (.cells #[.int .i64 xt, .int .i64 xf, .int .i64 xo] 56)
    clear hb2 hb1' hk1 ra
    go_wp2_with fail
    refine (rb _ hb2').mono ?_
    rintro e w3 ⟨rfl, hb3⟩
    have hk1'' := (hk1'.below hb3 hk1'.lt).alloc (.cells #[.int .i64 yt, .int .i64 yf, .int .i64 yo] 56)
    have hk2' := (hk2.below hb3 hk2.lt).alloc (.cells #[.int .i64 yt, .int .i64 yf, .int .i64 yo] 56)
    have hk3 := Blk.new w3 56 #[.int .i64 yt, .int .i64 yf, .int .i64 yo]
    have hb3' := (hb2'.trans (hb3.mono hb2'.size)).alloc (by have := hb2'.size; have := hb3.size; omega) (.cells #[.int .i64 yt, .int .i64 yf, .int .i64 yo] 56)
    obtain ⟨d0, d1, d2, _, _, _⟩ := blk3 hk1''
    obtain ⟨e0, e1, e2, _, _, _⟩ := blk3 hk2'
    obtain ⟨g0, g1, g2, _, _, _⟩ := blk3 hk3
    clear hb3 hb2' hk1' hk2 rb hk1'' hk2' hk3
    go_wp2_with fail
    refine (numU_any _ _).mono ?_
    rintro e w6 ⟨rfl, rfl⟩
    go_wp2_with fail
    refine (alive8_any _).mono ?_
    rintro e w7 ⟨rfl, hb7⟩
    have hb8 := hb3'.trans (hb7.mono hb3'.size)
    clear hb7 hb3'
    go_wp2_with fail
    go_ret
    exact ⟨rfl, hb8⟩
  · simp only [Ub.val] at *
    go_enter Try.func12, Try.ntmps12
    go_wp2_with fail
    refine hnew.mono ?_
    clear hnew
    rintro e w1 ⟨rfl, hb1⟩
    have hk1 := Blk.new w1 56 #[.int .i64 yt, .int .i64 yf, .int .i64 yo]
    have hb1' := hb1.alloc hb1.size (.cells #[.int .i64 yt, .int .i64 yf, .int .i64 yo] 56)
    clear hb1
    go_wp2_with fail
    refine (ra _ hb1').mono ?_
    rintro e w2 ⟨rfl, hb2⟩
    have hk1' := (hk1.below hb2 hk1.lt).alloc (.cells #[.int .i64 xt, .int .i64 xf, .int .i64 xo] 56)
    have hk2 := Blk.new w2 56 #[.int .i64 xt, .int .i64 xf, .int .i64 xo]
    have hb2' := (hb1'.trans (hb2.mono hb1'.size)).alloc (by have := hb1'.size; have := hb2.size; omega) (.cells #[.int .i64 xt, .int .i64 xf, .int .i64 xo] 56)
    clear hb2 hb1' hk1 ra
    go_wp2_with fail
    refine (rb _ hb2').mono ?_
    rintro e w3 ⟨rfl, hb3⟩
    have hk1'' := (hk1'.below hb3 hk1'.lt).alloc (.cells #[.int .i64 yt, .int .i64 yf, .int .i64 yo] 56)
    have hk2' := (hk2.below hb3 hk2.lt).alloc (.cells #[.int .i64 yt, .int .i64 yf, .int .i64 yo] 56)
    have hk3 := Blk.new w3 56 #[.int .i64 yt, .int .i64 yf, .int .i64 yo]
    have hb3' := (hb2'.trans (hb3.mono hb2'.size)).alloc (by have := hb2'.size; have := hb3.size; omega) (.cells #[.int .i64 yt, .int .i64 yf, .int .i64 yo] 56)
    obtain ⟨d0, d1, d2, _, _, _⟩ := blk3 hk1''
    obtain ⟨e0, e1, e2, _, _, _⟩ := blk3 hk2'
    obtain ⟨g0, g1, g2, _, _, _⟩ := blk3 hk3
    clear hb3 hb2' hk1' hk2 rb hk1'' hk2' hk3
    go_wp2_with fail
    refine (numU_any _ _).mono ?_
    rintro e w6 ⟨rfl, rfl⟩
    go_wp2_with fail
    refine (alive8_any _).mono ?_
    rintro e w7 ⟨rfl, hb7⟩
    have hb8 := hb3'.trans (hb7.mono hb3'.size)
    clear hb7 hb3'
    go_wp2_with fail
    go_ret
    exact ⟨rfl, hb8⟩
  · simp only [Ub.val] at *
    go_enter Try.func12, Try.ntmps12
    go_wp2_with fail
    refine hnew.mono ?_
    clear hnew
    rintro e w1 ⟨rfl, hb1⟩
    have hk1 := Blk.new w1 56 #[.int .i64 xt, .int .i64 xf, .int .i64 xo]
    have hb1' := hb1.alloc hb1.size (.cells #[.int .i64 xt, .int .i64 xf, .int .i64 xo] 56)
    clear hb1
    go_wp2_with fail
    refine (ra _ hb1').mono ?_
    rintro e w2 ⟨rfl, hb2⟩
    have hk1' := (hk1.below hb2 hk1.lt).alloc (.cells #[.int .i64 xt, .int .i64 xf, .int .i64 xo] 56)
    have hk2 := Blk.new w2 56 #[.int .i64 xt, .int .i64 xf, .int .i64 xo]
    have hb2' := (hb1'.trans (hb2.mono hb1'.size)).alloc (by have := hb1'.size; have := hb2.size; omega) (.cells #[.int .i64 xt, .int .i64 xf, .int .i64 xo] 56)
    clear hb2 hb1' hk1 ra
    go_wp2_with fail
    refine (rb _ hb2').mono ?_
    rintro e w3 ⟨rfl, hb3⟩
    have hk1'' := (hk1'.below hb3 hk1'.lt).alloc (.cells #[.int .i64 yt, .int .i64 yf, .int .i64 yo] 56)
    have hk2' := (hk2.below hb3 hk2.lt).alloc (.cells #[.int .i64 yt, .int .i64 yf, .int .i64 yo] 56)
    have hk3 := Blk.new w3 56 #[.int .i64 yt, .int .i64 yf, .int .i64 yo]
    have hb3' := (hb2'.trans (hb3.mono hb2'.size)).alloc (by have := hb2'.size; have := hb3.size; omega) (.cells #[.int .i64 yt, .int .i64 yf, .int .i64 yo] 56)
    obtain ⟨d0, d1, d2, _, _, _⟩ := blk3 hk1''
    obtain ⟨e0, e1, e2, _, _, _⟩ := blk3 hk2'
    obtain ⟨g0, g1, g2, _, _, _⟩ := blk3 hk3
    clear hb3 hb2' hk1' hk2 rb hk1'' hk2' hk3
    go_wp2_with fail
    refine (numU_any _ _).mono ?_
    rintro e w6 ⟨rfl, rfl⟩
    go_wp2_with fail
    refine (alive8_any _).mono ?_
    rintro e w7 ⟨rfl, hb7⟩
    have hb8 := hb3'.trans (hb7.mono hb3'.size)
    clear hb7 hb3'
    go_wp2_with fail
    go_ret
    exact ⟨rfl, hb8⟩

theorem uberNewest_core (H : Type) (enc : TypeId × Value → H) (W : World) (args : Array Value) (ds : List (DataW H)) (h : ArgsIn enc Try.prog W [25, 25] args.toList ds) :
    LawCalls Try.prog 12 args W := by
  obtain ⟨v0, v1, d0, d1, rfl, rfl, h0, h1⟩ := argsIn2 h
  obtain ⟨A, a, c, rfl, hc, hc2, hr, _⟩ := h0.bytes Try.underlying25 Try.underlying5 (by kernel_rfl) (by kernel_rfl)
  obtain ⟨A', b, c', rfl, hc', hc2', hr', _⟩ := h1.bytes Try.underlying25 Try.underlying5 (by kernel_rfl) (by kernel_rfl)
  exact uberNewest_any a b A A' c c' W hr hr' hc hc2 hc' hc2'

theorem uberNewest_spec {H : Type} {enc : TypeId × Value → H} (vs : List Value) (ds : List (DataW H)) (W : World) (p : List MemPlace) (h : DataW.TrodAll enc Try.prog W 0 (fun _ => true) true [25, 25] vs ds p) :
    (Rows.uberNewestSpec.fn H ds).results = [.lit (.bool true)] ∧ (Rows.uberNewestSpec.fn H ds).args = ds ∧ (Rows.uberNewestSpec.fn H ds).vars = [] := by
  obtain ⟨_, _, d0, ds0, _, _, rfl, rfl, _, _, r0⟩ := trodAll_cons h
  obtain ⟨_, _, d1, ds1, _, _, rfl, rfl, _, _, r1⟩ := trodAll_cons r0
  obtain ⟨rfl, rfl, rfl⟩ := trodAll_nil r1
  exact ⟨rfl, rfl, rfl⟩

set_option maxRecDepth 100000 in
theorem uberNewest_lifted (os : Os) (started : os.Started) (H : Type) (enc : TypeId × Value → H) :
    ReturnsInHanded {} Try.checked os 12 .any (Rows.uberNewestSpec.pre6 enc Try.prog Try.f12 Rows.uberNewestRow.domain false) (Rows.uberNewestSpec.post enc Try.prog Try.f12 false true false false) := by
  refine returnsInHanded_of_change_sized (C := Try.checked) Try.own started (by kernel_rfl) Try.func12
    (ChangeSpec.witness6 (enc := enc) (C := Try.checked) false ⟨#[], #[.slice none 0 0, .slice none 0 0], []⟩ 8 (by kernel_rfl) (by kernel_rfl) (by kernel_rfl) (by kernel_rfl)) ?_
  intro W base args ds gs before hval hW _ hsz _
  exact law_contract Try.laidOut Try.underlying4 (ps := [25, 25]) rfl rfl rfl (by kernel_rfl) uberNewest_spec W base args ds gs before hval hW hsz (fun h _ => uberNewest_core H enc W args ds h)

theorem uberNewest_holds : Rows.UberNewestSaid :=
  OpenClaim.holds_of_wide 12 Try.f12 rfl rfl rfl rfl rfl rfl rfl ⟨rfl, rfl, rfl, rfl, rfl⟩ rfl rfl rfl rfl rfl (by kernel_rfl) Try.func12 (by kernel_rfl)
    (of_decide_eq_true (by kernel_rfl)) (by unfold Func.isWrapper; first | (rw [if_pos (by decide +kernel)]; kernel_rfl) | (rw [if_neg (by decide +kernel)]; exact ⟨rfl, rfl⟩))
    (fun os started H enc _ => uberNewest_lifted os started H enc)


end Go.Proofs.Ytcchnoadclidcaa
