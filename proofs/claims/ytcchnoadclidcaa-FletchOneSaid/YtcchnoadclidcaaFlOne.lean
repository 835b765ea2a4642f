/-
  FletchOneSaid: texts of as many words, of which just one differs, have unlike sums, wherever it stands. No condition.
-/
import Derived.Test.YtcchnoadclidcaaFl3
import Derived.Deep.RegionHeld3
import Derived.BigRegion
import Derived.Deep.DeepCutAuto
import Derived.Test.YtcchnoadclidcaaInv
namespace Go.Proofs.Ytcchnoadclidcaa
open Go.RowKit Go.ChangeShapes Go.WideShapes Go.ChangeAt

theorem one_place (at_ : Int) (n : Nat) (h0 : 0 < n) (hn : n < 140737488351232) (_ha : -9223372036854775808 ≤ at_ ∧ at_ ≤ 9223372036854775807) : ∃ q : Nat, (wrap64 (at_.tmod (n : Int) + (n : Int))).tmod (n : Int) = (q : Int) ∧ q < n := by
  have h1 := Int.tmod_lt_of_pos at_ (show (0 : Int) < n by omega)
  have h2 : -(n : Int) < at_.tmod n := by
    have := Int.tmod_lt_of_pos (-at_) (show (0 : Int) < n by omega)
    rw [Int.neg_tmod] at this
    omega
  rw [IntWalk.wrap64_in _ ⟨by omega, by omega⟩]
  have h3 : 0 ≤ at_.tmod (n : Int) + (n : Int) := by omega
  have h4 := Int.tmod_nonneg (n : Int) h3
  have h5 := Int.tmod_lt_of_pos (at_.tmod (n : Int) + (n : Int)) (show (0 : Int) < n by omega)
  exact ⟨((at_.tmod (n : Int) + (n : Int)).tmod (n : Int)).toNat, by omega, by omega⟩

theorem one_byte {w : World} {base e g cap i : Nat} {b : List UInt8} (h : w.ownsRow base e 1 (.slice (some ⟨g, 0, none⟩) b.length cap) b.length (bts b)) (hi : i < b.length) :
    ∃ y : Int, w.cell? ⟨g, i, none⟩ = some (.int .u8 y) ∧ w.frozen? ⟨g, i, none⟩ = false ∧ 0 ≤ y ∧ y ≤ 255 ∧ Hid (y = byteAt b i) := by
  refine ⟨byteAt b i, ?_, h.frozenAt i, (byteAt_bd b i).1, (byteAt_bd b i).2, rfl⟩
  rw [h.cellAt i (by omega), bts_get, List.getElem?_eq_getElem hi]
  simp [byteAt, List.getD_eq_getElem?_getD, List.getElem?_eq_getElem hi]


/-! ### The plain law -/
def xb (b : List UInt8) (i : Nat) (m : Nat) : UInt8 := (b.getD i 0) ^^^ (UInt8.ofNat m)
def mix (b : List UInt8) (q : Nat) (y : Nat) : List UInt8 :=
  (((b.set (4 * q) (xb b (4 * q) (y / 16777216))).set (4 * q + 1) (xb b (4 * q + 1) (y / 65536 % 256))).set (4 * q + 2) (xb b (4 * q + 2) (y / 256 % 256))).set (4 * q + 3) (xb b (4 * q + 3) (y % 256))
theorem mix_length (b : List UInt8) (q y : Nat) : (mix b q y).length = b.length := by simp [mix]
theorem bts_set (b : List UInt8) (i : Nat) (z : UInt8) : bts (b.set i z) = (bts b).set i (.int .u8 (z.toNat : Int)) := by simp [bts, List.map_set]
theorem xb_int (b : List UInt8) (i m : Nat) (hm : m < 256) : bits .xor .u8 (byteAt b i) (m : Int) = ((xb b i m).toNat : Int) := by
  unfold byteAt
  rw [u8_xor_nat _ _ (b.getD i 0).toNat_lt hm]
  unfold xb
  rw [UInt8.toNat_xor, UInt8.toNat_ofNat_of_lt' hm]
theorem mix_other (b : List UInt8) (q y j : Nat) (h : j < 4 * q ∨ 4 * q + 3 < j) : (mix b q y).getD j 0 = b.getD j 0 := by
  unfold mix
  simp only [List.getD_eq_getElem?_getD]
  rw [List.getElem?_set_ne (by omega), List.getElem?_set_ne (by omega), List.getElem?_set_ne (by omega), List.getElem?_set_ne (by omega)]
theorem mix_at (b : List UInt8) (q y : Nat) (h : 4 * q + 3 < b.length) :
    (mix b q y).getD (4 * q) 0 = xb b (4 * q) (y / 16777216) ∧ (mix b q y).getD (4 * q + 1) 0 = xb b (4 * q + 1) (y / 65536 % 256) ∧
    (mix b q y).getD (4 * q + 2) 0 = xb b (4 * q + 2) (y / 256 % 256) ∧ (mix b q y).getD (4 * q + 3) 0 = xb b (4 * q + 3) (y % 256) := by
  unfold mix
  simp only [List.getD_eq_getElem?_getD]
  refine ⟨?_, ?_, ?_, ?_⟩
  · rw [List.getElem?_set_ne (by omega), List.getElem?_set_ne (by omega), List.getElem?_set_ne (by omega), List.getElem?_set_self (by omega)]; rfl
  · rw [List.getElem?_set_ne (by omega), List.getElem?_set_ne (by omega), List.getElem?_set_self (by simp; omega)]; rfl
  · rw [List.getElem?_set_ne (by omega), List.getElem?_set_self (by simp; omega)]; rfl
  · rw [List.getElem?_set_self (by simp; omega)]; rfl
theorem xb_same {b : List UInt8} {i m : Nat} (hm : m < 256) (h : (xb b i m).toNat = (b.getD i 0).toNat) : m = 0 := by
  have h1 : xb b i m = b.getD i 0 := UInt8.toNat_inj.1 h
  unfold xb at h1
  have h2 : UInt8.ofNat m = 0 := by
    have := congrArg (fun z => (b.getD i 0) ^^^ z) h1
    simp only [← UInt8.xor_assoc, UInt8.xor_self, UInt8.zero_xor] at this
    exact this
  have := congrArg UInt8.toNat h2
  rwa [UInt8.toNat_ofNat_of_lt' hm] at this
theorem word_differs (b : List UInt8) (q y : Nat) (h : 4 * q + 3 < b.length) (hy : y < 4294967296) (hy0 : y ≠ 0) : wordAt (mix b q y) q ≠ wordAt b q := by
  obtain ⟨h0, h1, h2, h3⟩ := mix_at b q y h
  unfold wordAt w4
  rw [h0, h1, h2, h3]
  intro he
  have l0 := (xb b (4 * q) (y / 16777216)).toNat_lt
  have l1 := (xb b (4 * q + 1) (y / 65536 % 256)).toNat_lt
  have l2 := (xb b (4 * q + 2) (y / 256 % 256)).toNat_lt
  have l3 := (xb b (4 * q + 3) (y % 256)).toNat_lt
  have k0 := (b.getD (4 * q) 0).toNat_lt
  have k1 := (b.getD (4 * q + 1) 0).toNat_lt
  have k2 := (b.getD (4 * q + 2) 0).toNat_lt
  have k3 := (b.getD (4 * q + 3) 0).toNat_lt
  have z0 := xb_same (b := b) (i := 4 * q) (m := y / 16777216) (by omega) (by omega)
  have z1 := xb_same (b := b) (i := 4 * q + 1) (m := y / 65536 % 256) (by omega) (by omega)
  have z2 := xb_same (b := b) (i := 4 * q + 2) (m := y / 256 % 256) (by omega) (by omega)
  have z3 := xb_same (b := b) (i := 4 * q + 3) (m := y % 256) (by omega) (by omega)
  omega
theorem word_same (b : List UInt8) (q y k : Nat) (h : k ≠ q) : wordAt (mix b q y) k = wordAt b k := by
  unfold wordAt
  rw [mix_other b q y _ (by omega), mix_other b q y _ (by omega), mix_other b q y _ (by omega), mix_other b q y _ (by omega)]
theorem feedL_a (s : Sm) (l : List Nat) (hs : 0 ≤ s.a ∧ s.a < 18446744073709551616) : (feedL s l).a = (s.a + (l.sum : Nat)) % 18446744073709551616 := by
  induction l generalizing s with
  | nil => simp [feedL]; omega
  | cons x l ih =>
    show (feedL (s.step x) l).a = _
    have e : (s.step x).a = (s.a + x) % 18446744073709551616 := by simp [Sm.step, wu, IntKind.wrap_u64]
    rw [ih _ (by rw [e]; omega), e, List.sum_cons]
    omega
theorem sum_one (f g : Nat → Nat) (q : Nat) (h : ∀ k, k ≠ q → f k = g k) (n : Nat) : (((List.range n).map f).sum : Int) = ((List.range n).map g).sum + if q < n then (f q : Int) - g q else 0 := by
  induction n with
  | zero => simp
  | succ n ih =>
    rw [List.range_succ, List.map_append, List.map_append, List.sum_append, List.sum_append]
    simp only [List.map_cons, List.map_nil, List.sum_cons, List.sum_nil, Int.natCast_add]
    rw [ih]
    by_cases hq : q < n
    · rw [if_pos hq, if_pos (by omega), h n (by omega)]; omega
    · by_cases hq2 : q = n
      · subst hq2; simp; omega
      · rw [if_neg hq, if_neg (by omega), h n (by omega)]; omega
theorem one_law (s : Sm) (b : List UInt8) (q y : Nat) (hs : 0 ≤ s.a ∧ s.a < 18446744073709551616) (h : 4 * q + 3 < b.length) (hy : y < 4294967296) (hy0 : y ≠ 0) :
    (feedL s (words b)).a ≠ (feedL s (words (mix b q y))).a := by
  rw [feedL_a s _ hs, feedL_a s _ hs]
  have hd := word_differs b q y h hy hy0
  have hs1 := sum_one (wordAt (mix b q y)) (wordAt b) q (fun k hk => word_same b q y k hk) ((b.length + 3) / 4)
  rw [if_pos (by omega)] at hs1
  have l1 := words_lt (mix b q y) (wordAt (mix b q y) q) (by unfold words wordsN; exact List.mem_map.2 ⟨q, List.mem_range.2 (by rw [mix_length]; omega), rfl⟩)
  have l2 := words_lt b (wordAt b q) (by unfold words wordsN; exact List.mem_map.2 ⟨q, List.mem_range.2 (by omega), rfl⟩)
  unfold words wordsN
  rw [mix_length]
  omega

theorem mix_own {w : World} {base e g cap q Y : Nat} {b : List UInt8} {y0 y1 y2 y3 : Int} (h : w.ownsRow base e 1 (.slice (some ⟨g, 0, none⟩) b.length cap) b.length (bts b)) (_hq : 4 * q + 3 < b.length) (hY : Y < 4294967296)
    (e0 : y0 = byteAt b (4 * q)) (e1 : y1 = byteAt b (4 * q + 1)) (e2 : y2 = byteAt b (4 * q + 2)) (e3 : y3 = byteAt b (4 * q + 3)) :
    ((((((((w.setCell ⟨g, 4 * q, none⟩ (.int .u8 (bits .xor .u8 y0 ((Y : Int) / 16777216)))).setCell ⟨g, 4 * q + 1, none⟩ (.int .u8 (bits .xor .u8 y1 ((Y : Int) / 65536 % 256)))).setCell ⟨g, 4 * q + 2, none⟩ (.int .u8 (bits .xor .u8 y2 ((Y : Int) / 256 % 256)))).setCell ⟨g, 4 * q + 3, none⟩ (.int .u8 (bits .xor .u8 y3 ((Y : Int) % 256)))).drew).drew).drew).drew).ownsRow
      base e 1 (.slice (some ⟨g, 0, none⟩) b.length cap) b.length (bts (mix b q Y)) := by
  subst e0 e1 e2 e3
  rw [show ((Y : Int) / 16777216) = ((Y / 16777216 : Nat) : Int) by omega, show ((Y : Int) / 65536 % 256) = ((Y / 65536 % 256 : Nat) : Int) by omega, show ((Y : Int) / 256 % 256) = ((Y / 256 % 256 : Nat) : Int) by omega,
    show ((Y : Int) % 256) = ((Y % 256 : Nat) : Int) by omega, xb_int _ _ _ (by omega), xb_int _ _ _ (by omega), xb_int _ _ _ (by omega), xb_int _ _ _ (by omega)]
  have := ((((h.stored (4 * q) (.int .u8 ((xb b (4 * q) (Y / 16777216)).toNat : Int))).1.stored (4 * q + 1) (.int .u8 ((xb b (4 * q + 1) (Y / 65536 % 256)).toNat : Int))).1.stored (4 * q + 2) (.int .u8 ((xb b (4 * q + 2) (Y / 256 % 256)).toNat : Int))).1.stored (4 * q + 3) (.int .u8 ((xb b (4 * q + 3) (Y % 256)).toNat : Int))).1
  rw [← bts_set, ← bts_set, ← bts_set, ← bts_set] at this
  exact this

/-! ### 'x, y := Feed(..), Feed(..)': what holds of the region while it goes on -/
structure OneJ (w4 : World) (T : TypeId) (val : Nat → Option Value) (z p r : Array Value) (m : Nat → Option Value) (W : World) : Prop where
  bel : Below w4.heap.size w4 W
  det : Det val m
  x6 : ∀ v, m 6 = some v → ∃ g, v = .pointer (some ⟨g, 0, none⟩) ∧ w4.heap.size ≤ g ∧ Blk W g T (if m 8 = none then z else p)
  x7 : ∀ v, m 7 = some v → ∃ g, v = .pointer (some ⟨g, 0, none⟩) ∧ w4.heap.size ≤ g ∧ Blk W g T (if m 9 = none then z else r)
  ne : ∀ v, m 6 = some v → m 7 ≠ some v
  o8 : m 6 = none → m 8 = none
  o9 : m 7 = none → m 9 = none
section
variable {w4 W W' : World} {T : TypeId} {val m : Nat → Option Value} {z p r : Array Value}
theorem OneJ.start : OneJ w4 T val z p r (fun _ => none) w4.drew := ⟨(Below.refl _ _).drew, Det.start _, fun _ h => (by cases h), fun _ h => (by cases h), fun _ h => (by cases h), fun _ => rfl, fun _ => rfl⟩
theorem OneJ.step (h : OneJ w4 T val z p r m W) (hb : Below W.heap.size W W') {i : Nat} {v : Value} (h6 : i ≠ 6) (h7 : i ≠ 7) (h8 : i ≠ 8) (h9 : i ≠ 9) (hv : ∀ x, val i = some x → v = x) : OneJ w4 T val z p r (upd m i v) W' := by
  refine ⟨below_step h.bel hb, h.det.up hv, ?_, ?_, ?_, ?_, ?_⟩
  · rw [upd_ne m v h6.symm, upd_ne m v h8.symm]
    intro u hu
    obtain ⟨g, e, hg, hB⟩ := h.x6 u hu
    exact ⟨g, e, hg, hB.below hb hB.lt⟩
  · rw [upd_ne m v h7.symm, upd_ne m v h9.symm]
    intro u hu
    obtain ⟨g, e, hg, hB⟩ := h.x7 u hu
    exact ⟨g, e, hg, hB.below hb hB.lt⟩
  · rw [upd_ne m v h6.symm, upd_ne m v h7.symm]
    exact h.ne
  · rw [upd_ne m v h6.symm, upd_ne m v h8.symm]
    exact h.o8
  · rw [upd_ne m v h7.symm, upd_ne m v h9.symm]
    exact h.o9
theorem OneJ.alloc6 (h : OneJ w4 T val z p r m W) (h6 : m 6 = none) (hv : val 6 = none) : OneJ w4 T val z p r (upd m 6 (.pointer (some ⟨W.heap.size, 0, none⟩))) (W.alloc (.cells z T)) := by
  have h8 := h.o8 h6
  have hb : Below W.heap.size W (W.alloc (.cells z T)) := (Below.refl _ _).alloc (Nat.le_refl _) _
  refine ⟨below_step h.bel hb, h.det.up (fun x hx => by rw [hv] at hx; cases hx), ?_, ?_, ?_, fun hh => by rw [upd_self] at hh; (cases hh), ?_⟩
  · rw [upd_self, upd_ne m _ (by decide), h8, if_pos rfl]
    intro u hu
    cases hu
    exact ⟨_, rfl, h.bel.size, Blk.new W T z⟩
  · rw [upd_ne m _ (by decide), upd_ne m _ (by decide)]
    intro u hu
    obtain ⟨g, e, hg, hB⟩ := h.x7 u hu
    exact ⟨g, e, hg, hB.alloc _⟩
  · rw [upd_self, upd_ne m _ (by decide)]
    intro u hu h7
    cases hu
    obtain ⟨g, e, hg, hB⟩ := h.x7 _ h7
    have := hB.lt
    injection e with e; injection e with e; injection e with e; omega
  · rw [upd_ne m _ (by decide), upd_ne m _ (by decide)]
    exact h.o9
theorem OneJ.alloc7 (h : OneJ w4 T val z p r m W) (h7 : m 7 = none) (hv : val 7 = none) : OneJ w4 T val z p r (upd m 7 (.pointer (some ⟨W.heap.size, 0, none⟩))) (W.alloc (.cells z T)) := by
  have h9 := h.o9 h7
  have hb : Below W.heap.size W (W.alloc (.cells z T)) := (Below.refl _ _).alloc (Nat.le_refl _) _
  refine ⟨below_step h.bel hb, h.det.up (fun x hx => by rw [hv] at hx; cases hx), ?_, ?_, ?_, ?_, fun hh => by rw [upd_self] at hh; (cases hh)⟩
  · rw [upd_ne m _ (by decide), upd_ne m _ (by decide)]
    intro u hu
    obtain ⟨g, e, hg, hB⟩ := h.x6 u hu
    exact ⟨g, e, hg, hB.alloc _⟩
  · rw [upd_self, upd_ne m _ (by decide), h9, if_pos rfl]
    intro u hu
    cases hu
    exact ⟨_, rfl, h.bel.size, Blk.new W T z⟩
  · rw [upd_self, upd_ne m _ (by decide)]
    intro u hu h7'
    cases h7'
    obtain ⟨g, e, hg, hB⟩ := h.x6 _ hu
    have := hB.lt
    injection e with e; injection e with e; injection e with e; omega
  · rw [upd_ne m _ (by decide), upd_ne m _ (by decide)]
    exact h.o8
theorem OneJ.store8 (h : OneJ w4 T val z p r m W) (hv : ∀ x, val 8 = some x → undef = x) {g : Nat} (h6 : m 6 = some (.pointer (some ⟨g, 0, none⟩))) (W' : World) (hW : W'.heap[g]? = some (.cells p T (0, 0))) (hg : W.grownBy W' (some g)) : OneJ w4 T val z p r (upd m 8 undef) W' := by
  obtain ⟨g', e, hg', hB⟩ := h.x6 _ h6
  simp at e
  subst e
  refine ⟨h.bel.grown hg (Below.size h.bel) (fun k hk => by cases hk; exact hg'), h.det.up hv, ?_, ?_, ?_, ?_, ?_⟩
  · rw [upd_ne m _ (by decide), upd_self, if_neg (by simp)]
    intro u hu
    rw [h6] at hu
    cases hu
    exact ⟨_, rfl, hg', hW⟩
  · rw [upd_ne m _ (by decide), upd_ne m _ (by decide)]
    intro u hu
    obtain ⟨g2, rfl, hg2, hB2⟩ := h.x7 u hu
    refine ⟨g2, rfl, hg2, hB2.grown hg (fun hne => ?_)⟩
    cases hne
    exact h.ne _ h6 hu
  · rw [upd_ne m _ (by decide), upd_ne m _ (by decide)]
    exact h.ne
  · rw [upd_ne m _ (by decide), h6]
    intro hh; cases hh
  · rw [upd_ne m _ (by decide), upd_ne m _ (by decide)]
    exact h.o9
theorem OneJ.store9 (h : OneJ w4 T val z p r m W) (hv : ∀ x, val 9 = some x → undef = x) {g : Nat} (h7 : m 7 = some (.pointer (some ⟨g, 0, none⟩))) (W' : World) (hW : W'.heap[g]? = some (.cells r T (0, 0))) (hg : W.grownBy W' (some g)) : OneJ w4 T val z p r (upd m 9 undef) W' := by
  obtain ⟨g', e, hg', hB⟩ := h.x7 _ h7
  simp at e
  subst e
  refine ⟨h.bel.grown hg (Below.size h.bel) (fun k hk => by cases hk; exact hg'), h.det.up hv, ?_, ?_, ?_, ?_, ?_⟩
  · rw [upd_ne m _ (by decide), upd_ne m _ (by decide)]
    intro u hu
    obtain ⟨g2, rfl, hg2, hB2⟩ := h.x6 u hu
    refine ⟨g2, rfl, hg2, hB2.grown hg (fun hne => ?_)⟩
    cases hne
    exact h.ne _ hu h7
  · rw [upd_ne m _ (by decide), upd_self, if_neg (by simp)]
    intro u hu
    rw [h7] at hu
    cases hu
    exact ⟨_, rfl, hg', hW⟩
  · rw [upd_ne m _ (by decide), upd_ne m _ (by decide)]
    exact h.ne
  · rw [upd_ne m _ (by decide), upd_ne m _ (by decide)]
    exact h.o8
  · rw [upd_ne m _ (by decide), h7]
    intro hh; cases hh
end
theorem four_sets (W : World) (g : Nat) (T : TypeId) (z0 z1 z2 z3 a b c d : Value) (h : Blk W g T #[z0, z1, z2, z3]) :
    Blk ((((W.setCell ⟨g, 0, none⟩ a).setCell ⟨g, 1, none⟩ b).setCell ⟨g, 2, none⟩ c).setCell ⟨g, 3, none⟩ d) g T #[a, b, c, d] ∧ W.grownBy ((((W.setCell ⟨g, 0, none⟩ a).setCell ⟨g, 1, none⟩ b).setCell ⟨g, 2, none⟩ c).setCell ⟨g, 3, none⟩ d) (some g) := by
  refine ⟨(((h.set_ 0 a).set_ 1 b).set_ 2 c).set_ 3 d, ⟨rfl, rfl, rfl, by simp, fun k hk hne => ?_⟩⟩
  have hkg : k ≠ g := fun e => hne (by rw [e])
  rw [Below.heap_setCell _ _ _ _ hkg, Below.heap_setCell _ _ _ _ hkg, Below.heap_setCell _ _ _ _ hkg, Below.heap_setCell _ _ _ _ hkg]

set_option maxRecDepth 100000 in
theorem fletchOne_any (s : Sm) (b : List UInt8) (A : Option Addr) (c : Nat) (at_ y : Int) (w : World) (hr : Reads w w.heap.size 1 A b.length (bts b)) (hc : b.length ≤ c) (hn : c ≤ 140737488351232)
    (ha : -9223372036854775808 ≤ at_ ∧ at_ ≤ 9223372036854775807) (hy : 0 ≤ y ∧ y < 4294967296) (hs : 0 ≤ s.a ∧ s.a < 18446744073709551616) : LawCalls Try.prog 4 #[s.val, .slice A b.length c, .int .i64 at_, .int .u32 y] w := by
  obtain ⟨sa, sb, sc, sd⟩ := s
  show Calls _ _ #[.agg #[.int .u64 sa, .int .u64 sb, .int .u64 sc, .int .u64 sd], _, _, _] _ _
  obtain ⟨i0, hi0', hz0, hz1, hz2⟩ := info_parts Try.infoU8
  obtain ⟨n, hnn⟩ : ∃ n : Nat, n = b.length / 4 := ⟨_, rfl⟩
  have hq : (b.length : Int) / 4 = (n : Int) := by omega
  have HN := Lib.hid hnn
  have hnb : 4 * n ≤ b.length := by omega
  have hbn : b.length ≤ 4 * n + 3 := by omega
  clear hnn
  by_cases h0 : n = 0
  · have hz : ((n : Int) == 0) = true := by simp [h0]
    go_enter Try.func4, Try.ntmps4
    go_wp2_with fail
    refine (alive4_any _).mono ?_
    rintro e w1 ⟨rfl, hb1⟩
    simp only []
    go_wp2_with fail
    go_ret
    exact ⟨rfl, ((Below.refl _ _).alloc (Nat.le_refl _) _).trans (hb1.mono (by simp))⟩
  by_cases hy0 : y = 0
  · subst hy0
    have hz : ((n : Int) == 0) = false := by simp [h0]
    go_enter Try.func4, Try.ntmps4
    go_wp2_with fail
    refine (alive4_any _).mono ?_
    rintro e w1 ⟨rfl, hb1⟩
    simp only []
    go_wp2_with fail
    go_ret
    exact ⟨rfl, ((Below.refl _ _).alloc (Nat.le_refl _) _).trans (hb1.mono (by simp))⟩
  obtain ⟨q, hqq, hqn⟩ := one_place at_ n (by omega) (by omega) ha
  have hz : ((n : Int) == 0) = false := by simp [h0]
  have hzy : (y == 0) = false := by simp [hy0]
  go_enter Try.func4, Try.ntmps4
  go_wp2_with fail
  refine (alive4_any _).mono ?_
  rintro e w1 ⟨rfl, hb1⟩
  simp only []
  have hk : Blk w1 w.heap.size 24 #[.int .u64 sa, .int .u64 sb, .int .u64 sc, .int .u64 sd] := (Blk.new w _ _).below hb1 (by simp)
  have hb : Below w.heap.size w w1 := ((Below.refl _ _).alloc (Nat.le_refl _) _).trans (hb1.mono (by simp))
  have hsz1 : w.heap.size + 1 ≤ w1.heap.size := by have := hb1.size; simpa using this
  clear hb1
  have hr1 := hr.below hb
  go_wp2_with (at_builtin; (refine wpList_append_any _ rfl (.tmp 32) (.tmp 33) _ rfl (w.heap.size + 1) 5 i0 _ 1 1 Try.underlying25 hi0' hz0 hz1 hz2 rfl (by omega) (.slice none 0 0) 0 [] rfl (World.ownsRow_nil _ _ _ _) w.heap.size A b.length c (bts b) rfl hr1 (bts_one _) (by unfold maxLen; omega) (by omega) hsz1 ?_); intro v1 w2 hown1 hg1 hat1)
  have hb2 := (Below.refl w1.heap.size w1).grown hg1 (Nat.le_refl _) (by simp [Value.ownBlock])
  simp only [Nat.zero_add, List.nil_append] at hown1
  rcases hown1.2 with ⟨_, h⟩ | ⟨g, cap, cur, rfl, hg, hcur, hle1, hle2, hcs, hcur2⟩
  · exact absurd h (by omega)
  have x0 := one_byte hown1 (i := 4 * q) (by omega)
  have x1 := one_byte hown1 (i := 4 * q + 1) (by omega)
  have x2 := one_byte hown1 (i := 4 * q + 2) (by omega)
  have x3 := one_byte hown1 (i := 4 * q + 3) (by omega)
  obtain ⟨y0, hx0, hf0, hy0', hy0'', e0⟩ := x0
  obtain ⟨y1, hx1, hf1, hy1', hy1'', e1⟩ := x1
  obtain ⟨y2, hx2, hf2, hy2', hy2'', e2⟩ := x2
  obtain ⟨y3, hx3, hf3, hy3', hy3'', e3⟩ := x3
  have hj0 : 4 * (q : Int) < (b.length : Int) := by omega
  have hj1 : 4 * (q : Int) + 1 < (b.length : Int) := by omega
  have hj2 : 4 * (q : Int) + 2 < (b.length : Int) := by omega
  have hj3 : 4 * (q : Int) + 3 < (b.length : Int) := by omega
  have HAT := Lib.hid hat1
  clear hcur hg1 hat1 hle1 hle2 hcs hcur2
  refine wp_loop_rounds 5 ?_
  iterate 4 (rw [rounds_succ]; go_wp2_with fail; go_region; go_wp2_with fail)
  rw [rounds_succ]
  go_wp2_with fail
  have hg2 : w1.heap.size ≤ g := by
    rcases HAT with e | e
    · simp [Value.ownBlock] at e
    · simp [Value.ownBlock] at e; omega
  obtain ⟨Y, rfl⟩ := Int.eq_ofNat_of_zero_le hy.1
  have hY : Y < 4294967296 := by omega
  have hY0 : Y ≠ 0 := by omega
  have hown4 := mix_own hown1 (q := q) (Y := Y) (by omega) hY e0.out e1.out e2.out e3.out
  have hb4 : Below w1.heap.size w1 ((((((((w2.setCell ⟨g, 4 * q, none⟩ (.int .u8 (bits .xor .u8 y0 ((Y : Int) / 16777216)))).setCell ⟨g, 4 * q + 1, none⟩ (.int .u8 (bits .xor .u8 y1 ((Y : Int) / 65536 % 256)))).setCell ⟨g, 4 * q + 2, none⟩ (.int .u8 (bits .xor .u8 y2 ((Y : Int) / 256 % 256)))).setCell ⟨g, 4 * q + 3, none⟩ (.int .u8 (bits .xor .u8 y3 ((Y : Int) % 256)))).drew).drew).drew).drew) := (((((((hb2.setCell (p := ⟨g, 4 * q, none⟩) hg2 _).setCell (p := ⟨g, 4 * q + 1, none⟩) hg2 _).setCell (p := ⟨g, 4 * q + 2, none⟩) hg2 _).setCell (p := ⟨g, 4 * q + 3, none⟩) hg2 _).drew).drew).drew).drew
  revert hown4 hb4
  generalize (((((((w2.setCell ⟨g, 4 * q, none⟩ (.int .u8 (bits .xor .u8 y0 ((Y : Int) / 16777216)))).setCell ⟨g, 4 * q + 1, none⟩ (.int .u8 (bits .xor .u8 y1 ((Y : Int) / 65536 % 256)))).setCell ⟨g, 4 * q + 2, none⟩ (.int .u8 (bits .xor .u8 y2 ((Y : Int) / 256 % 256)))).setCell ⟨g, 4 * q + 3, none⟩ (.int .u8 (bits .xor .u8 y3 ((Y : Int) % 256)))).drew).drew).drew).drew = w4
  intro hown4 hb4
  clear hx0 hx1 hx2 hx3 hf0 hf1 hf2 hf3 hown1 hb2 HAT
  obtain ⟨hcap, _, hm4⟩ := own_reads hown4
  have hr4 := hr1.below (hb4.mono (by omega))
  have hk4 := hk.below hb4 (by omega)
  have hsz4 := hb4.size
  have hbw : Below w.heap.size w w4 := hb.trans (hb4.mono (by omega))
  obtain ⟨d0, d1, d2, d3, f0', f1', f2', f3'⟩ := blk4 hk4
  clear f0' f1' f2' f3'
  have hml : Hid (b.length = (mix b q Y).length) := (mix_length b q Y).symm
  have hlaw := Lib.hid (one_law ⟨sa, sb, sc, sd⟩ b q Y hs (by omega) hY hY0)
  have hS := Lib.hid (fun (W' : World) (hB : Below w4.heap.size w4 W') => (⟨(hB.cell (p := ⟨w.heap.size, 0, none⟩) (by simp; omega)).trans d0, (hB.cell (p := ⟨w.heap.size, 1, none⟩) (by simp; omega)).trans d1, (hB.cell (p := ⟨w.heap.size, 2, none⟩) (by simp; omega)).trans d2, (hB.cell (p := ⟨w.heap.size, 3, none⟩) (by simp; omega)).trans d3, hB⟩ :
    W'.cell? ⟨w.heap.size, 0, none⟩ = some (.int .u64 sa) ∧ W'.cell? ⟨w.heap.size, 1, none⟩ = some (.int .u64 sb) ∧ W'.cell? ⟨w.heap.size, 2, none⟩ = some (.int .u64 sc) ∧ W'.cell? ⟨w.heap.size, 3, none⟩ = some (.int .u64 sd) ∧ Below w4.heap.size w4 W'))
  have hS0 := (Below.refl w4.heap.size w4).drew
  clear hr hr1 hk hb hb4 hk4 e0 e1 e2 e3 hown4
  obtain ⟨⟨pa, pb, pc, pd⟩, hr1'⟩ : ∃ r, feedL ⟨sa, sb, sc, sd⟩ (words b) = r := ⟨_, rfl⟩
  obtain ⟨⟨ra, rb, rc, rd⟩, hr2'⟩ : ∃ r, feedL ⟨sa, sb, sc, sd⟩ (words (mix b q Y)) = r := ⟨_, rfl⟩
  have HR1 := Lib.hid hr1'
  have HR2 := Lib.hid hr2'
  have hbl : b.length ≤ 140737488351232 := by omega
  have hww : w.heap.size < w4.heap.size := by omega
  clear hr1' hr2' hq hqq hj0 hj1 hj2 hj3 hz hzy hY hY0 hy hy0 hn ha hnb hbn hqn hy0' hy1' hy2' hy3' hy0'' hy1'' hy2'' hy3'' h0 hsz1 hsz4 hg hg2 hs HN hi0' hz0 hz1 hz2
  obtain ⟨val, hval⟩ : ∃ val : Nat → Option Value, val = fun i => [some (.agg #[.int .u64 sa, .int .u64 sb, .int .u64 sc, .int .u64 sd]), some (.slice A b.length c), some (.agg #[.int .u64 pa, .int .u64 pb, .int .u64 pc, .int .u64 pd]), some (.agg #[.int .u64 sa, .int .u64 sb, .int .u64 sc, .int .u64 sd]), some (.slice (some ⟨g, 0, none⟩) b.length cap), some (.agg #[.int .u64 ra, .int .u64 rb, .int .u64 rc, .int .u64 rd]), none, none, some undef, some undef][i]?.join := ⟨_, rfl⟩
  have v0 : val 0 = some (.agg #[.int .u64 sa, .int .u64 sb, .int .u64 sc, .int .u64 sd]) := by rw [hval]; rfl
  have v1 : val 1 = some (.slice A b.length c) := by rw [hval]; rfl
  have v2 : val 2 = some (.agg #[.int .u64 pa, .int .u64 pb, .int .u64 pc, .int .u64 pd]) := by rw [hval]; rfl
  have v3 : val 3 = some (.agg #[.int .u64 sa, .int .u64 sb, .int .u64 sc, .int .u64 sd]) := by rw [hval]; rfl
  have v4 : val 4 = some (.slice (some ⟨g, 0, none⟩) b.length cap) := by rw [hval]; rfl
  have v5 : val 5 = some (.agg #[.int .u64 ra, .int .u64 rb, .int .u64 rc, .int .u64 rd]) := by rw [hval]; rfl
  have v6 : val 6 = none := by rw [hval]; rfl
  have v7 : val 7 = none := by rw [hval]; rfl
  have v8 : val 8 = some undef := by rw [hval]; rfl
  have v9 : val 9 = some undef := by rw [hval]; rfl
  clear hval
  refine wp_region_inv (by kernel_rfl) (by kernel_rfl) (OneJ w4 24 val #[.int .u64 0, .int .u64 0, .int .u64 0, .int .u64 0] #[.int .u64 pa, .int .u64 pb, .int .u64 pc, .int .u64 pd] #[.int .u64 ra, .int .u64 rb, .int .u64 rc, .int .u64 rd]) OneJ.start ?_ ?_
  · intro i o ho m W hJ hmi hdeps AA KK hA hK
    rcases i with _ | _ | _ | _ | _ | _ | _ | _ | _ | _ | i
    · injection ho with ho
      subst ho
      clear hdeps
      have e4 : AA.tmps[4]?.getD undef = .pointer (some ⟨w.heap.size, 0, none⟩) := by rw [hA]; exact tmps_free (by kernel_rfl)
      clear hA
      obtain ⟨c0, c1, c2, c3, _⟩ := hS.out W hJ.bel
      have hK0 : KK (AA.put (some 59) _) _ := hK _ _ (hJ.step (Below.refl _ _) (by decide) (by decide) (by decide) (by decide) (fun x hx => by rw [v0] at hx; exact Option.some.inj hx))
      clear hK v0 v1 v2 v3 v4 v5 v6 v7 v8 v9
      go_simp
      exact hK0
    · injection ho with ho
      subst ho
      clear hdeps
      have e4 : AA.tmps[1]?.getD undef = .slice A b.length c := by rw [hA]; exact tmps_free (by kernel_rfl)
      clear hA
      have hK0 : KK (AA.put (some 60) _) _ := hK _ _ (hJ.step (Below.refl _ _) (by decide) (by decide) (by decide) (by decide) (fun x hx => by rw [v1] at hx; exact Option.some.inj hx))
      clear hK v0 v1 v2 v3 v4 v5 v6 v7 v8 v9
      go_simp
      exact hK0
    · injection ho with ho
      subst ho
      have hm0 := hJ.det.get v0 (hdeps ⟨0, .data⟩ (by simp) rfl)
      have hm1 := hJ.det.get v1 (hdeps ⟨1, .data⟩ (by simp) rfl)
      have e0 : AA.tmps[59]?.getD undef = .agg #[.int .u64 sa, .int .u64 sb, .int .u64 sc, .int .u64 sd] := by rw [hA]; exact tmps_own (by kernel_rfl) hm0 (of_decide_eq_true (by kernel_rfl))
      have e1 : AA.tmps[60]?.getD undef = .slice A b.length c := by rw [hA]; exact tmps_own (by kernel_rfl) hm1 (of_decide_eq_true (by kernel_rfl))
      clear hA hdeps hm0 hm1
      have hb0 := hJ.bel
      have hKK := Lib.hid hK
      have HV := Lib.hid v2
      clear hK v0 v1 v2 v3 v4 v5 v6 v7 v8 v9
      go_simp
      refine (feed_n ⟨sa, sb, sc, sd⟩ b b.length rfl A c _ w.heap.size (hr4.below (hb0.mono (by omega))) (Nat.le_trans (by omega) hb0.size) hc hbl).mono ?_
      rintro e w5 ⟨he, hbn⟩
      rw [HR1.out] at he
      subst he
      exact hKK.out _ _ (hJ.step hbn (by decide) (by decide) (by decide) (by decide) (fun x hx => by rw [HV.out] at hx; exact Option.some.inj hx))
    · injection ho with ho
      subst ho
      clear hdeps
      have e4 : AA.tmps[4]?.getD undef = .pointer (some ⟨w.heap.size, 0, none⟩) := by rw [hA]; exact tmps_free (by kernel_rfl)
      clear hA
      obtain ⟨c0, c1, c2, c3, _⟩ := hS.out W hJ.bel
      have hK0 : KK (AA.put (some 62) _) _ := hK _ _ (hJ.step (Below.refl _ _) (by decide) (by decide) (by decide) (by decide) (fun x hx => by rw [v3] at hx; exact Option.some.inj hx))
      clear hK v0 v1 v2 v3 v4 v5 v6 v7 v8 v9
      go_simp
      exact hK0
    · injection ho with ho
      subst ho
      clear hdeps
      have e4 : AA.tmps[10]?.getD undef = .slice (some ⟨g, 0, none⟩) b.length cap := by rw [hA]; exact tmps_free (by kernel_rfl)
      clear hA
      have hK0 : KK (AA.put (some 63) _) _ := hK _ _ (hJ.step (Below.refl _ _) (by decide) (by decide) (by decide) (by decide) (fun x hx => by rw [v4] at hx; exact Option.some.inj hx))
      clear hK v0 v1 v2 v3 v4 v5 v6 v7 v8 v9
      go_simp
      exact hK0
    · injection ho with ho
      subst ho
      have hm3 := hJ.det.get v3 (hdeps ⟨3, .data⟩ (by simp) rfl)
      have hm4 := hJ.det.get v4 (hdeps ⟨4, .data⟩ (by simp) rfl)
      have e0 : AA.tmps[62]?.getD undef = .agg #[.int .u64 sa, .int .u64 sb, .int .u64 sc, .int .u64 sd] := by rw [hA]; exact tmps_own (by kernel_rfl) hm3 (of_decide_eq_true (by kernel_rfl))
      have e1 : AA.tmps[63]?.getD undef = .slice (some ⟨g, 0, none⟩) b.length cap := by rw [hA]; exact tmps_own (by kernel_rfl) hm4 (of_decide_eq_true (by kernel_rfl))
      clear hA hdeps hm3 hm4
      have hb0 := hJ.bel
      have hKK := Lib.hid hK
      have HV := Lib.hid v5
      clear hK v0 v1 v2 v3 v4 v5 v6 v7 v8 v9
      go_simp
      refine (feed_n ⟨sa, sb, sc, sd⟩ (mix b q Y) b.length hml.out (some ⟨g, 0, none⟩) cap _ w4.heap.size (hm4.below hb0) hb0.size hcap hbl).mono ?_
      rintro e w5 ⟨he, hbn⟩
      rw [HR2.out] at he
      subst he
      exact hKK.out _ _ (hJ.step hbn (by decide) (by decide) (by decide) (by decide) (fun x hx => by rw [HV.out] at hx; exact Option.some.inj hx))
    · injection ho with ho
      subst ho
      clear hdeps hA
      have hK0 : KK (AA.put (some 12) _) _ := hK _ _ (hJ.alloc6 hmi v6)
      clear hK v0 v1 v2 v3 v4 v5 v6 v7 v8 v9
      go_simp
      exact hK0
    · injection ho with ho
      subst ho
      clear hdeps hA
      have hK0 : KK (AA.put (some 13) _) _ := hK _ _ (hJ.alloc7 hmi v7)
      clear hK v0 v1 v2 v3 v4 v5 v6 v7 v8 v9
      go_simp
      exact hK0
    · injection ho with ho
      subst ho
      have hma := hdeps ⟨6, .data⟩ (by simp) rfl
      have hmv := hJ.det.get v2 (hdeps ⟨2, .data⟩ (by simp) rfl)
      obtain ⟨va, hva⟩ := Option.isSome_iff_exists.1 hma
      obtain ⟨ga, rfl, hga, hBa⟩ := hJ.x6 va hva
      rw [hmi, if_pos rfl] at hBa
      have e0 : AA.tmps[12]?.getD undef = .pointer (some ⟨ga, 0, none⟩) := by rw [hA]; exact tmps_own (by kernel_rfl) hva (of_decide_eq_true (by kernel_rfl))
      have e1 : AA.tmps[61]?.getD undef = .agg #[.int .u64 pa, .int .u64 pb, .int .u64 pc, .int .u64 pd] := by rw [hA]; exact tmps_own (by kernel_rfl) hmv (of_decide_eq_true (by kernel_rfl))
      obtain ⟨c0, c1, c2, c3, f0, f1, f2, f3⟩ := blk4 hBa
      have h4 := four_sets W ga _ _ _ _ _ (.int .u64 pa) (.int .u64 pb) (.int .u64 pc) (.int .u64 pd) hBa
      have hK0 : KK (AA.put none _) _ := hK _ _ (hJ.store8 (fun x hx => by rw [v8] at hx; exact Option.some.inj hx) hva _ h4.1 h4.2)
      clear hA hdeps hma hmv hva hK v0 v1 v2 v3 v4 v5 v6 v7 v8 v9 h4 hBa
      go_simp
      exact hK0
    · injection ho with ho
      subst ho
      have hma := hdeps ⟨7, .data⟩ (by simp) rfl
      have hmv := hJ.det.get v5 (hdeps ⟨5, .data⟩ (by simp) rfl)
      obtain ⟨va, hva⟩ := Option.isSome_iff_exists.1 hma
      obtain ⟨ga, rfl, hga, hBa⟩ := hJ.x7 va hva
      rw [hmi, if_pos rfl] at hBa
      have e0 : AA.tmps[13]?.getD undef = .pointer (some ⟨ga, 0, none⟩) := by rw [hA]; exact tmps_own (by kernel_rfl) hva (of_decide_eq_true (by kernel_rfl))
      have e1 : AA.tmps[64]?.getD undef = .agg #[.int .u64 ra, .int .u64 rb, .int .u64 rc, .int .u64 rd] := by rw [hA]; exact tmps_own (by kernel_rfl) hmv (of_decide_eq_true (by kernel_rfl))
      obtain ⟨c0, c1, c2, c3, f0, f1, f2, f3⟩ := blk4 hBa
      have h4 := four_sets W ga _ _ _ _ _ (.int .u64 ra) (.int .u64 rb) (.int .u64 rc) (.int .u64 rd) hBa
      have hK0 : KK (AA.put none _) _ := hK _ _ (hJ.store9 (fun x hx => by rw [v9] at hx; exact Option.some.inj hx) hva _ h4.1 h4.2)
      clear hA hdeps hma hmv hva hK v0 v1 v2 v3 v4 v5 v6 v7 v8 v9 h4 hBa
      go_simp
      exact hK0
    · simp at ho
  · intro m W hJ hall
    obtain ⟨v6', h6⟩ := Option.isSome_iff_exists.1 (hall 6 (by simp))
    obtain ⟨v7', h7⟩ := Option.isSome_iff_exists.1 (hall 7 (by simp))
    obtain ⟨g1, rfl, _, hB1⟩ := hJ.x6 _ h6
    obtain ⟨g2, rfl, _, hB2⟩ := hJ.x7 _ h7
    rw [hJ.det.get v8 (hall 8 (by simp)), if_neg (by simp)] at hB1
    rw [hJ.det.get v9 (hall 9 (by simp)), if_neg (by simp)] at hB2
    rw [frameM_all (by kernel_rfl) [.agg #[.int .u64 sa, .int .u64 sb, .int .u64 sc, .int .u64 sd], .slice A b.length c, .agg #[.int .u64 pa, .int .u64 pb, .int .u64 pc, .int .u64 pd], .agg #[.int .u64 sa, .int .u64 sb, .int .u64 sc, .int .u64 sd],
      .slice (some ⟨g, 0, none⟩) b.length cap, .agg #[.int .u64 ra, .int .u64 rb, .int .u64 rc, .int .u64 rd], .pointer (some ⟨g1, 0, none⟩), .pointer (some ⟨g2, 0, none⟩), undef, undef] rfl (fun i hi => by
        rcases i with _ | _ | _ | _ | _ | _ | _ | _ | _ | _ | i
        · exact hJ.det.get v0 (hall 0 (by simp))
        · exact hJ.det.get v1 (hall 1 (by simp))
        · exact hJ.det.get v2 (hall 2 (by simp))
        · exact hJ.det.get v3 (hall 3 (by simp))
        · exact hJ.det.get v4 (hall 4 (by simp))
        · exact hJ.det.get v5 (hall 5 (by simp))
        · exact h6
        · exact h7
        · exact hJ.det.get v8 (hall 8 (by simp))
        · exact hJ.det.get v9 (hall 9 (by simp))
        · simp at hi; omega)]
    have hbx := hJ.bel
    clear hJ hall h6 h7 v0 v1 v2 v3 v4 v5 v6 v7 v8 v9
    obtain ⟨p0, p1, p2, p3, _, _, _, _⟩ := blk4 hB1
    obtain ⟨q0, q1, q2, q3, _, _, _, _⟩ := blk4 hB2
    have hne : (pa == ra) = false := by have := hlaw.out; rw [HR1.out, HR2.out] at this; simpa using this
    have hne2 : (pa != ra) = true := by simp at hne ⊢; exact hne
    have hne3 : ¬ pa = ra := by simpa using hne
    clear hB1 hB2 hS hS0 hc hr4 hm4 d0 d1 d2 d3 hml hlaw HR1 HR2
    simp only [putAll, Act.put, List.setIfInBounds_toArray, List.set_cons_succ, List.set_cons_zero]
    repeat go_step
    go_ret
    exact ⟨rfl, hbw.trans (hbx.mono hbw.size)⟩

theorem fletchOne_core (H : Type) (enc : TypeId × Value → H) (W : World) (args : Array Value) (ds : List (DataW H)) (h : ArgsIn enc Try.prog W [24, 25, 3, 29] args.toList ds) :
    LawCalls Try.prog 4 args W := by
  obtain ⟨v0, v1, v2, v3, d0, d1, d2, d3, rfl, rfl, h0, h1, h2, h3⟩ := argsIn4 h
  obtain ⟨s, rfl, hs⟩ := h0.sum Try.underlying24 ⟨rfl, rfl, rfl, rfl⟩ Try.underlying22 (by kernel_rfl) (by kernel_rfl)
  obtain ⟨A, b, c, rfl, hc, hc2, hr, _⟩ := h1.bytes Try.underlying25 Try.underlying5 (by kernel_rfl) (by kernel_rfl)
  obtain ⟨at_, rfl, wa⟩ := h2.int Try.underlying3
  obtain ⟨y, rfl, wy⟩ := h3.int Try.underlying29
  refine fletchOne_any s b A c at_ y W hr hc hc2 ?_ ?_ hs.a
  · simp [Lit.wf, IntKind.min, IntKind.max, IntKind.signed, IntKind.bits] at wa
    omega
  · simp [Lit.wf, IntKind.min, IntKind.max, IntKind.signed, IntKind.bits] at wy
    omega

theorem fletchOne_spec {H : Type} {enc : TypeId × Value → H} (vs : List Value) (ds : List (DataW H)) (W : World) (p : List MemPlace) (h : DataW.TrodAll enc Try.prog W 0 (fun _ => true) true [24, 25, 3, 29] vs ds p) :
    (Rows.fletchOneSpec.fn H ds).results = [.lit (.bool true)] ∧ (Rows.fletchOneSpec.fn H ds).args = ds ∧ (Rows.fletchOneSpec.fn H ds).vars = [] := by
  obtain ⟨_, _, d0, ds0, _, _, rfl, rfl, _, _, r0⟩ := trodAll_cons h
  obtain ⟨_, _, d1, ds1, _, _, rfl, rfl, _, _, r1⟩ := trodAll_cons r0
  obtain ⟨_, _, d2, ds2, _, _, rfl, rfl, _, _, r2⟩ := trodAll_cons r1
  obtain ⟨_, _, d3, ds3, _, _, rfl, rfl, _, _, r3⟩ := trodAll_cons r2
  obtain ⟨rfl, rfl, rfl⟩ := trodAll_nil r3
  exact ⟨rfl, rfl, rfl⟩

set_option maxRecDepth 100000 in
theorem fletchOne_lifted (os : Os) (started : os.Started) (H : Type) (enc : TypeId × Value → H) :
    ReturnsInHanded {} Try.checked os 4 .any (Rows.fletchOneSpec.pre6 enc Try.prog Try.f4 Rows.fletchOneRow.domain false) (Rows.fletchOneSpec.post enc Try.prog Try.f4 false true false false) := by
  refine returnsInHanded_of_change_sized (C := Try.checked) Try.own started (by kernel_rfl) Try.func4
    (ChangeSpec.witness6 (enc := enc) (C := Try.checked) false ⟨#[], #[.agg #[.int .u64 0, .int .u64 0, .int .u64 0, .int .u64 0], .slice none 0 0, .int .i64 0, .int .u32 0], []⟩ 8 (by kernel_rfl) (by kernel_rfl) (by kernel_rfl) (by kernel_rfl)) ?_
  intro W base args ds gs before hval hW _ hsz _
  exact law_contract Try.laidOut Try.underlying4 (ps := [24, 25, 3, 29]) rfl rfl rfl (by kernel_rfl) fletchOne_spec W base args ds gs before hval hW hsz (fun h _ => fletchOne_core H enc W args ds h)

theorem fletchOne_holds : Rows.FletchOneSaid :=
  OpenClaim.holds_of_wide 4 Try.f4 rfl rfl rfl rfl rfl rfl rfl ⟨rfl, rfl, rfl, rfl, rfl⟩ rfl rfl rfl rfl rfl (by kernel_rfl) Try.func4 (by kernel_rfl)
    (of_decide_eq_true (by kernel_rfl)) (by unfold Func.isWrapper; first | (rw [if_pos (by decide +kernel)]; kernel_rfl) | (rw [if_neg (by decide +kernel)]; exact ⟨rfl, rfl⟩))
    (fun os started H enc _ => fletchOne_lifted os started H enc)

end Go.Proofs.Ytcchnoadclidcaa
