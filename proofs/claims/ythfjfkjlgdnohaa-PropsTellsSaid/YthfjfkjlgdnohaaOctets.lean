/-
  fletch.Octets, by its contract.
-/
import Derived.Test.YthfjfkjlgdnohaaPiece
import Derived.Test.YthfjfkjlgdnohaaSm
namespace Go.Proofs.Ythfjfkjlgdnohaa
open Go.RowKit

/-- the octets of four numbers -/
def octL (sa sb sc sd : Int) : List UInt8 := putL (IntKind.i64.wrap sa) 8 ++ (putL (IntKind.i64.wrap sb) 8 ++ (putL (IntKind.i64.wrap sc) 8 ++ putL (IntKind.i64.wrap sd) 8))
theorem octL_length (sa sb sc sd : Int) : (octL sa sb sc sd).length = 32 := by simp [octL, putL_length]
def Four (B0 : Nat) (sa sb sc sd : Int) (v : Value) (W : World) : Prop := ∃ g y0 y1 y2 y3, v = .slice (some ⟨g, 0, none⟩) 4 4 ∧ Blk W g 28 #[y0, y1, y2, y3] ∧
  W.ownsRow B0 5 1 y0 8 (bts (putL (IntKind.i64.wrap sa) 8)) ∧ W.ownsRow B0 5 1 y1 8 (bts (putL (IntKind.i64.wrap sb) 8)) ∧ W.ownsRow B0 5 1 y2 8 (bts (putL (IntKind.i64.wrap sc) 8)) ∧ W.ownsRow B0 5 1 y3 8 (bts (putL (IntKind.i64.wrap sd) 8))
theorem Four.stays (B0 : Nat) (sa sb sc sd : Int) : Stays (Four B0 sa sb sc sd) := by
  intro v W W' h hb
  obtain ⟨g, y0, y1, y2, y3, h1, h2, h3, h4, h5, h6⟩ := h
  exact ⟨g, y0, y1, y2, y3, h1, h2.below hb h2.lt, own_below h3 hb, own_below h4 hb, own_below h5 hb, own_below h6 hb⟩
theorem four_new {W : World} {B0 : Nat} {sa sb sc sd : Int} {y0 y1 y2 y3 : Value} (h0 : W.ownsRow B0 5 1 y0 8 (bts (putL (IntKind.i64.wrap sa) 8))) (h1 : W.ownsRow B0 5 1 y1 8 (bts (putL (IntKind.i64.wrap sb) 8)))
    (h2 : W.ownsRow B0 5 1 y2 8 (bts (putL (IntKind.i64.wrap sc) 8))) (h3 : W.ownsRow B0 5 1 y3 8 (bts (putL (IntKind.i64.wrap sd) 8))) :
    Four B0 sa sb sc sd (.slice (some ⟨W.heap.size, 0, none⟩) 4 4) (W.alloc (.cells #[y0, y1, y2, y3] 28)) := by
  have hb : Below W.heap.size W (W.alloc (.cells #[y0, y1, y2, y3] 28)) := (Below.refl _ _).alloc (Nat.le_refl _) _
  exact ⟨_, y0, y1, y2, y3, rfl, Blk.new _ _ _, own_below h0 hb, own_below h1 hb, own_below h2 hb, own_below h3 hb⟩
theorem own_piece {W : World} {B0 : Nat} {y : Value} {l : List UInt8} {n : Nat} (h : W.ownsRow B0 5 1 y n (bts l)) (hl : l.length = n) : ∃ p : Piece, p.val = y ∧ p.ok W W.heap.size ∧ p.b = l := by
  subst hl
  obtain ⟨A, c, rfl, _, _, hr⟩ := own_form h
  exact ⟨⟨A, c, l⟩, rfl, hr, rfl⟩
theorem join_four {W : World} {g B0 : Nat} {sa sb sc sd : Int} {y0 y1 y2 y3 : Value} (hb : Blk W g 28 #[y0, y1, y2, y3]) (h0 : W.ownsRow B0 5 1 y0 8 (bts (putL (IntKind.i64.wrap sa) 8))) (h1 : W.ownsRow B0 5 1 y1 8 (bts (putL (IntKind.i64.wrap sb) 8)))
    (h2 : W.ownsRow B0 5 1 y2 8 (bts (putL (IntKind.i64.wrap sc) 8))) (h3 : W.ownsRow B0 5 1 y3 8 (bts (putL (IntKind.i64.wrap sd) 8))) :
    Calls Try.prog 53 #[.slice (some ⟨g, 0, none⟩) 4 4] W fun e w' => ∃ v, e = .returned v ∧ w'.ownsRow W.heap.size 5 1 v 32 (bts (octL sa sb sc sd)) ∧ Below W.heap.size W w' := by
  obtain ⟨p0, rfl, k0, e0⟩ := own_piece h0 (putL_length _ _)
  obtain ⟨p1, rfl, k1, e1⟩ := own_piece h1 (putL_length _ _)
  obtain ⟨p2, rfl, k2, e2⟩ := own_piece h2 (putL_length _ _)
  obtain ⟨p3, rfl, k3, e3⟩ := own_piece h3 (putL_length _ _)
  have hr : Reads W W.heap.size 1 (some ⟨g, 0, none⟩) 4 ([p0, p1, p2, p3].map Piece.val) := (Reads.of_blk hb _ (by simp) (fun j u hu => by simpa using hu)).more (by have := hb.lt; omega)
  have hc : catL [p0, p1, p2, p3] = octL sa sb sc sd := by simp [catL, octL, e0, e1, e2, e3]
  have hs : sumL [p0, p1, p2, p3] = 32 := by rw [← catL_length, hc, octL_length]
  rw [← hc]
  exact join_any [p0, p1, p2, p3] 4 rfl _ _ W W.heap.size hr (by simp [k0, k1, k2, k3]) (Nat.le_refl _) 32 hs.symm (by omega) (by omega)

set_option maxRecDepth 100000 in
set_option maxHeartbeats 1000000 in
theorem octets_any (s : Sm) (w0 : World) :
    Calls Try.prog 89 #[s.val] w0 fun e w' => ∃ v, e = .returned v ∧ w'.ownsRow w0.heap.size 5 1 v 32 (bts (octL s.a s.b s.c s.d)) ∧ Below w0.heap.size w0 w' := by
  obtain ⟨sa, sb, sc, sd⟩ := s
  show Calls _ _ #[.agg #[.int .u64 sa, .int .u64 sb, .int .u64 sc, .int .u64 sd]] _ _
  go_enter Try.func89, Try.ntmps89
  go_wp2_with fail
  have hk := Blk.new w0 25 #[.int .u64 sa, .int .u64 sb, .int .u64 sc, .int .u64 sd]
  have hbel := (Below.refl w0.heap.size w0).alloc (Nat.le_refl _) (.cells #[.int .u64 sa, .int .u64 sb, .int .u64 sc, .int .u64 sd] 25)
  generalize w0.alloc (.cells #[.int .u64 sa, .int .u64 sb, .int .u64 sc, .int .u64 sd] 25) = w1 at hk hbel ⊢
  have hB0 : w0.heap.size ≤ w1.heap.size := hbel.size
  have hS := Lib.hid (fun (W' : World) (hB : Below w1.heap.size w1 W') => (by obtain ⟨d0, d1, d2, d3, _⟩ := blk4 (hk.below hB hk.lt); exact ⟨d0, d1, d2, d3⟩ :
    W'.cell? ⟨w0.heap.size, 0, none⟩ = some (.int .u64 sa) ∧ W'.cell? ⟨w0.heap.size, 1, none⟩ = some (.int .u64 sb) ∧ W'.cell? ⟨w0.heap.size, 2, none⟩ = some (.int .u64 sc) ∧ W'.cell? ⟨w0.heap.size, 3, none⟩ = some (.int .u64 sd)))
  clear hk
  refine wp_region_good (by kernel_rfl) (by kernel_rfl) [(fun v _ => v = .pointer (some ⟨w0.heap.size, 0, none⟩)),
    (fun v _ => v = .int .u64 sa),
    (fun v _ => v = .int .i64 (IntKind.i64.wrap sa)),
    (fun v W => W.ownsRow w0.heap.size 5 1 v 8 (bts (putL (IntKind.i64.wrap sa) 8))),
    (fun v _ => v = .pointer (some ⟨w0.heap.size, 1, none⟩)),
    (fun v _ => v = .int .u64 sb),
    (fun v _ => v = .int .i64 (IntKind.i64.wrap sb)),
    (fun v W => W.ownsRow w0.heap.size 5 1 v 8 (bts (putL (IntKind.i64.wrap sb) 8))),
    (fun v _ => v = .pointer (some ⟨w0.heap.size, 2, none⟩)),
    (fun v _ => v = .int .u64 sc),
    (fun v _ => v = .int .i64 (IntKind.i64.wrap sc)),
    (fun v W => W.ownsRow w0.heap.size 5 1 v 8 (bts (putL (IntKind.i64.wrap sc) 8))),
    (fun v _ => v = .pointer (some ⟨w0.heap.size, 3, none⟩)),
    (fun v _ => v = .int .u64 sd),
    (fun v _ => v = .int .i64 (IntKind.i64.wrap sd)),
    (fun v W => W.ownsRow w0.heap.size 5 1 v 8 (bts (putL (IntKind.i64.wrap sd) 8))),
    (fun v W => Four w0.heap.size sa sb sc sd v W),
    (fun v W => W.ownsRow w0.heap.size 5 1 v 32 (bts (octL sa sb sc sd))),
    (fun v W => W.ownsRow w0.heap.size 5 1 v 32 (bts (octL sa sb sc sd)))] ?_ ?_ ?_
  · repeat' (first | exact stays_nil | refine stays_cons ?_ ?_ | exact Stays.pure | exact Stays.own _ _ _ _ _ | exact Four.stays _ _ _ _ _)
  · intro i o ho m W hb0 hdeps AA KK hA hK
    rcases i with _ | _ | _ | _ | _ | _ | _ | _ | _ | _ | _ | _ | _ | _ | _ | _ | _ | _ | _ | i
    · injection ho with ho
      subst ho
      have ef1 : AA.tmps[1]?.getD undef = .pointer (some ⟨w0.heap.size, 0, none⟩) := by rw [hA]; exact tmps_free (by kernel_rfl)
      clear hA hdeps
      have hK0 : KK (AA.put (some 3) _) _ := hK (.pointer (some ⟨w0.heap.size, 0, none⟩)) _ (Below.refl _ _) (Eq.refl _)
      clear hK
      go_simp
      exact hK0
    · injection ho with ho
      subst ho
      obtain ⟨x0, hx0, hg0⟩ := hdeps ⟨0, .data⟩ (by simp) rfl
      have hg0 : x0 = .pointer (some ⟨w0.heap.size, 0, none⟩) := hg0
      subst hg0
      have e0 : AA.tmps[3]?.getD undef = .pointer (some ⟨w0.heap.size, 0, none⟩) := by rw [hA]; exact tmps_own (by kernel_rfl) hx0 (of_decide_eq_true (by kernel_rfl))
      clear hA hdeps hx0
      obtain ⟨c0, c1, c2, c3⟩ := hS.out W hb0
      have hK0 : KK (AA.put (some 4) _) _ := hK (.int .u64 sa) _ (Below.refl _ _) (Eq.refl _)
      clear hK
      go_simp
      exact hK0
    · injection ho with ho
      subst ho
      obtain ⟨x1, hx1, hg1⟩ := hdeps ⟨1, .data⟩ (by simp) rfl
      have hg1 : x1 = .int .u64 sa := hg1
      subst hg1
      have e1 : AA.tmps[4]?.getD undef = .int .u64 sa := by rw [hA]; exact tmps_own (by kernel_rfl) hx1 (of_decide_eq_true (by kernel_rfl))
      clear hA hdeps hx1
      have hK0 : KK (AA.put (some 5) _) _ := hK (.int .i64 (IntKind.i64.wrap sa)) _ (Below.refl _ _) (Eq.refl _)
      clear hK
      go_simp
      exact hK0
    · injection ho with ho
      subst ho
      obtain ⟨x2, hx2, hg2⟩ := hdeps ⟨2, .data⟩ (by simp) rfl
      have hg2 : x2 = .int .i64 (IntKind.i64.wrap sa) := hg2
      subst hg2
      have e2 : AA.tmps[5]?.getD undef = .int .i64 (IntKind.i64.wrap sa) := by rw [hA]; exact tmps_own (by kernel_rfl) hx2 (of_decide_eq_true (by kernel_rfl))
      clear hA hdeps hx2
      have hKK := Lib.hid hK
      clear hK
      go_simp
      refine (put_any (IntKind.i64.wrap sa) 8 8 (by decide) _).mono ?_
      rintro e w5 ⟨v, rfl, hown, hbn⟩
      exact hKK.out _ _ hbn (own_mono hown (Nat.le_trans hB0 hb0.size))
    · injection ho with ho
      subst ho
      have ef1 : AA.tmps[1]?.getD undef = .pointer (some ⟨w0.heap.size, 0, none⟩) := by rw [hA]; exact tmps_free (by kernel_rfl)
      clear hA hdeps
      have hK0 : KK (AA.put (some 7) _) _ := hK (.pointer (some ⟨w0.heap.size, 1, none⟩)) _ (Below.refl _ _) (Eq.refl _)
      clear hK
      go_simp
      exact hK0
    · injection ho with ho
      subst ho
      obtain ⟨x4, hx4, hg4⟩ := hdeps ⟨4, .data⟩ (by simp) rfl
      have hg4 : x4 = .pointer (some ⟨w0.heap.size, 1, none⟩) := hg4
      subst hg4
      have e4 : AA.tmps[7]?.getD undef = .pointer (some ⟨w0.heap.size, 1, none⟩) := by rw [hA]; exact tmps_own (by kernel_rfl) hx4 (of_decide_eq_true (by kernel_rfl))
      clear hA hdeps hx4
      obtain ⟨c0, c1, c2, c3⟩ := hS.out W hb0
      have hK0 : KK (AA.put (some 8) _) _ := hK (.int .u64 sb) _ (Below.refl _ _) (Eq.refl _)
      clear hK
      go_simp
      exact hK0
    · injection ho with ho
      subst ho
      obtain ⟨x5, hx5, hg5⟩ := hdeps ⟨5, .data⟩ (by simp) rfl
      have hg5 : x5 = .int .u64 sb := hg5
      subst hg5
      have e5 : AA.tmps[8]?.getD undef = .int .u64 sb := by rw [hA]; exact tmps_own (by kernel_rfl) hx5 (of_decide_eq_true (by kernel_rfl))
      clear hA hdeps hx5
      have hK0 : KK (AA.put (some 9) _) _ := hK (.int .i64 (IntKind.i64.wrap sb)) _ (Below.refl _ _) (Eq.refl _)
      clear hK
      go_simp
      exact hK0
    · injection ho with ho
      subst ho
      obtain ⟨x6, hx6, hg6⟩ := hdeps ⟨6, .data⟩ (by simp) rfl
      have hg6 : x6 = .int .i64 (IntKind.i64.wrap sb) := hg6
      subst hg6
      have e6 : AA.tmps[9]?.getD undef = .int .i64 (IntKind.i64.wrap sb) := by rw [hA]; exact tmps_own (by kernel_rfl) hx6 (of_decide_eq_true (by kernel_rfl))
      clear hA hdeps hx6
      have hKK := Lib.hid hK
      clear hK
      go_simp
      refine (put_any (IntKind.i64.wrap sb) 8 8 (by decide) _).mono ?_
      rintro e w5 ⟨v, rfl, hown, hbn⟩
      exact hKK.out _ _ hbn (own_mono hown (Nat.le_trans hB0 hb0.size))
    · injection ho with ho
      subst ho
      have ef1 : AA.tmps[1]?.getD undef = .pointer (some ⟨w0.heap.size, 0, none⟩) := by rw [hA]; exact tmps_free (by kernel_rfl)
      clear hA hdeps
      have hK0 : KK (AA.put (some 11) _) _ := hK (.pointer (some ⟨w0.heap.size, 2, none⟩)) _ (Below.refl _ _) (Eq.refl _)
      clear hK
      go_simp
      exact hK0
    · injection ho with ho
      subst ho
      obtain ⟨x8, hx8, hg8⟩ := hdeps ⟨8, .data⟩ (by simp) rfl
      have hg8 : x8 = .pointer (some ⟨w0.heap.size, 2, none⟩) := hg8
      subst hg8
      have e8 : AA.tmps[11]?.getD undef = .pointer (some ⟨w0.heap.size, 2, none⟩) := by rw [hA]; exact tmps_own (by kernel_rfl) hx8 (of_decide_eq_true (by kernel_rfl))
      clear hA hdeps hx8
      obtain ⟨c0, c1, c2, c3⟩ := hS.out W hb0
      have hK0 : KK (AA.put (some 12) _) _ := hK (.int .u64 sc) _ (Below.refl _ _) (Eq.refl _)
      clear hK
      go_simp
      exact hK0
    · injection ho with ho
      subst ho
      obtain ⟨x9, hx9, hg9⟩ := hdeps ⟨9, .data⟩ (by simp) rfl
      have hg9 : x9 = .int .u64 sc := hg9
      subst hg9
      have e9 : AA.tmps[12]?.getD undef = .int .u64 sc := by rw [hA]; exact tmps_own (by kernel_rfl) hx9 (of_decide_eq_true (by kernel_rfl))
      clear hA hdeps hx9
      have hK0 : KK (AA.put (some 13) _) _ := hK (.int .i64 (IntKind.i64.wrap sc)) _ (Below.refl _ _) (Eq.refl _)
      clear hK
      go_simp
      exact hK0
    · injection ho with ho
      subst ho
      obtain ⟨x10, hx10, hg10⟩ := hdeps ⟨10, .data⟩ (by simp) rfl
      have hg10 : x10 = .int .i64 (IntKind.i64.wrap sc) := hg10
      subst hg10
      have e10 : AA.tmps[13]?.getD undef = .int .i64 (IntKind.i64.wrap sc) := by rw [hA]; exact tmps_own (by kernel_rfl) hx10 (of_decide_eq_true (by kernel_rfl))
      clear hA hdeps hx10
      have hKK := Lib.hid hK
      clear hK
      go_simp
      refine (put_any (IntKind.i64.wrap sc) 8 8 (by decide) _).mono ?_
      rintro e w5 ⟨v, rfl, hown, hbn⟩
      exact hKK.out _ _ hbn (own_mono hown (Nat.le_trans hB0 hb0.size))
    · injection ho with ho
      subst ho
      have ef1 : AA.tmps[1]?.getD undef = .pointer (some ⟨w0.heap.size, 0, none⟩) := by rw [hA]; exact tmps_free (by kernel_rfl)
      clear hA hdeps
      have hK0 : KK (AA.put (some 15) _) _ := hK (.pointer (some ⟨w0.heap.size, 3, none⟩)) _ (Below.refl _ _) (Eq.refl _)
      clear hK
      go_simp
      exact hK0
    · injection ho with ho
      subst ho
      obtain ⟨x12, hx12, hg12⟩ := hdeps ⟨12, .data⟩ (by simp) rfl
      have hg12 : x12 = .pointer (some ⟨w0.heap.size, 3, none⟩) := hg12
      subst hg12
      have e12 : AA.tmps[15]?.getD undef = .pointer (some ⟨w0.heap.size, 3, none⟩) := by rw [hA]; exact tmps_own (by kernel_rfl) hx12 (of_decide_eq_true (by kernel_rfl))
      clear hA hdeps hx12
      obtain ⟨c0, c1, c2, c3⟩ := hS.out W hb0
      have hK0 : KK (AA.put (some 16) _) _ := hK (.int .u64 sd) _ (Below.refl _ _) (Eq.refl _)
      clear hK
      go_simp
      exact hK0
    · injection ho with ho
      subst ho
      obtain ⟨x13, hx13, hg13⟩ := hdeps ⟨13, .data⟩ (by simp) rfl
      have hg13 : x13 = .int .u64 sd := hg13
      subst hg13
      have e13 : AA.tmps[16]?.getD undef = .int .u64 sd := by rw [hA]; exact tmps_own (by kernel_rfl) hx13 (of_decide_eq_true (by kernel_rfl))
      clear hA hdeps hx13
      have hK0 : KK (AA.put (some 17) _) _ := hK (.int .i64 (IntKind.i64.wrap sd)) _ (Below.refl _ _) (Eq.refl _)
      clear hK
      go_simp
      exact hK0
    · injection ho with ho
      subst ho
      obtain ⟨x14, hx14, hg14⟩ := hdeps ⟨14, .data⟩ (by simp) rfl
      have hg14 : x14 = .int .i64 (IntKind.i64.wrap sd) := hg14
      subst hg14
      have e14 : AA.tmps[17]?.getD undef = .int .i64 (IntKind.i64.wrap sd) := by rw [hA]; exact tmps_own (by kernel_rfl) hx14 (of_decide_eq_true (by kernel_rfl))
      clear hA hdeps hx14
      have hKK := Lib.hid hK
      clear hK
      go_simp
      refine (put_any (IntKind.i64.wrap sd) 8 8 (by decide) _).mono ?_
      rintro e w5 ⟨v, rfl, hown, hbn⟩
      exact hKK.out _ _ hbn (own_mono hown (Nat.le_trans hB0 hb0.size))
    · injection ho with ho
      subst ho
      obtain ⟨x3, hx3, hg3⟩ := hdeps ⟨3, .data⟩ (by simp) rfl
      have hg3 : W.ownsRow w0.heap.size 5 1 x3 8 (bts (putL (IntKind.i64.wrap sa) 8)) := hg3
      have e3 : AA.tmps[6]?.getD undef = x3 := by rw [hA]; exact tmps_own (by kernel_rfl) hx3 (of_decide_eq_true (by kernel_rfl))
      obtain ⟨x7, hx7, hg7⟩ := hdeps ⟨7, .data⟩ (by simp) rfl
      have hg7 : W.ownsRow w0.heap.size 5 1 x7 8 (bts (putL (IntKind.i64.wrap sb) 8)) := hg7
      have e7 : AA.tmps[10]?.getD undef = x7 := by rw [hA]; exact tmps_own (by kernel_rfl) hx7 (of_decide_eq_true (by kernel_rfl))
      obtain ⟨x11, hx11, hg11⟩ := hdeps ⟨11, .data⟩ (by simp) rfl
      have hg11 : W.ownsRow w0.heap.size 5 1 x11 8 (bts (putL (IntKind.i64.wrap sc) 8)) := hg11
      have e11 : AA.tmps[14]?.getD undef = x11 := by rw [hA]; exact tmps_own (by kernel_rfl) hx11 (of_decide_eq_true (by kernel_rfl))
      obtain ⟨x15, hx15, hg15⟩ := hdeps ⟨15, .data⟩ (by simp) rfl
      have hg15 : W.ownsRow w0.heap.size 5 1 x15 8 (bts (putL (IntKind.i64.wrap sd) 8)) := hg15
      have e15 : AA.tmps[18]?.getD undef = x15 := by rw [hA]; exact tmps_own (by kernel_rfl) hx15 (of_decide_eq_true (by kernel_rfl))
      clear hA hdeps hx3 hx7 hx11 hx15
      obtain ⟨A3, c3, rfl, _, _, _⟩ := own_form hg3
      obtain ⟨A7, c7, rfl, _, _, _⟩ := own_form hg7
      obtain ⟨A11, c11, rfl, _, _, _⟩ := own_form hg11
      obtain ⟨A15, c15, rfl, _, _, _⟩ := own_form hg15
      have hK0 : KK (AA.put (some 19) _) _ := hK _ _ ((Below.refl _ _).alloc (Nat.le_refl _) _) (four_new hg3 hg7 hg11 hg15)
      clear hK
      go_simp
      exact hK0
    · injection ho with ho
      subst ho
      obtain ⟨x16, hx16, hg16⟩ := hdeps ⟨16, .data⟩ (by simp) rfl
      have hg16 : Four w0.heap.size sa sb sc sd x16 W := hg16
      have hk16 := hg16
      obtain ⟨g, y0, y1, y2, y3, rfl, hblk, ho0, ho1, ho2, ho3⟩ := hg16
      have e16 : AA.tmps[19]?.getD undef = .slice (some ⟨g, 0, none⟩) 4 4 := by rw [hA]; exact tmps_own (by kernel_rfl) hx16 (of_decide_eq_true (by kernel_rfl))
      clear hA hdeps hx16
      have hKK := Lib.hid hK
      clear hK
      go_simp
      refine (join_four hblk ho0 ho1 ho2 ho3).mono ?_
      rintro e w5 ⟨v, rfl, hown, hbn⟩
      exact hKK.out _ _ hbn (own_mono hown (Nat.le_trans hB0 hb0.size))
    · injection ho with ho
      subst ho
      obtain ⟨x17, hx17, hg17⟩ := hdeps ⟨17, .data⟩ (by simp) rfl
      have hg17 : W.ownsRow w0.heap.size 5 1 x17 32 (bts (octL sa sb sc sd)) := hg17
      have e17 : AA.tmps[20]?.getD undef = x17 := by rw [hA]; exact tmps_own (by kernel_rfl) hx17 (of_decide_eq_true (by kernel_rfl))
      clear hA hdeps hx17
      have hK0 : KK (AA.put (some 2) _) _ := hK _ _ (Below.refl _ _) hg17
      clear hK
      go_simp
      exact hK0
    · simp at ho
  · intro m W hbx hall
    obtain ⟨x0, m0, g0⟩ := hall 0 (by simp)
    have g0 : x0 = .pointer (some ⟨w0.heap.size, 0, none⟩) := g0
    subst g0
    obtain ⟨x1, m1, g1⟩ := hall 1 (by simp)
    have g1 : x1 = .int .u64 sa := g1
    subst g1
    obtain ⟨x2, m2, g2⟩ := hall 2 (by simp)
    have g2 : x2 = .int .i64 (IntKind.i64.wrap sa) := g2
    subst g2
    obtain ⟨x3, m3, g3⟩ := hall 3 (by simp)
    have g3 : W.ownsRow w0.heap.size 5 1 x3 8 (bts (putL (IntKind.i64.wrap sa) 8)) := g3
    obtain ⟨x4, m4, g4⟩ := hall 4 (by simp)
    have g4 : x4 = .pointer (some ⟨w0.heap.size, 1, none⟩) := g4
    subst g4
    obtain ⟨x5, m5, g5⟩ := hall 5 (by simp)
    have g5 : x5 = .int .u64 sb := g5
    subst g5
    obtain ⟨x6, m6, g6⟩ := hall 6 (by simp)
    have g6 : x6 = .int .i64 (IntKind.i64.wrap sb) := g6
    subst g6
    obtain ⟨x7, m7, g7⟩ := hall 7 (by simp)
    have g7 : W.ownsRow w0.heap.size 5 1 x7 8 (bts (putL (IntKind.i64.wrap sb) 8)) := g7
    obtain ⟨x8, m8, g8⟩ := hall 8 (by simp)
    have g8 : x8 = .pointer (some ⟨w0.heap.size, 2, none⟩) := g8
    subst g8
    obtain ⟨x9, m9, g9⟩ := hall 9 (by simp)
    have g9 : x9 = .int .u64 sc := g9
    subst g9
    obtain ⟨x10, m10, g10⟩ := hall 10 (by simp)
    have g10 : x10 = .int .i64 (IntKind.i64.wrap sc) := g10
    subst g10
    obtain ⟨x11, m11, g11⟩ := hall 11 (by simp)
    have g11 : W.ownsRow w0.heap.size 5 1 x11 8 (bts (putL (IntKind.i64.wrap sc) 8)) := g11
    obtain ⟨x12, m12, g12⟩ := hall 12 (by simp)
    have g12 : x12 = .pointer (some ⟨w0.heap.size, 3, none⟩) := g12
    subst g12
    obtain ⟨x13, m13, g13⟩ := hall 13 (by simp)
    have g13 : x13 = .int .u64 sd := g13
    subst g13
    obtain ⟨x14, m14, g14⟩ := hall 14 (by simp)
    have g14 : x14 = .int .i64 (IntKind.i64.wrap sd) := g14
    subst g14
    obtain ⟨x15, m15, g15⟩ := hall 15 (by simp)
    have g15 : W.ownsRow w0.heap.size 5 1 x15 8 (bts (putL (IntKind.i64.wrap sd) 8)) := g15
    obtain ⟨x16, m16, g16⟩ := hall 16 (by simp)
    have g16 : Four w0.heap.size sa sb sc sd x16 W := g16
    obtain ⟨x17, m17, g17⟩ := hall 17 (by simp)
    have g17 : W.ownsRow w0.heap.size 5 1 x17 32 (bts (octL sa sb sc sd)) := g17
    obtain ⟨x18, m18, g18⟩ := hall 18 (by simp)
    have g18 : W.ownsRow w0.heap.size 5 1 x18 32 (bts (octL sa sb sc sd)) := g18
    rw [frameM_all (by kernel_rfl) [.pointer (some ⟨w0.heap.size, 0, none⟩), .int .u64 sa, .int .i64 (IntKind.i64.wrap sa), x3, .pointer (some ⟨w0.heap.size, 1, none⟩), .int .u64 sb, .int .i64 (IntKind.i64.wrap sb), x7, .pointer (some ⟨w0.heap.size, 2, none⟩), .int .u64 sc, .int .i64 (IntKind.i64.wrap sc), x11, .pointer (some ⟨w0.heap.size, 3, none⟩), .int .u64 sd, .int .i64 (IntKind.i64.wrap sd), x15, x16, x17, x18] rfl (fun i hi => by
        rcases i with _ | _ | _ | _ | _ | _ | _ | _ | _ | _ | _ | _ | _ | _ | _ | _ | _ | _ | _ | i
        · exact m0
        · exact m1
        · exact m2
        · exact m3
        · exact m4
        · exact m5
        · exact m6
        · exact m7
        · exact m8
        · exact m9
        · exact m10
        · exact m11
        · exact m12
        · exact m13
        · exact m14
        · exact m15
        · exact m16
        · exact m17
        · exact m18
        · simp at hi; omega)]
    clear hall m0 m1 m2 m3 m4 m5 m6 m7 m8 m9 m10 m11 m12 m13 m14 m15 m16 m17 m18
    simp only [putAll, Act.put, List.setIfInBounds_toArray, List.set_cons_succ, List.set_cons_zero]
    repeat go_step
    go_ret
    exact ⟨_, rfl, g18, hbel.trans (hbx.mono hB0)⟩
end Go.Proofs.Ythfjfkjlgdnohaa
