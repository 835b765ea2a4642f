/-
  pages.Encode, by its contract.
-/
import Derived.Test.YtcchnoadclidcaaUEnc
namespace Go.Proofs.Ytcchnoadclidcaa
open Go.RowKit

def pgLs (b : List UInt8) (n q : Nat) (next : Int) : List (List UInt8) := [putL (n : Int) 2, putL next 2, b, List.replicate q 0]
def pgBody (b : List UInt8) (n q : Nat) (next : Int) : List UInt8 := (pgLs b n q next).flatten
theorem pgBody_length (b : List UInt8) (n q : Nat) (next : Int) (hn : n = b.length) (hq : n + q = 52) : (pgBody b n q next).length = 56 := by
  simp [pgBody, pgLs, putL_length]
  omega
/-- a sum's first eight octets -/
def sumA (p : List UInt8) : List UInt8 := putL (IntKind.i64.wrap (feedL ⟨0, 0, 0, 0⟩ (words p)).a) 8
def pageL (b : List UInt8) (next : Int) : List UInt8 := pgBody b b.length (52 - b.length) next ++ sumA (pgBody b b.length (52 - b.length) next)
theorem sumA_length (p : List UInt8) : (sumA p).length = 8 := putL_length _ _
theorem pageL_length (b : List UInt8) (next : Int) (h : b.length ≤ 52) : (pageL b next).length = 64 := by
  rw [pageL, List.length_append, sumA_length, pgBody_length b _ _ next rfl (by omega)]

theorem wrap_w64 (x : Int) : IntKind.i64.wrap x = wrap64 x := by rw [IntKind.wrap_i64]; unfold wrap64; rfl
def PgBad (w : World) (E : Int) (e : Ending) (w' : World) : Prop := e = .returned (.tuple #[.slice none 0 0, .int .i64 E]) ∧ w = w'

set_option maxRecDepth 100000 in
theorem pgEncode_long (n : Nat) (A : Option Addr) (c : Nat) (next : Int) (w : World) (h : 52 < n) : Calls Try.prog 46 #[.slice A n c, .int .i64 next] w (PgBad w 5) := by
  have h1 : (52 : Int) < (n : Int) := by omega
  go_enter Try.func46, Try.ntmps46
  go_wp2_with fail
  go_ret2
  exact ⟨rfl, rfl⟩
set_option maxRecDepth 100000 in
theorem pgEncode_range (n : Nat) (A : Option Addr) (c : Nat) (next : Int) (w : World) (h : n ≤ 52) (hx : next < 0 ∨ 8192 ≤ next) : Calls Try.prog 46 #[.slice A n c, .int .i64 next] w (PgBad w 4) := by
  have h1 : (n : Int) ≤ 52 := by omega
  rcases hx with hx | hx
  · go_enter Try.func46, Try.ntmps46
    go_wp2_with fail
    go_ret2
    exact ⟨rfl, rfl⟩
  · have h2 : ¬ next < 0 := by omega
    go_enter Try.func46, Try.ntmps46
    go_wp2_with fail
    go_ret2
    exact ⟨rfl, rfl⟩

set_option maxRecDepth 100000 in
set_option maxHeartbeats 1000000 in
theorem pgEncode_ok (b : List UInt8) (n : Nat) (hnb : n = b.length) (A : Option Addr) (c : Nat) (next : Int) (w : World) (B : Nat) (hr : Reads w B 1 A n (bts b)) (hB : B ≤ w.heap.size) (hc : n ≤ c) (hcm : c ≤ 9223372036854775807) (h52 : n ≤ 52) (h0 : 0 ≤ next) (h1 : next < 8192) :
    Calls Try.prog 46 #[.slice A n c, .int .i64 next] w fun e w' => ∃ v, e = .returned (.tuple #[v, .int .i64 0]) ∧ w'.ownsRow w.heap.size 5 1 v 64 (bts (pageL b next)) ∧ Below w.heap.size w w' := by
  obtain ⟨q, hq⟩ : ∃ q, q = 52 - n := ⟨_, rfl⟩
  have hnq : n + q = 52 := by omega
  have HL := Lib.hid (pgBody_length b n q next hnb hnq)
  have HP := Lib.hid (show pageL b next = pgBody b n q next ++ sumA (pgBody b n q next) by rw [hq, hnb]; rfl)
  have HN := Lib.hid hnb
  have hi : (n : Int) ≤ 52 := by omega
  have hsub : (52 : Int) - (n : Int) = (q : Int) := by omega
  clear hnb hq
  go_enter Try.func46, Try.ntmps46
  go_wp2_with fail
  refine wp_region_good (by kernel_rfl) (by kernel_rfl) [(fun v _ => v = .slice A n c),
    (fun v _ => v = .int .i64 (n : Int)),
    (fun v W => PieceIn 2 (putL (n : Int) 2) v W),
    (fun v _ => v = .int .i64 next),
    (fun v W => PieceIn 2 (putL next 2) v W),
    (fun v _ => v = .slice A n c),
    (fun v _ => v = .slice A n c),
    (fun v _ => v = .int .i64 (n : Int)),
    (fun v _ => v = .int .i64 (q : Int)),
    (fun v W => PieceIn q (List.replicate q 0) v W),
    (fun v W => Pcs (pgLs b n q next) 4 v W),
    (fun v W => PieceIn 56 (pgBody b n q next) v W),
    (fun v W => PieceIn 56 (pgBody b n q next) v W)] ?_ ?_ ?_
  · repeat' (first | exact stays_nil | refine stays_cons ?_ ?_ | exact Stays.pure | exact PieceIn.stays _ _ | exact Pcs.stays _ _)
  · intro i oo ho m W hb0 hdeps AA KK hA hK
    rcases i with _ | _ | _ | _ | _ | _ | _ | _ | _ | _ | _ | _ | _ | i
    · injection ho with ho
      subst ho
      have ef0 : AA.tmps[0]?.getD undef = .slice A n c := by rw [hA]; exact tmps_free (by kernel_rfl)
      clear hA hdeps
      have hK0 : KK (AA.put (some 18) _) _ := hK (.slice A n c) _ (Below.refl _ _) (Eq.refl _)
      clear hK
      go_simp
      exact hK0
    · injection ho with ho
      subst ho
      obtain ⟨x0, hx0, hg0⟩ := hdeps ⟨0, .data⟩ (by simp) rfl
      have hg0 : x0 = .slice A n c := hg0
      subst hg0
      have e0 : AA.tmps[18]?.getD undef = .slice A n c := by rw [hA]; exact tmps_own (by kernel_rfl) hx0 (of_decide_eq_true (by kernel_rfl))
      clear hA hdeps hx0
      have hK0 : KK (AA.put (some 19) _) _ := hK (.int .i64 (n : Int)) _ (Below.refl _ _) (Eq.refl _)
      clear hK
      go_simp
      exact hK0
    · injection ho with ho
      subst ho
      obtain ⟨x1, hx1, hg1⟩ := hdeps ⟨1, .data⟩ (by simp) rfl
      have hg1 : x1 = .int .i64 (n : Int) := hg1
      subst hg1
      have e1 : AA.tmps[19]?.getD undef = .int .i64 (n : Int) := by rw [hA]; exact tmps_own (by kernel_rfl) hx1 (of_decide_eq_true (by kernel_rfl))
      clear hA hdeps hx1
      have hKK := Lib.hid hK
      clear hK
      go_simp
      refine (put_any (n : Int) 2 2 (by decide) _).mono ?_
      rintro e w5 ⟨v, rfl, hown, hbn⟩
      exact hKK.out _ _ hbn (PieceIn.own hown (putL_length _ _).symm)
    · injection ho with ho
      subst ho
      have ef1 : AA.tmps[1]?.getD undef = .int .i64 next := by rw [hA]; exact tmps_free (by kernel_rfl)
      clear hA hdeps
      have hK0 : KK (AA.put (some 21) _) _ := hK (.int .i64 next) _ (Below.refl _ _) (Eq.refl _)
      clear hK
      go_simp
      exact hK0
    · injection ho with ho
      subst ho
      obtain ⟨x3, hx3, hg3⟩ := hdeps ⟨3, .data⟩ (by simp) rfl
      have hg3 : x3 = .int .i64 next := hg3
      subst hg3
      have e3 : AA.tmps[21]?.getD undef = .int .i64 next := by rw [hA]; exact tmps_own (by kernel_rfl) hx3 (of_decide_eq_true (by kernel_rfl))
      clear hA hdeps hx3
      have hKK := Lib.hid hK
      clear hK
      go_simp
      refine (put_any next 2 2 (by decide) _).mono ?_
      rintro e w5 ⟨v, rfl, hown, hbn⟩
      exact hKK.out _ _ hbn (PieceIn.own hown (putL_length _ _).symm)
    · injection ho with ho
      subst ho
      have ef0 : AA.tmps[0]?.getD undef = .slice A n c := by rw [hA]; exact tmps_free (by kernel_rfl)
      clear hA hdeps
      have hK0 : KK (AA.put (some 23) _) _ := hK (.slice A n c) _ (Below.refl _ _) (Eq.refl _)
      clear hK
      go_simp
      exact hK0
    · injection ho with ho
      subst ho
      have ef0 : AA.tmps[0]?.getD undef = .slice A n c := by rw [hA]; exact tmps_free (by kernel_rfl)
      clear hA hdeps
      have hK0 : KK (AA.put (some 24) _) _ := hK (.slice A n c) _ (Below.refl _ _) (Eq.refl _)
      clear hK
      go_simp
      exact hK0
    · injection ho with ho
      subst ho
      obtain ⟨x6, hx6, hg6⟩ := hdeps ⟨6, .data⟩ (by simp) rfl
      have hg6 : x6 = .slice A n c := hg6
      subst hg6
      have e6 : AA.tmps[24]?.getD undef = .slice A n c := by rw [hA]; exact tmps_own (by kernel_rfl) hx6 (of_decide_eq_true (by kernel_rfl))
      clear hA hdeps hx6
      have hK0 : KK (AA.put (some 25) _) _ := hK (.int .i64 (n : Int)) _ (Below.refl _ _) (Eq.refl _)
      clear hK
      go_simp
      exact hK0
    · injection ho with ho
      subst ho
      obtain ⟨x7, hx7, hg7⟩ := hdeps ⟨7, .data⟩ (by simp) rfl
      have hg7 : x7 = .int .i64 (n : Int) := hg7
      subst hg7
      have e7 : AA.tmps[25]?.getD undef = .int .i64 (n : Int) := by rw [hA]; exact tmps_own (by kernel_rfl) hx7 (of_decide_eq_true (by kernel_rfl))
      clear hA hdeps hx7
      have xw : IntKind.i64.wrap (q : Int) = (q : Int) := IntWalk.i64_in _ (by omega)
      have hK0 : KK (AA.put (some 26) _) _ := hK (.int .i64 (q : Int)) _ (Below.refl _ _) (Eq.refl _)
      clear hK
      go_simp
      exact hK0
    · injection ho with ho
      subst ho
      obtain ⟨x8, hx8, hg8⟩ := hdeps ⟨8, .data⟩ (by simp) rfl
      have hg8 : x8 = .int .i64 (q : Int) := hg8
      subst hg8
      have e8 : AA.tmps[26]?.getD undef = .int .i64 (q : Int) := by rw [hA]; exact tmps_own (by kernel_rfl) hx8 (of_decide_eq_true (by kernel_rfl))
      clear hA hdeps hx8
      have hmk := make_bytes W q (by omega)
      have hK0 : KK (AA.put (some 27) _) _ := hK _ _ ((Below.refl _ _).alloc (Nat.le_refl _) (.cells (bts (List.replicate q 0)).toArray 5)) (PieceIn.lit W (List.replicate q 0) q (by simp) (by unfold maxLen; omega) (bts (List.replicate q 0)).toArray 5 rfl)
      clear hK
      go_simp
      exact hK0
    · injection ho with ho
      subst ho
      obtain ⟨x2, hx2, hg2⟩ := hdeps ⟨2, .data⟩ (by simp) rfl
      have hg2 : PieceIn 2 (putL (n : Int) 2) x2 W := hg2
      have hk2 := hg2
      obtain ⟨-, A2, c2, rfl, -, -, -⟩ := hg2
      have e2 : AA.tmps[20]?.getD undef = .slice A2 2 c2 := by rw [hA]; exact tmps_own (by kernel_rfl) hx2 (of_decide_eq_true (by kernel_rfl))
      obtain ⟨x4, hx4, hg4⟩ := hdeps ⟨4, .data⟩ (by simp) rfl
      have hg4 : PieceIn 2 (putL next 2) x4 W := hg4
      have hk4 := hg4
      obtain ⟨-, A4, c4, rfl, -, -, -⟩ := hg4
      have e4 : AA.tmps[22]?.getD undef = .slice A4 2 c4 := by rw [hA]; exact tmps_own (by kernel_rfl) hx4 (of_decide_eq_true (by kernel_rfl))
      obtain ⟨x5, hx5, hg5⟩ := hdeps ⟨5, .data⟩ (by simp) rfl
      have hg5 : x5 = .slice A n c := hg5
      subst hg5
      have e5 : AA.tmps[23]?.getD undef = .slice A n c := by rw [hA]; exact tmps_own (by kernel_rfl) hx5 (of_decide_eq_true (by kernel_rfl))
      obtain ⟨x9, hx9, hg9⟩ := hdeps ⟨9, .data⟩ (by simp) rfl
      have hg9 : PieceIn q (List.replicate q 0) x9 W := hg9
      have hk9 := hg9
      obtain ⟨-, A9, c9, rfl, -, -, -⟩ := hg9
      have e9 : AA.tmps[27]?.getD undef = .slice A9 q c9 := by rw [hA]; exact tmps_own (by kernel_rfl) hx9 (of_decide_eq_true (by kernel_rfl))
      clear hA hdeps hx2 hx4 hx5 hx9
      have hkx : PieceIn n b (.slice A n c) W := PieceIn.reads (hr.below (hb0.mono hB)) (Nat.le_trans hB hb0.size) hc (by unfold maxLen; omega) HN.out
      have hK0 : KK (AA.put (some 28) _) _ := hK _ _ ((Below.refl _ _).alloc (Nat.le_refl _) _) (Pcs.new (W := W) (ys := [.slice A2 2 c2, .slice A4 2 c4, .slice A n c, .slice A9 q c9]) (ls := pgLs b n q next) rfl ⟨(by rw [putL_length]; exact hk2), (by rw [putL_length]; exact hk4), (by rw [← HN.out]; exact hkx), (by rw [List.length_replicate]; exact hk9), trivial⟩)
      clear hK
      go_simp
      exact hK0
    · injection ho with ho
      subst ho
      obtain ⟨x10, hx10, hg10⟩ := hdeps ⟨10, .data⟩ (by simp) rfl
      have hg10 : Pcs (pgLs b n q next) 4 x10 W := hg10
      have hk10 := hg10
      obtain ⟨g, ys, rfl, hblk, hyl, hall⟩ := hg10
      have e10 : AA.tmps[28]?.getD undef = .slice (some ⟨g, 0, none⟩) 4 4 := by rw [hA]; exact tmps_own (by kernel_rfl) hx10 (of_decide_eq_true (by kernel_rfl))
      clear hA hdeps hx10
      have hKK := Lib.hid hK
      have hjn := join_pcs hblk hyl hall (HL.out).symm (by omega) (by omega)
      clear hK
      go_simp
      refine hjn.mono ?_
      rintro e w5 ⟨v, rfl, hown, hbn⟩
      exact hKK.out _ _ hbn (PieceIn.own hown HL.out.symm)
    · injection ho with ho
      subst ho
      obtain ⟨x11, hx11, hg11⟩ := hdeps ⟨11, .data⟩ (by simp) rfl
      have hg11 : PieceIn 56 (pgBody b n q next) x11 W := hg11
      have hk11 := hg11
      obtain ⟨-, A11, c11, rfl, -, -, -⟩ := hg11
      have e11 : AA.tmps[29]?.getD undef = .slice A11 56 c11 := by rw [hA]; exact tmps_own (by kernel_rfl) hx11 (of_decide_eq_true (by kernel_rfl))
      clear hA hdeps hx11
      have hK0 : KK (AA.put (some 6) _) _ := hK _ _ (Below.refl _ _) hk11
      clear hK
      go_simp
      exact hK0
    · simp at ho
  · intro m W hbx hall
    obtain ⟨x0, m0, g0⟩ := hall 0 (by simp)
    replace g0 : x0 = .slice A n c := g0
    subst g0
    obtain ⟨x1, m1, g1⟩ := hall 1 (by simp)
    replace g1 : x1 = .int .i64 (n : Int) := g1
    subst g1
    obtain ⟨x2, m2, g2⟩ := hall 2 (by simp)
    replace g2 : PieceIn 2 (putL (n : Int) 2) x2 W := g2
    obtain ⟨x3, m3, g3⟩ := hall 3 (by simp)
    replace g3 : x3 = .int .i64 next := g3
    subst g3
    obtain ⟨x4, m4, g4⟩ := hall 4 (by simp)
    replace g4 : PieceIn 2 (putL next 2) x4 W := g4
    obtain ⟨x5, m5, g5⟩ := hall 5 (by simp)
    replace g5 : x5 = .slice A n c := g5
    subst g5
    obtain ⟨x6, m6, g6⟩ := hall 6 (by simp)
    replace g6 : x6 = .slice A n c := g6
    subst g6
    obtain ⟨x7, m7, g7⟩ := hall 7 (by simp)
    replace g7 : x7 = .int .i64 (n : Int) := g7
    subst g7
    obtain ⟨x8, m8, g8⟩ := hall 8 (by simp)
    replace g8 : x8 = .int .i64 (q : Int) := g8
    subst g8
    obtain ⟨x9, m9, g9⟩ := hall 9 (by simp)
    replace g9 : PieceIn q (List.replicate q 0) x9 W := g9
    obtain ⟨x10, m10, g10⟩ := hall 10 (by simp)
    replace g10 : Pcs (pgLs b n q next) 4 x10 W := g10
    obtain ⟨x11, m11, g11⟩ := hall 11 (by simp)
    replace g11 : PieceIn 56 (pgBody b n q next) x11 W := g11
    obtain ⟨x12, m12, g12⟩ := hall 12 (by simp)
    replace g12 : PieceIn 56 (pgBody b n q next) x12 W := g12
    rw [frameM_all (by kernel_rfl) [.slice A n c, .int .i64 (n : Int), x2, .int .i64 next, x4, .slice A n c, .slice A n c, .int .i64 (n : Int), .int .i64 (q : Int), x9, x10, x11, x12] rfl (fun i hi => by
        rcases i with _ | _ | _ | _ | _ | _ | _ | _ | _ | _ | _ | _ | _ | i
        · exact m0
        · exact m1
        · exact m2
        · exact m3
        · exact m4
        · exact m5
        · exact m6
        · exact m7
        · exact m8
        · exact m9
        · exact m10
        · exact m11
        · exact m12
        · simp at hi; omega)]
    clear hall m0 m1 m2 m3 m4 m5 m6 m7 m8 m9 m10 m11 m12
    simp only [putAll, Act.put, List.setIfInBounds_toArray, List.set_cons_succ, List.set_cons_zero]
    clear g2 g4 g9 g10 g11
    obtain ⟨-, A1, c1, rfl, h1, h2, hr1⟩ := id g12
    have hlp := HL.out
    go_wp2_with fail
    refine (of_n (pgBody b n q next) 56 HL.out.symm A1 c1 W W.heap.size hr1 (Nat.le_refl _) h1 (by omega)).mono ?_
    rintro e w2 ⟨rfl, hb2⟩
    obtain ⟨⟨pa, pb, pc, pd⟩, hp⟩ : ∃ s, s = feedL ⟨0, 0, 0, 0⟩ (words (pgBody b n q next)) := ⟨_, rfl⟩
    have HS := Lib.hid (show sumA (pgBody b n q next) = putL (wrap64 pa) 8 by unfold sumA; rw [← hp, ← wrap_w64])
    rw [← hp]
    have ho := put_any (wrap64 pa) 8 8 (by decide) w2
    simp only [Sm.val]
    clear hp hlp
    have hf : ∀ W : World, (Instr.field 24 (.agg #[.int .u64 pa, .int .u64 pb, .int .u64 pc, .int .u64 pd]) 0).run Try.prog W = .ok (.int .u64 pa) W := fun _ => by kernel_rfl
    go_wp2_with fail
    refine ho.mono ?_
    clear ho
    rintro e w3 ⟨v, rfl, hown, hb3⟩
    have hb23 := below_step hb2 hb3
    have hp1 := PieceIn.below g12 hb23
    have hp2 := PieceIn.own hown (putL_length _ _).symm
    obtain ⟨-, A2, c2, rfl, -, -, -⟩ := hp2
    have hp2 := PieceIn.own hown (putL_length _ _).symm
    have hsz := hb23.size
    have hbel2 := below_step hbx hb23
    have hbb : Below w3.heap.size w3 (w3.alloc (.cells #[.slice A1 56 c1, .slice A2 8 c2] 25)) := (Below.refl _ _).alloc (Nat.le_refl _) _
    have hj := join_pcs (W := w3.alloc (.cells #[.slice A1 56 c1, .slice A2 8 c2] 25)) (ys := [.slice A1 56 c1, .slice A2 8 c2]) (ls := [pgBody b n q next, putL (wrap64 pa) 8]) (n := 2) (T := 64) (g := w3.heap.size) (Blk.new _ _ _) rfl ⟨by rw [HL.out]; exact hp1.below hbb, by rw [putL_length]; exact hp2.below hbb, trivial⟩ (by simp [HL.out, putL_length]) (by omega) (by omega)
    clear hp1 hp2 hown g12 hr1 hb2 hb3 hb23 hbx hr
    go_wp2_with fail
    refine hj.mono ?_
    clear hj
    rintro e w4 ⟨v4, rfl, hown4, hb4⟩
    have hbel4 := hbel2.trans ((below_step hbb hb4).mono hbel2.size)
    have hown5 := own_mono hown4 (show w.heap.size ≤ _ by have := hbel2.size; simp; omega)
    clear hb4 hbb hown4
    go_wp2_with fail
    go_ret2
    refine ⟨v4, rfl, ?_, hbel4⟩
    rw [HP.out, HS.out]
    simpa using hown5
end Go.Proofs.Ytcchnoadclidcaa
