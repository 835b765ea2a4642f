/-
  uber.Encode, by its contract.
-/
import Derived.Test.YtcchnoadclidcaaSoft
import Derived.Test.YtcchnoadclidcaaUber1
import Derived.Test.YtcchnoadclidcaaOctets
import Derived.Test.YtcchnoadclidcaaFl3
namespace Go.Proofs.Ytcchnoadclidcaa
open Go.RowKit

def magicL : List UInt8 := [103, 100, 110, 49]
def bodyLs (t f o : Int) : List (List UInt8) := [magicL, putL t 8, putL f 4, putL o 4, List.replicate 12 0]
def bodyL (t f o : Int) : List UInt8 := (bodyLs t f o).flatten
theorem bodyL_length (t f o : Int) : (bodyL t f o).length = 32 := by simp [bodyL, bodyLs, magicL, putL_length]
/-- a text's sum, as octets -/
def sumL8 (b : List UInt8) : List UInt8 := octL (feedL ⟨0, 0, 0, 0⟩ (words b)).a (feedL ⟨0, 0, 0, 0⟩ (words b)).b (feedL ⟨0, 0, 0, 0⟩ (words b)).c (feedL ⟨0, 0, 0, 0⟩ (words b)).d
def encL (u : Ub) : List UInt8 := bodyL u.t u.f u.o ++ sumL8 (bodyL u.t u.f u.o)
theorem encL_length (u : Ub) : (encL u).length = 64 := by simp [encL, bodyL_length, sumL8, octL_length]

theorem make_bytes (W : World) (n : Nat) (hn : n ≤ 140737488351232) : (Instr.makeSlice 25 (.int .i64 (n : Int)) (.int .i64 (n : Int))).run Try.prog W = .ok (.slice (some ⟨W.heap.size, 0, none⟩) n n) (W.alloc (.cells (bts (List.replicate n 0)).toArray 5)) := by
  obtain ⟨i0, hi0, hz0, hz1, hz2⟩ := info_parts Try.infoU8'
  have h := run_make_rowN (P := Try.prog) 25 5 i0 _ Try.underlying25 hi0 hz0 .i64 .i64 n n (Nat.le_refl _) (by rw [hz2]; omega) (by omega) W
  rw [hz1, made_bytes] at h
  exact h
theorem of_n (b : List UInt8) (n : Nat) (hnb : n = b.length) (A : Option Addr) (c : Nat) (w : World) (B : Nat) (hr : Reads w B 1 A n (bts b)) (hB : B ≤ w.heap.size) (hc : n ≤ c) (hn : n ≤ 140737488351232) :
    Calls Try.prog 31 #[.slice A n c] w fun e w' => e = .returned (feedL ⟨0, 0, 0, 0⟩ (words b)).val ∧ Below w.heap.size w w' := by
  subst hnb
  exact of_any b A c w B hr hB hc hn

set_option maxRecDepth 100000 in
theorem encode_bad (u : Ub) (h : ¬ u.ok) (w0 : World) : Calls Try.prog 37 #[u.val] w0 fun e w' => e = .returned (.tuple #[.slice none 0 0, .int .i64 4]) ∧ Below w0.heap.size w0 w' := by
  have hc := check_bad u h
  obtain ⟨t, f, o⟩ := u
  show Calls _ _ #[.agg #[.int .i64 t, .int .i64 f, .int .i64 o]] _ _
  go_enter Try.func37, Try.ntmps37
  go_wp2_with fail
  refine (hc _).mono ?_
  rintro e w1 ⟨rfl, hb1⟩
  clear hc
  go_wp2_with fail
  go_ret2
  exact ⟨rfl, ((Below.refl _ _).alloc (Nat.le_refl _) _).trans (hb1.mono (by simp))⟩

set_option maxRecDepth 100000 in
set_option maxHeartbeats 1000000 in
theorem encode_ok (u : Ub) (h : u.ok) (w0 : World) : Calls Try.prog 37 #[u.val] w0 fun e w' => ∃ v, e = .returned (.tuple #[v, .int .i64 0]) ∧ w'.ownsRow w0.heap.size 5 1 v 64 (bts (encL u)) ∧ Below w0.heap.size w0 w' := by
  have hc := check_ok u h
  have hlen := Lib.hid (encL_length u)
  have henc := Lib.hid (show encL u = bodyL u.t u.f u.o ++ sumL8 (bodyL u.t u.f u.o) from rfl)
  obtain ⟨t, f, o⟩ := u
  simp only at henc
  show Calls _ _ #[.agg #[.int .i64 t, .int .i64 f, .int .i64 o]] _ _
  go_enter Try.func37, Try.ntmps37
  go_wp2_with fail
  refine (hc _).mono ?_
  rintro e w1 ⟨rfl, hb1⟩
  clear hc h
  have hk := (Blk.new w0 56 #[.int .i64 t, .int .i64 f, .int .i64 o]).below hb1 (by simp)
  have hbel := ((Below.refl w0.heap.size w0).alloc (Nat.le_refl _) (.cells #[.int .i64 t, .int .i64 f, .int .i64 o] 56)).trans (hb1.mono (by simp))
  clear hb1
  have hB0 : w0.heap.size ≤ w1.heap.size := hbel.size
  have hS := Lib.hid (fun (W' : World) (hB : Below w1.heap.size w1 W') => (by obtain ⟨d0, d1, d2, _⟩ := blk3 (hk.below hB hk.lt); exact ⟨d0, d1, d2⟩ :
    W'.cell? ⟨w0.heap.size, 0, none⟩ = some (.int .i64 t) ∧ W'.cell? ⟨w0.heap.size, 1, none⟩ = some (.int .i64 f) ∧ W'.cell? ⟨w0.heap.size, 2, none⟩ = some (.int .i64 o)))
  clear hk
  go_wp2_with fail
  refine wp_region_soft (by kernel_rfl) (by kernel_rfl) [(fun v W => LitIn w1.heap.size 4 magicL v W),
    (fun v W => PieceIn 4 magicL v W),
    (fun v _ => v = .pointer (some ⟨w0.heap.size, 0, none⟩)),
    (fun v _ => v = .int .i64 t),
    (fun v W => PieceIn 8 (putL t 8) v W),
    (fun v _ => v = .pointer (some ⟨w0.heap.size, 1, none⟩)),
    (fun v _ => v = .int .i64 f),
    (fun v W => PieceIn 4 (putL f 4) v W),
    (fun v _ => v = .pointer (some ⟨w0.heap.size, 2, none⟩)),
    (fun v _ => v = .int .i64 o),
    (fun v W => PieceIn 4 (putL o 4) v W),
    (fun v W => PieceIn 12 (List.replicate 12 0) v W),
    (fun v W => PcsS (bodyLs t f o) 5 v W),
    (fun v W => PieceIn 32 (bodyL t f o) v W),
    (fun v W => PieceIn 32 (bodyL t f o) v W)] ?_ ?_ ?_
  · repeat' (first | exact staysS_nil | refine staysS_cons ?_ ?_ | exact StaysS.pure | exact PieceIn.staysS _ _ _ | exact PcsS.staysS _ _ _ | exact LitIn.staysS _ _ _)
  · intro i oo ho m W hb0 hdeps AA KK hA hKs
    have hK := fun v W' (hb : Below W.heap.size W W') hs => hKs v W' (Soft.of hb0.size hb) hs
    have HKs := Lib.hid hKs
    clear hKs
    rcases i with _ | _ | _ | _ | _ | _ | _ | _ | _ | _ | _ | _ | _ | _ | _ | i
    · injection ho with ho
      subst ho
      clear hA hdeps
      have hK0 : KK (AA.put (some 11) _) _ := hK _ _ ((Below.refl _ _).alloc (Nat.le_refl _) (.cells #[.int .u8 103, .int .u8 100, .int .u8 110, .int .u8 49] 5)) (LitIn.new w1.heap.size W hb0.size magicL 4 rfl _ _ rfl)
      clear hK
      go_simp
      exact hK0
    · injection ho with ho
      subst ho
      obtain ⟨x0, hx0, hg0⟩ := hdeps ⟨0, .data⟩ (by simp) rfl
      have hg0 : LitIn w1.heap.size 4 magicL x0 W := hg0
      have hk0 := hg0
      obtain ⟨g, C, T, fr, rfl, hgB, -, -, -⟩ := hg0
      have e0 : AA.tmps[11]?.getD undef = .slice (some ⟨g, 0, none⟩) 4 4 := by rw [hA]; exact tmps_own (by kernel_rfl) hx0 (of_decide_eq_true (by kernel_rfl))
      clear hA hdeps hx0
      have hcv := LitIn.conv (P := Try.prog) Try.underlying25 Try.underlying5 hk0
      have hsf := Soft.freeze (W := W) g 4 1 hgB
      have hK0 : KK (AA.put (some 12) _) _ := HKs.out _ _ hsf ((hk0.piece (by decide)).soft hsf)
      clear hK hsf
      go_simp
      exact hK0
    · injection ho with ho
      subst ho
      have ef1 : AA.tmps[1]?.getD undef = .pointer (some ⟨w0.heap.size, 0, none⟩) := by rw [hA]; exact tmps_free (by kernel_rfl)
      clear hA hdeps
      have hK0 : KK (AA.put (some 13) _) _ := hK (.pointer (some ⟨w0.heap.size, 0, none⟩)) _ (Below.refl _ _) (Eq.refl _)
      clear hK
      go_simp
      exact hK0
    · injection ho with ho
      subst ho
      obtain ⟨x2, hx2, hg2⟩ := hdeps ⟨2, .data⟩ (by simp) rfl
      have hg2 : x2 = .pointer (some ⟨w0.heap.size, 0, none⟩) := hg2
      subst hg2
      have e2 : AA.tmps[13]?.getD undef = .pointer (some ⟨w0.heap.size, 0, none⟩) := by rw [hA]; exact tmps_own (by kernel_rfl) hx2 (of_decide_eq_true (by kernel_rfl))
      clear hA hdeps hx2
      obtain ⟨c0, c1, c2⟩ := hS.out W hb0
      have hK0 : KK (AA.put (some 14) _) _ := hK (.int .i64 t) _ (Below.refl _ _) (Eq.refl _)
      clear hK
      go_simp
      exact hK0
    · injection ho with ho
      subst ho
      obtain ⟨x3, hx3, hg3⟩ := hdeps ⟨3, .data⟩ (by simp) rfl
      have hg3 : x3 = .int .i64 t := hg3
      subst hg3
      have e3 : AA.tmps[14]?.getD undef = .int .i64 t := by rw [hA]; exact tmps_own (by kernel_rfl) hx3 (of_decide_eq_true (by kernel_rfl))
      clear hA hdeps hx3
      have hKK := Lib.hid hK
      clear hK
      go_simp
      refine (put_any t 8 8 (by decide) _).mono ?_
      rintro e w5 ⟨v, rfl, hown, hbn⟩
      exact hKK.out _ _ hbn (PieceIn.own hown (putL_length _ _).symm)
    · injection ho with ho
      subst ho
      have ef1 : AA.tmps[1]?.getD undef = .pointer (some ⟨w0.heap.size, 0, none⟩) := by rw [hA]; exact tmps_free (by kernel_rfl)
      clear hA hdeps
      have hK0 : KK (AA.put (some 16) _) _ := hK (.pointer (some ⟨w0.heap.size, 1, none⟩)) _ (Below.refl _ _) (Eq.refl _)
      clear hK
      go_simp
      exact hK0
    · injection ho with ho
      subst ho
      obtain ⟨x5, hx5, hg5⟩ := hdeps ⟨5, .data⟩ (by simp) rfl
      have hg5 : x5 = .pointer (some ⟨w0.heap.size, 1, none⟩) := hg5
      subst hg5
      have e5 : AA.tmps[16]?.getD undef = .pointer (some ⟨w0.heap.size, 1, none⟩) := by rw [hA]; exact tmps_own (by kernel_rfl) hx5 (of_decide_eq_true (by kernel_rfl))
      clear hA hdeps hx5
      obtain ⟨c0, c1, c2⟩ := hS.out W hb0
      have hK0 : KK (AA.put (some 17) _) _ := hK (.int .i64 f) _ (Below.refl _ _) (Eq.refl _)
      clear hK
      go_simp
      exact hK0
    · injection ho with ho
      subst ho
      obtain ⟨x6, hx6, hg6⟩ := hdeps ⟨6, .data⟩ (by simp) rfl
      have hg6 : x6 = .int .i64 f := hg6
      subst hg6
      have e6 : AA.tmps[17]?.getD undef = .int .i64 f := by rw [hA]; exact tmps_own (by kernel_rfl) hx6 (of_decide_eq_true (by kernel_rfl))
      clear hA hdeps hx6
      have hKK := Lib.hid hK
      clear hK
      go_simp
      refine (put_any f 4 4 (by decide) _).mono ?_
      rintro e w5 ⟨v, rfl, hown, hbn⟩
      exact hKK.out _ _ hbn (PieceIn.own hown (putL_length _ _).symm)
    · injection ho with ho
      subst ho
      have ef1 : AA.tmps[1]?.getD undef = .pointer (some ⟨w0.heap.size, 0, none⟩) := by rw [hA]; exact tmps_free (by kernel_rfl)
      clear hA hdeps
      have hK0 : KK (AA.put (some 19) _) _ := hK (.pointer (some ⟨w0.heap.size, 2, none⟩)) _ (Below.refl _ _) (Eq.refl _)
      clear hK
      go_simp
      exact hK0
    · injection ho with ho
      subst ho
      obtain ⟨x8, hx8, hg8⟩ := hdeps ⟨8, .data⟩ (by simp) rfl
      have hg8 : x8 = .pointer (some ⟨w0.heap.size, 2, none⟩) := hg8
      subst hg8
      have e8 : AA.tmps[19]?.getD undef = .pointer (some ⟨w0.heap.size, 2, none⟩) := by rw [hA]; exact tmps_own (by kernel_rfl) hx8 (of_decide_eq_true (by kernel_rfl))
      clear hA hdeps hx8
      obtain ⟨c0, c1, c2⟩ := hS.out W hb0
      have hK0 : KK (AA.put (some 20) _) _ := hK (.int .i64 o) _ (Below.refl _ _) (Eq.refl _)
      clear hK
      go_simp
      exact hK0
    · injection ho with ho
      subst ho
      obtain ⟨x9, hx9, hg9⟩ := hdeps ⟨9, .data⟩ (by simp) rfl
      have hg9 : x9 = .int .i64 o := hg9
      subst hg9
      have e9 : AA.tmps[20]?.getD undef = .int .i64 o := by rw [hA]; exact tmps_own (by kernel_rfl) hx9 (of_decide_eq_true (by kernel_rfl))
      clear hA hdeps hx9
      have hKK := Lib.hid hK
      clear hK
      go_simp
      refine (put_any o 4 4 (by decide) _).mono ?_
      rintro e w5 ⟨v, rfl, hown, hbn⟩
      exact hKK.out _ _ hbn (PieceIn.own hown (putL_length _ _).symm)
    · injection ho with ho
      subst ho
      clear hA hdeps
      have hmk : (Instr.makeSlice 25 (.int .i64 12) (.int .i64 12)).run Try.prog W = .ok (.slice (some ⟨W.heap.size, 0, none⟩) 12 12) (W.alloc (.cells (bts (List.replicate 12 0)).toArray 5)) := make_bytes W 12 (by omega)
      have hK0 : KK (AA.put (some 22) _) _ := hK _ _ ((Below.refl _ _).alloc (Nat.le_refl _) (.cells (bts (List.replicate 12 0)).toArray 5)) (PieceIn.lit W (List.replicate 12 0) 12 rfl (by decide) (bts (List.replicate 12 0)).toArray 5 rfl)
      clear hK
      go_simp
      exact hK0
    · injection ho with ho
      subst ho
      obtain ⟨x1, hx1, hg1⟩ := hdeps ⟨1, .data⟩ (by simp) rfl
      have hg1 : PieceIn 4 magicL x1 W := hg1
      have hk1 := hg1
      obtain ⟨-, A1, c1, rfl, -, -, -⟩ := hg1
      have e1 : AA.tmps[12]?.getD undef = .slice A1 4 c1 := by rw [hA]; exact tmps_own (by kernel_rfl) hx1 (of_decide_eq_true (by kernel_rfl))
      obtain ⟨x4, hx4, hg4⟩ := hdeps ⟨4, .data⟩ (by simp) rfl
      have hg4 : PieceIn 8 (putL t 8) x4 W := hg4
      have hk4 := hg4
      obtain ⟨-, A4, c4, rfl, -, -, -⟩ := hg4
      have e4 : AA.tmps[15]?.getD undef = .slice A4 8 c4 := by rw [hA]; exact tmps_own (by kernel_rfl) hx4 (of_decide_eq_true (by kernel_rfl))
      obtain ⟨x7, hx7, hg7⟩ := hdeps ⟨7, .data⟩ (by simp) rfl
      have hg7 : PieceIn 4 (putL f 4) x7 W := hg7
      have hk7 := hg7
      obtain ⟨-, A7, c7, rfl, -, -, -⟩ := hg7
      have e7 : AA.tmps[18]?.getD undef = .slice A7 4 c7 := by rw [hA]; exact tmps_own (by kernel_rfl) hx7 (of_decide_eq_true (by kernel_rfl))
      obtain ⟨x10, hx10, hg10⟩ := hdeps ⟨10, .data⟩ (by simp) rfl
      have hg10 : PieceIn 4 (putL o 4) x10 W := hg10
      have hk10 := hg10
      obtain ⟨-, A10, c10, rfl, -, -, -⟩ := hg10
      have e10 : AA.tmps[21]?.getD undef = .slice A10 4 c10 := by rw [hA]; exact tmps_own (by kernel_rfl) hx10 (of_decide_eq_true (by kernel_rfl))
      obtain ⟨x11, hx11, hg11⟩ := hdeps ⟨11, .data⟩ (by simp) rfl
      have hg11 : PieceIn 12 (List.replicate 12 0) x11 W := hg11
      have hk11 := hg11
      obtain ⟨-, A11, c11, rfl, -, -, -⟩ := hg11
      have e11 : AA.tmps[22]?.getD undef = .slice A11 12 c11 := by rw [hA]; exact tmps_own (by kernel_rfl) hx11 (of_decide_eq_true (by kernel_rfl))
      clear hA hdeps hx1 hx4 hx7 hx10 hx11
      have hK0 : KK (AA.put (some 23) _) _ := hK _ _ ((Below.refl _ _).alloc (Nat.le_refl _) _) (PcsS.new (W := W) (ys := [.slice A1 4 c1, .slice A4 8 c4, .slice A7 4 c7, .slice A10 4 c10, .slice A11 12 c11]) (ls := bodyLs t f o) rfl ⟨hk1, (by rw [putL_length]; exact hk4), (by rw [putL_length]; exact hk7), (by rw [putL_length]; exact hk10), hk11, trivial⟩)
      clear hK
      go_simp
      exact hK0
    · injection ho with ho
      subst ho
      obtain ⟨x12, hx12, hg12⟩ := hdeps ⟨12, .data⟩ (by simp) rfl
      have hg12 : PcsS (bodyLs t f o) 5 x12 W := hg12
      have hk12 := hg12
      obtain ⟨g, ys, rfl, hblk, hyl, hall⟩ := hg12
      have e12 : AA.tmps[23]?.getD undef = .slice (some ⟨g, 0, none⟩) 5 5 := by rw [hA]; exact tmps_own (by kernel_rfl) hx12 (of_decide_eq_true (by kernel_rfl))
      clear hA hdeps hx12
      have hKK := Lib.hid hK
      clear hK
      go_simp
      refine (join_pcsS hblk hyl hall (by simp [bodyLs, magicL, putL_length] : 32 = _) (by omega) (by omega)).mono ?_
      rintro e w5 ⟨v, rfl, hown, hbn⟩
      exact hKK.out _ _ hbn (PieceIn.own hown (bodyL_length _ _ _).symm)
    · injection ho with ho
      subst ho
      obtain ⟨x13, hx13, hg13⟩ := hdeps ⟨13, .data⟩ (by simp) rfl
      have hg13 : PieceIn 32 (bodyL t f o) x13 W := hg13
      have hk13 := hg13
      obtain ⟨-, A13, c13, rfl, -, -, -⟩ := hg13
      have e13 : AA.tmps[24]?.getD undef = .slice A13 32 c13 := by rw [hA]; exact tmps_own (by kernel_rfl) hx13 (of_decide_eq_true (by kernel_rfl))
      clear hA hdeps hx13
      have hK0 : KK (AA.put (some 5) _) _ := hK _ _ (Below.refl _ _) hk13
      clear hK
      go_simp
      exact hK0
    · simp at ho
  · intro m W hbx hall
    obtain ⟨x0, m0, g0⟩ := hall 0 (by simp)
    replace g0 : LitIn w1.heap.size 4 magicL x0 W := g0
    obtain ⟨x1, m1, g1⟩ := hall 1 (by simp)
    replace g1 : PieceIn 4 magicL x1 W := g1
    obtain ⟨x2, m2, g2⟩ := hall 2 (by simp)
    replace g2 : x2 = .pointer (some ⟨w0.heap.size, 0, none⟩) := g2
    subst g2
    obtain ⟨x3, m3, g3⟩ := hall 3 (by simp)
    replace g3 : x3 = .int .i64 t := g3
    subst g3
    obtain ⟨x4, m4, g4⟩ := hall 4 (by simp)
    replace g4 : PieceIn 8 (putL t 8) x4 W := g4
    obtain ⟨x5, m5, g5⟩ := hall 5 (by simp)
    replace g5 : x5 = .pointer (some ⟨w0.heap.size, 1, none⟩) := g5
    subst g5
    obtain ⟨x6, m6, g6⟩ := hall 6 (by simp)
    replace g6 : x6 = .int .i64 f := g6
    subst g6
    obtain ⟨x7, m7, g7⟩ := hall 7 (by simp)
    replace g7 : PieceIn 4 (putL f 4) x7 W := g7
    obtain ⟨x8, m8, g8⟩ := hall 8 (by simp)
    replace g8 : x8 = .pointer (some ⟨w0.heap.size, 2, none⟩) := g8
    subst g8
    obtain ⟨x9, m9, g9⟩ := hall 9 (by simp)
    replace g9 : x9 = .int .i64 o := g9
    subst g9
    obtain ⟨x10, m10, g10⟩ := hall 10 (by simp)
    replace g10 : PieceIn 4 (putL o 4) x10 W := g10
    obtain ⟨x11, m11, g11⟩ := hall 11 (by simp)
    replace g11 : PieceIn 12 (List.replicate 12 0) x11 W := g11
    obtain ⟨x12, m12, g12⟩ := hall 12 (by simp)
    replace g12 : PcsS (bodyLs t f o) 5 x12 W := g12
    obtain ⟨x13, m13, g13⟩ := hall 13 (by simp)
    replace g13 : PieceIn 32 (bodyL t f o) x13 W := g13
    obtain ⟨x14, m14, g14⟩ := hall 14 (by simp)
    replace g14 : PieceIn 32 (bodyL t f o) x14 W := g14
    rw [frameM_all (by kernel_rfl) [x0, x1, .pointer (some ⟨w0.heap.size, 0, none⟩), .int .i64 t, x4, .pointer (some ⟨w0.heap.size, 1, none⟩), .int .i64 f, x7, .pointer (some ⟨w0.heap.size, 2, none⟩), .int .i64 o, x10, x11, x12, x13, x14] rfl (fun i hi => by
        rcases i with _ | _ | _ | _ | _ | _ | _ | _ | _ | _ | _ | _ | _ | _ | _ | i
        · exact m0
        · exact m1
        · exact m2
        · exact m3
        · exact m4
        · exact m5
        · exact m6
        · exact m7
        · exact m8
        · exact m9
        · exact m10
        · exact m11
        · exact m12
        · exact m13
        · exact m14
        · simp at hi; omega)]
    clear hall m0 m1 m2 m3 m4 m5 m6 m7 m8 m9 m10 m11 m12 m13 m14
    simp only [putAll, Act.put, List.setIfInBounds_toArray, List.set_cons_succ, List.set_cons_zero]
    clear g0 g1 g4 g7 g10 g11 g12 g13
    obtain ⟨-, A, c, rfl, h1, h2, hr⟩ := id g14
    go_wp2_with fail
    refine (of_n (bodyL t f o) 32 (bodyL_length _ _ _).symm A c W W.heap.size hr (Nat.le_refl _) h1 (by omega)).mono ?_
    rintro e w2 ⟨rfl, hb2⟩
    obtain ⟨⟨pa, pb, pc, pd⟩, hp⟩ : ∃ s, s = feedL ⟨0, 0, 0, 0⟩ (words (bodyL t f o)) := ⟨_, rfl⟩
    have HP := Lib.hid (show sumL8 (bodyL t f o) = octL pa pb pc pd by unfold sumL8; rw [← hp])
    rw [← hp]
    have ho := octets_any ⟨pa, pb, pc, pd⟩ w2
    simp only [Sm.val] at ho ⊢
    clear hp
    go_wp2_with fail
    refine ho.mono ?_
    clear ho
    rintro e w3 ⟨v, rfl, hown, hb3⟩
    have hb23 := below_step hb2 hb3
    have hp1 := PieceIn.below g14 hb23
    have hp2 := PieceIn.own hown (octL_length _ _ _ _).symm
    obtain ⟨-, A2, c2, rfl, -, -, -⟩ := hp2
    have hp2 := PieceIn.own hown (octL_length _ _ _ _).symm
    have hsz := hb23.size
    have hbel2 := hbel.trans ((below_step hbx hb23).mono hB0)
    have hbb : Below w3.heap.size w3 (w3.alloc (.cells #[.slice A 32 c, .slice A2 32 c2] 25)) := (Below.refl _ _).alloc (Nat.le_refl _) _
    have hj := join_pcs (W := w3.alloc (.cells #[.slice A 32 c, .slice A2 32 c2] 25)) (ys := [.slice A 32 c, .slice A2 32 c2]) (ls := [bodyL t f o, octL pa pb pc pd]) (n := 2) (T := 64) (g := w3.heap.size) (Blk.new _ _ _) rfl ⟨by rw [bodyL_length]; exact hp1.below hbb, by rw [octL_length]; exact hp2.below hbb, trivial⟩ (by simp [bodyL_length, octL_length]) (by omega) (by omega)
    clear hp1 hp2 hown g14 hr hb2 hb3 hb23 hbx hS
    go_wp2_with fail
    refine hj.mono ?_
    clear hj
    rintro e w4 ⟨v4, rfl, hown4, hb4⟩
    have hbel4 := hbel2.trans ((below_step hbb hb4).mono hbel2.size)
    have hown5 := own_mono hown4 (show w0.heap.size ≤ _ by have := hbel2.size; simp; omega)
    clear hb4 hbb hown4
    go_wp2_with fail
    go_ret2
    refine ⟨v4, rfl, ?_, hbel4⟩
    rw [henc.out, HP.out]
    simpa using hown5
end Go.Proofs.Ytcchnoadclidcaa
