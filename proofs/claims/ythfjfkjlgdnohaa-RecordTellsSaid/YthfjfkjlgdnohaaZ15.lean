/-
  record.Encode, by its contract. (mkrcenc.py)
-/
import Derived.Deep.Slices
import Derived.Deep.Fields
import Derived.ChangeSame
import Derived.Test.YthfjfkjlgdnohaaZ6
import Derived.Test.YthfjfkjlgdnohaaZ10
import Derived.Test.YthfjfkjlgdnohaaZ12
import Derived.Test.YthfjfkjlgdnohaaZ14
namespace Go.Proofs.Ythfjfkjlgdnohaa
open Go.RowKit

theorem own_small (r : Rc) (hk : r.kind = 1 ∨ r.kind = 2 ∨ r.kind = 3 ∨ r.kind = 4) (h : mayB r = true) : r.own.length ≤ 8 := by
  rcases hk with hk | hk | hk | hk
  · exact (propsB_small _ (mayB_1 r hk h).2.2.2.1).1
  · rw [(mayB_2 r hk h).2.2.2.2.2.1]; simp
  · rw [(mayB_3 r hk h).2.2.2.2.2.1]; simp
  · rw [(mayB_4 r hk h).2.2.2.1]; simp
def EncPost (w : World) (r : Rc) (e : Ending) (w' : World) : Prop := ∃ v, e = .returned (.tuple #[v, .int .i64 (recE r)]) ∧ (if recE r = 0 then w'.ownsRow w.heap.size 5 1 v (encL r).length (bts (encL r)) else v = .slice none 0 0) ∧ Below w.heap.size w w'
set_option maxRecDepth 100000 in
set_option maxHeartbeats 2000000 in
theorem renc_bad (r : Rc) (hE : recE r ≠ 0) (n : Nat) (hn : n = r.own.length) (A1 : Option Addr) (c1 : Nat) (w0 : World) (B1 : Nat) (hB1 : B1 ≤ w0.heap.size) (hr1 : Reads w0 B1 2 A1 n (pcells r.own)) (hn5 : n ≤ 5000000000000) (hv : ∀ x ∈ r.own, x.2.length ≤ 140737488351232) :
    Calls Try.prog 14 #[rcV r (.slice A1 n c1)] w0 (EncPost w0 r) := by
  have hc := fun W (hb : Below w0.heap.size w0 W) => rcheck_any r n hn A1 c1 W B1 (Nat.le_trans hB1 hb.size) (hr1.below (hb.mono hB1)) hn5 hv
  obtain ⟨E, hEE⟩ : ∃ E, E = recE r := ⟨_, rfl⟩
  unfold EncPost
  rw [← hEE] at hE hc ⊢
  clear hEE hn hr1 hv
  obtain ⟨rk, rn, rf, rg, ro, ri, rc, rd, ⟨ra, rb, rx, ry⟩⟩ := r
  have hb0 : Below w0.heap.size w0 (w0.alloc (.cells #[.int .i64 rk, .string ⟨rn.toArray⟩, .int .i64 rf, .int .i64 rg, .slice A1 n c1, .int .i64 ri, .int .i64 rc, .string ⟨rd.toArray⟩, .int .u64 ra, .int .u64 rb, .int .u64 rx, .int .u64 ry] 27)) := (Below.refl _ _).alloc (Nat.le_refl _) _
  have HC := Lib.hid (hc _ hb0)
  have HB := Lib.hid hb0
  have hd : (E != 0) = true := by simp [hE]
  have HE := Lib.hid hE
  clear hc hb0 hE
  show Calls _ _ #[.agg #[.int .i64 rk, .string ⟨rn.toArray⟩, .int .i64 rf, .int .i64 rg, .slice A1 n c1, .int .i64 ri, .int .i64 rc, .string ⟨rd.toArray⟩, .int .u64 ra, .int .u64 rb, .int .u64 rx, .int .u64 ry]] _ _
  go_enter Try.func14, Try.ntmps14
  go_wp2_with fail
  refine HC.out.mono ?_
  rintro e w1 ⟨rfl, hb1⟩
  have hb := HB.out.trans (hb1.mono HB.out.size)
  clear hb1
  go_wp2_with fail
  go_ret2
  exact ⟨_, rfl, by first | rfl | (rw [if_neg HE.out]; rfl), hb⟩

set_option maxRecDepth 100000 in
set_option maxHeartbeats 4000000 in
theorem renc_ok (r : Rc) (hE : recE r = 0) (n : Nat) (hn : n = r.own.length) (A1 : Option Addr) (c1 : Nat) (w0 : World) (B1 : Nat) (hB1 : B1 ≤ w0.heap.size) (hr1 : Reads w0 B1 2 A1 n (pcells r.own)) (hn5 : n ≤ 5000000000000) (hv : ∀ x ∈ r.own, x.2.length ≤ 140737488351232) :
    Calls Try.prog 14 #[rcV r (.slice A1 n c1)] w0 (EncPost w0 r) := by
  have hc := fun W (hb : Below w0.heap.size w0 W) => rcheck_any r n hn A1 c1 W B1 (Nat.le_trans hB1 hb.size) (hr1.below (hb.mono hB1)) hn5 hv
  obtain ⟨hkk, hmay⟩ := recE_kind r hE
  have h8 : r.own.length ≤ 8 := own_small r hkk hmay
  have ht := fun W (hb : Below w0.heap.size w0 W) => rtexts_any r hkk n hn A1 c1 W B1 (Nat.le_trans hB1 hb.size) (hr1.below (hb.mono hB1)) (by omega)
  have hsm := rtexts_small r hE
  have hw0 := fun m (hm : m = (rtexts r).length) A c W hr => fwrite_any (rtexts r) (fun s hs => Nat.le_trans (hsm.2 s hs) (by omega)) m hm A c W W.heap.size hr (Nat.le_refl _) (by omega)
  have hfl := fwrite_len r hE
  have henc : encL r = [[toByte r.kind], putL ((fwrite (rtexts r)).length : Int) 2, fwrite (rtexts r)].flatten := by simp [encL]
  obtain ⟨F, hF⟩ : ∃ F, F = fwrite (rtexts r) := ⟨_, rfl⟩
  obtain ⟨q, hq⟩ : ∃ q, q = F.length := ⟨_, rfl⟩
  obtain ⟨m, hm⟩ : ∃ m, m = (rtexts r).length := ⟨_, rfl⟩
  have hw := hw0 m hm
  clear hw0
  unfold TextsPost at ht
  simp only [← hF, ← hm, ← hq] at hw ht hfl henc
  rw [hE] at hc
  suffices hsu : Calls Try.prog 14 #[rcV r (.slice A1 n c1)] w0 (fun e w' => ∃ v, e = .returned (.tuple #[v, .int .i64 0]) ∧ w'.ownsRow w0.heap.size 5 1 v (encL r).length (bts (encL r)) ∧ Below w0.heap.size w0 w') from
    hsu.mono (fun e w' ⟨v, h1, h2, h3⟩ => ⟨v, by rw [hE]; exact h1, by rw [if_pos hE]; exact h2, h3⟩)
  obtain ⟨L, hL⟩ : ∃ L, L = encL r := ⟨_, rfl⟩
  obtain ⟨TX, hTX⟩ : ∃ TX, TX = scells (rtexts r) := ⟨_, rfl⟩
  rw [← hL] at henc ⊢
  simp only [← hTX] at ht hw
  have hwr : IntKind.u8.wrap r.kind = ((toByte r.kind).toNat : Int) := by rw [toByte_int]; rcases hkk with h | h | h | h <;> rw [h] <;> decide
  clear hF hm hL hTX hsm hkk hmay hn hr1 hv h8 hE
  obtain ⟨rk, rn, rf, rg, ro, ri, rc, rd, ⟨ra, rb, rx, ry⟩⟩ := r
  simp only at henc hwr
  have HENC := Lib.hid henc
  have hWr := Lib.hid hwr
  have HQ := Lib.hid hq
  have HFL := Lib.hid hfl
  clear henc hwr hq hfl
  have hk := Blk.new w0 27 #[.int .i64 rk, .string ⟨rn.toArray⟩, .int .i64 rf, .int .i64 rg, .slice A1 n c1, .int .i64 ri, .int .i64 rc, .string ⟨rd.toArray⟩, .int .u64 ra, .int .u64 rb, .int .u64 rx, .int .u64 ry]
  have hbel := (Below.refl w0.heap.size w0).alloc (Nat.le_refl _) (.cells #[.int .i64 rk, .string ⟨rn.toArray⟩, .int .i64 rf, .int .i64 rg, .slice A1 n c1, .int .i64 ri, .int .i64 rc, .string ⟨rd.toArray⟩, .int .u64 ra, .int .u64 rb, .int .u64 rx, .int .u64 ry] 27)
  have HC := Lib.hid (hc _ hbel)
  have HT2 := Lib.hid ht
  have HW := Lib.hid hw
  clear hc ht hw
  show Calls _ _ #[.agg #[.int .i64 rk, .string ⟨rn.toArray⟩, .int .i64 rf, .int .i64 rg, .slice A1 n c1, .int .i64 ri, .int .i64 rc, .string ⟨rd.toArray⟩, .int .u64 ra, .int .u64 rb, .int .u64 rx, .int .u64 ry]] _ _
  go_enter Try.func14, Try.ntmps14
  go_wp2_with fail
  refine HC.out.mono ?_
  rintro e w1 ⟨rfl, hb1⟩
  have hk := hk.below hb1 hk.lt
  have hbel := hbel.trans (hb1.mono hbel.size)
  clear hb1 HC
  obtain ⟨c0_, c1_, c2_, c3_, c4_, c5_, c6_, c7_, c8_, c9_, c10_, c11_⟩ := blk12 hk
  go_wp2_with fail
  refine (HT2.out w1 hbel).mono ?_
  clear HT2 c0_ c1_ c2_ c3_ c4_ c5_ c6_ c7_ c8_ c9_ c10_ c11_
  rintro e w2 ⟨v2, rfl, hown2, hb2⟩
  obtain ⟨A2, cc2, rfl, _, _, hr2⟩ := own_form hown2
  have hk := hk.below hb2 hk.lt
  have hbel := hbel.trans (hb2.mono hbel.size)
  clear hown2 hb2
  have HW2 := Lib.hid (HW.out A2 cc2 w2 hr2)
  clear hr2 HW
  go_wp2_with fail
  refine HW2.out.mono ?_
  clear HW2
  rintro e w3 ⟨v3, rfl, hown3, hb3⟩
  obtain ⟨Aw, cw, rfl, hw1, hw2, hr3⟩ := own_form hown3
  have hk := hk.below hb3 hk.lt
  have hbel := hbel.trans (hb3.mono hbel.size)
  have hB0 : w0.heap.size ≤ w3.heap.size := hbel.size
  have HPW := Lib.hid (fun W (hb : Below w3.heap.size w3 W) => (show PieceIn F.length F (.slice Aw q cw) W by rw [← HQ.out]; exact PieceIn.reads (hr3.below hb) hb.size hw1 hw2 HQ.out))
  have HT := Lib.hid (show 3 + q = ([[toByte rk], putL (q : Int) 2, F] : List (List UInt8)).flatten.length by simp [putL_length, ← HQ.out]; omega)
  have hqs : q ≤ 700 := HFL.out
  have hS := Lib.hid (fun (W' : World) (hB : Below w3.heap.size w3 W') => (blk12 (hk.below hB hk.lt) :
    W'.cell? ⟨w0.heap.size, 0, none⟩ = some (.int .i64 rk) ∧ W'.cell? ⟨w0.heap.size, 1, none⟩ = some (.string ⟨rn.toArray⟩) ∧ W'.cell? ⟨w0.heap.size, 2, none⟩ = some (.int .i64 rf) ∧ W'.cell? ⟨w0.heap.size, 3, none⟩ = some (.int .i64 rg) ∧ W'.cell? ⟨w0.heap.size, 4, none⟩ = some (.slice A1 n c1) ∧ W'.cell? ⟨w0.heap.size, 5, none⟩ = some (.int .i64 ri) ∧ W'.cell? ⟨w0.heap.size, 6, none⟩ = some (.int .i64 rc) ∧ W'.cell? ⟨w0.heap.size, 7, none⟩ = some (.string ⟨rd.toArray⟩) ∧ W'.cell? ⟨w0.heap.size, 8, none⟩ = some (.int .u64 ra) ∧ W'.cell? ⟨w0.heap.size, 9, none⟩ = some (.int .u64 rb) ∧ W'.cell? ⟨w0.heap.size, 10, none⟩ = some (.int .u64 rx) ∧ W'.cell? ⟨w0.heap.size, 11, none⟩ = some (.int .u64 ry)))
  clear hk hown3 hb3 hr3 hw1 hw2
  go_wp2_with fail
  refine wp_region_good (by kernel_rfl) (by kernel_rfl) [(fun v _ => v = .pointer (some ⟨w0.heap.size, 0, none⟩)),
    (fun v _ => v = .int .i64 rk),
    (fun v _ => v = .int .u8 (IntKind.u8.wrap rk)),
    (fun v W => PieceIn 1 [toByte rk] v W),
    (fun v _ => v = .slice Aw q cw),
    (fun v _ => v = .int .i64 (q : Int)),
    (fun v W => PieceIn 2 (putL (q : Int) 2) v W),
    (fun v _ => v = .slice Aw q cw),
    (fun v W => Pcs [[toByte rk], putL (q : Int) 2, F] 3 v W),
    (fun v W => W.ownsRow w0.heap.size 5 1 v (3 + q) (bts [[toByte rk], putL (q : Int) 2, F].flatten)),
    (fun v W => W.ownsRow w0.heap.size 5 1 v (3 + q) (bts [[toByte rk], putL (q : Int) 2, F].flatten)),
    (fun v _ => v = .int .i64 0)] ?_ ?_ ?_
  · repeat' (first | exact stays_nil | refine stays_cons ?_ ?_ | exact Stays.pure | exact Stays.own _ _ _ _ _ | exact PieceIn.stays _ _ | exact Pcs.stays _ _)
  · intro i o ho m W hb0 hdeps AA KK hA hK
    rcases i with _ | _ | _ | _ | _ | _ | _ | _ | _ | _ | _ | _ | i
    · injection ho with ho
      subst ho
      have ef1 : AA.tmps[1]?.getD undef = .pointer (some ⟨w0.heap.size, 0, none⟩) := by rw [hA]; exact tmps_free (by kernel_rfl)
      clear hA hdeps
      have hK0 : KK (AA.put (some 21) _) _ := hK (.pointer (some ⟨w0.heap.size, 0, none⟩)) _ (Below.refl _ _) (Eq.refl _)
      clear hK
      go_simp
      exact hK0
    · injection ho with ho
      subst ho
      obtain ⟨x0, hx0, hg0⟩ := hdeps ⟨0, .data⟩ (by simp) rfl
      have hg0 : x0 = .pointer (some ⟨w0.heap.size, 0, none⟩) := hg0
      subst hg0
      have e0 : AA.tmps[21]?.getD undef = .pointer (some ⟨w0.heap.size, 0, none⟩) := by rw [hA]; exact tmps_own (by kernel_rfl) hx0 (of_decide_eq_true (by kernel_rfl))
      clear hA hdeps hx0
      obtain ⟨c0, c1_, c2, c3, c4, c5, c6, c7, c8, c9, c10, c11⟩ := hS.out W hb0
      have hK0 : KK (AA.put (some 22) _) _ := hK (.int .i64 rk) _ (Below.refl _ _) (Eq.refl _)
      clear hK
      go_simp
      exact hK0
    · injection ho with ho
      subst ho
      obtain ⟨x1, hx1, hg1⟩ := hdeps ⟨1, .data⟩ (by simp) rfl
      have hg1 : x1 = .int .i64 rk := hg1
      subst hg1
      have e1 : AA.tmps[22]?.getD undef = .int .i64 rk := by rw [hA]; exact tmps_own (by kernel_rfl) hx1 (of_decide_eq_true (by kernel_rfl))
      clear hA hdeps hx1
      have hK0 : KK (AA.put (some 23) _) _ := hK (.int .u8 (IntKind.u8.wrap rk)) _ (Below.refl _ _) (Eq.refl _)
      clear hK
      go_simp
      exact hK0
    · injection ho with ho
      subst ho
      obtain ⟨x2, hx2, hg2⟩ := hdeps ⟨2, .data⟩ (by simp) rfl
      have hg2 : x2 = .int .u8 (IntKind.u8.wrap rk) := hg2
      subst hg2
      have e2 : AA.tmps[23]?.getD undef = .int .u8 (IntKind.u8.wrap rk) := by rw [hA]; exact tmps_own (by kernel_rfl) hx2 (of_decide_eq_true (by kernel_rfl))
      clear hA hdeps hx2
      have hK0 : KK (AA.put (some 24) _) _ := hK _ _ ((Below.refl _ _).alloc (Nat.le_refl _) (.cells #[.int .u8 (IntKind.u8.wrap rk)] 5)) (PieceIn.lit W [toByte rk] 1 rfl (by decide) #[.int .u8 (IntKind.u8.wrap rk)] 5 (by rw [hWr.out]; rfl))
      clear hK
      go_simp
      exact hK0
    · injection ho with ho
      subst ho
      have ef5 : AA.tmps[5]?.getD undef = .slice Aw q cw := by rw [hA]; exact tmps_free (by kernel_rfl)
      clear hA hdeps
      have hK0 : KK (AA.put (some 25) _) _ := hK (.slice Aw q cw) _ (Below.refl _ _) (Eq.refl _)
      clear hK
      go_simp
      exact hK0
    · injection ho with ho
      subst ho
      obtain ⟨x4, hx4, hg4⟩ := hdeps ⟨4, .data⟩ (by simp) rfl
      have hg4 : x4 = .slice Aw q cw := hg4
      subst hg4
      have e4 : AA.tmps[25]?.getD undef = .slice Aw q cw := by rw [hA]; exact tmps_own (by kernel_rfl) hx4 (of_decide_eq_true (by kernel_rfl))
      clear hA hdeps hx4
      have hK0 : KK (AA.put (some 26) _) _ := hK (.int .i64 (q : Int)) _ (Below.refl _ _) (Eq.refl _)
      clear hK
      go_simp
      exact hK0
    · injection ho with ho
      subst ho
      obtain ⟨x5, hx5, hg5⟩ := hdeps ⟨5, .data⟩ (by simp) rfl
      have hg5 : x5 = .int .i64 (q : Int) := hg5
      subst hg5
      have e5 : AA.tmps[26]?.getD undef = .int .i64 (q : Int) := by rw [hA]; exact tmps_own (by kernel_rfl) hx5 (of_decide_eq_true (by kernel_rfl))
      clear hA hdeps hx5
      have hKK := Lib.hid hK
      clear hK
      go_simp
      refine (put_any (q : Int) 2 2 (by decide) _).mono ?_
      rintro e w5 ⟨v, rfl, hown, hbn⟩
      exact hKK.out _ _ hbn (PieceIn.own hown (putL_length _ _).symm)
    · injection ho with ho
      subst ho
      have ef5 : AA.tmps[5]?.getD undef = .slice Aw q cw := by rw [hA]; exact tmps_free (by kernel_rfl)
      clear hA hdeps
      have hK0 : KK (AA.put (some 28) _) _ := hK (.slice Aw q cw) _ (Below.refl _ _) (Eq.refl _)
      clear hK
      go_simp
      exact hK0
    · injection ho with ho
      subst ho
      obtain ⟨x3, hx3, hg3⟩ := hdeps ⟨3, .data⟩ (by simp) rfl
      have hg3 : PieceIn 1 [toByte rk] x3 W := hg3
      have hk3 := hg3
      obtain ⟨-, A3, c3, rfl, -, -, -⟩ := hg3
      have e3 : AA.tmps[24]?.getD undef = .slice A3 1 c3 := by rw [hA]; exact tmps_own (by kernel_rfl) hx3 (of_decide_eq_true (by kernel_rfl))
      obtain ⟨x6, hx6, hg6⟩ := hdeps ⟨6, .data⟩ (by simp) rfl
      have hg6 : PieceIn 2 (putL (q : Int) 2) x6 W := hg6
      have hk6 := hg6
      obtain ⟨-, A6, c6, rfl, -, -, -⟩ := hg6
      have e6 : AA.tmps[27]?.getD undef = .slice A6 2 c6 := by rw [hA]; exact tmps_own (by kernel_rfl) hx6 (of_decide_eq_true (by kernel_rfl))
      obtain ⟨x7, hx7, hg7⟩ := hdeps ⟨7, .data⟩ (by simp) rfl
      have hg7 : x7 = .slice Aw q cw := hg7
      subst hg7
      have e7 : AA.tmps[28]?.getD undef = .slice Aw q cw := by rw [hA]; exact tmps_own (by kernel_rfl) hx7 (of_decide_eq_true (by kernel_rfl))
      clear hA hdeps hx3 hx6 hx7
      have hK0 : KK (AA.put (some 29) _) _ := hK _ _ ((Below.refl _ _).alloc (Nat.le_refl _) _) (Pcs.new (W := W) (ys := [.slice A3 1 c3, .slice A6 2 c6, .slice Aw q cw]) (ls := [[toByte rk], putL (q : Int) 2, F]) rfl ⟨hk3, (by rw [putL_length]; exact hk6), HPW.out W hb0, trivial⟩)
      clear hK
      go_simp
      exact hK0
    · injection ho with ho
      subst ho
      obtain ⟨x8, hx8, hg8⟩ := hdeps ⟨8, .data⟩ (by simp) rfl
      have hg8 : Pcs [[toByte rk], putL (q : Int) 2, F] 3 x8 W := hg8
      have hk8 := hg8
      obtain ⟨g, ys, rfl, hblk, hyl, hall⟩ := hg8
      have e8 : AA.tmps[29]?.getD undef = .slice (some ⟨g, 0, none⟩) 3 3 := by rw [hA]; exact tmps_own (by kernel_rfl) hx8 (of_decide_eq_true (by kernel_rfl))
      clear hA hdeps hx8
      have hKK := Lib.hid hK
      clear hK
      go_simp
      refine (join_pcs hblk hyl hall (HT.out : 3 + q = _) (by omega) (by omega)).mono ?_
      rintro e w5 ⟨v, rfl, hown, hbn⟩
      exact hKK.out _ _ hbn (own_mono hown (Nat.le_trans hB0 hb0.size))
    · injection ho with ho
      subst ho
      obtain ⟨x9, hx9, hg9⟩ := hdeps ⟨9, .data⟩ (by simp) rfl
      have hg9 : W.ownsRow w0.heap.size 5 1 x9 (3 + q) (bts [[toByte rk], putL (q : Int) 2, F].flatten) := hg9
      have e9 : AA.tmps[30]?.getD undef = x9 := by rw [hA]; exact tmps_own (by kernel_rfl) hx9 (of_decide_eq_true (by kernel_rfl))
      clear hA hdeps hx9
      have hK0 : KK (AA.put (some 2) _) _ := hK _ _ (Below.refl _ _) hg9
      clear hK
      go_simp
      exact hK0
    · injection ho with ho
      subst ho
      clear hA hdeps
      have hK0 : KK (AA.put (some 3) _) _ := hK (.int .i64 0) _ (Below.refl _ _) (Eq.refl _)
      clear hK
      go_simp
      exact hK0
    · simp at ho
  · intro m W hbx hall
    obtain ⟨x0, m0, g0⟩ := hall 0 (by simp)
    replace g0 : x0 = .pointer (some ⟨w0.heap.size, 0, none⟩) := g0
    subst g0
    obtain ⟨x1, m1, g1⟩ := hall 1 (by simp)
    replace g1 : x1 = .int .i64 rk := g1
    subst g1
    obtain ⟨x2, m2, g2⟩ := hall 2 (by simp)
    replace g2 : x2 = .int .u8 (IntKind.u8.wrap rk) := g2
    subst g2
    obtain ⟨x3, m3, g3⟩ := hall 3 (by simp)
    replace g3 : PieceIn 1 [toByte rk] x3 W := g3
    obtain ⟨x4, m4, g4⟩ := hall 4 (by simp)
    replace g4 : x4 = .slice Aw q cw := g4
    subst g4
    obtain ⟨x5, m5, g5⟩ := hall 5 (by simp)
    replace g5 : x5 = .int .i64 (q : Int) := g5
    subst g5
    obtain ⟨x6, m6, g6⟩ := hall 6 (by simp)
    replace g6 : PieceIn 2 (putL (q : Int) 2) x6 W := g6
    obtain ⟨x7, m7, g7⟩ := hall 7 (by simp)
    replace g7 : x7 = .slice Aw q cw := g7
    subst g7
    obtain ⟨x8, m8, g8⟩ := hall 8 (by simp)
    replace g8 : Pcs [[toByte rk], putL (q : Int) 2, F] 3 x8 W := g8
    obtain ⟨x9, m9, g9⟩ := hall 9 (by simp)
    replace g9 : W.ownsRow w0.heap.size 5 1 x9 (3 + q) (bts [[toByte rk], putL (q : Int) 2, F].flatten) := g9
    obtain ⟨x10, m10, g10⟩ := hall 10 (by simp)
    replace g10 : W.ownsRow w0.heap.size 5 1 x10 (3 + q) (bts [[toByte rk], putL (q : Int) 2, F].flatten) := g10
    obtain ⟨x11, m11, g11⟩ := hall 11 (by simp)
    replace g11 : x11 = .int .i64 0 := g11
    subst g11
    rw [frameM_all (by kernel_rfl) [.pointer (some ⟨w0.heap.size, 0, none⟩), .int .i64 rk, .int .u8 (IntKind.u8.wrap rk), x3, .slice Aw q cw, .int .i64 (q : Int), x6, .slice Aw q cw, x8, x9, x10, .int .i64 0] rfl (fun i hi => by
        rcases i with _ | _ | _ | _ | _ | _ | _ | _ | _ | _ | _ | _ | i
        · exact m0
        · exact m1
        · exact m2
        · exact m3
        · exact m4
        · exact m5
        · exact m6
        · exact m7
        · exact m8
        · exact m9
        · exact m10
        · exact m11
        · simp at hi; omega)]
    clear hall m0 m1 m2 m3 m4 m5 m6 m7 m8 m9 m10 m11
    simp only [putAll, Act.put, List.setIfInBounds_toArray, List.set_cons_succ, List.set_cons_zero]
    repeat go_step
    go_ret2
    exact ⟨_, rfl, by rw [HENC.out, ← HT.out]; exact g10, hbel.trans (hbx.mono hB0)⟩
theorem renc_any (r : Rc) (n : Nat) (hn : n = r.own.length) (A1 : Option Addr) (c1 : Nat) (w0 : World) (B1 : Nat) (hB1 : B1 ≤ w0.heap.size) (hr1 : Reads w0 B1 2 A1 n (pcells r.own)) (hn5 : n ≤ 5000000000000) (hv : ∀ x ∈ r.own, x.2.length ≤ 140737488351232) :
    Calls Try.prog 14 #[rcV r (.slice A1 n c1)] w0 (EncPost w0 r) := by
  by_cases hE : recE r = 0
  · exact renc_ok r hE n hn A1 c1 w0 B1 hB1 hr1 hn5 hv
  · exact renc_bad r hE n hn A1 c1 w0 B1 hB1 hr1 hn5 hv
end Go.Proofs.Ythfjfkjlgdnohaa

/-
  Arguments opened field by field, to any depth: what a row of cells reads as.
-/
namespace Go.Proofs.Ythfjfkjlgdnohaa
open Go.RowKit Go.ChangeShapes Go.WideShapes Go.Deep Go.ChangeAt

structure CellsIn {H : Type} (enc : TypeId × Value → H) (P : Program) (W : World) (K : Nat) (t : TypeId) (cs : List Value) (d : DataW H) : Prop where
  rd : ∃ fuel p, DataW.trod enc P W 0 (fun _ => true) true fuel t cs = some (d, p)
  wt : ∀ n ∈ d.weights P t, n ≤ reachBytes
  bk : Rows.uptoBulk d ≤ K

section
variable {H : Type} {enc : TypeId × Value → H} {P : Program} {W : World} {K : Nat} {t : TypeId} {cs : List Value} {d : DataW H}
theorem ArgIn.cellsIn {v : Value} (h : ArgIn enc P W t v d) : CellsIn enc P W (Rows.uptoBulk d) t v.cells.toList d := by
  obtain ⟨_, ⟨p, m, hr⟩, hw⟩ := h
  exact ⟨⟨m, p, hr⟩, hw, Nat.le_refl _⟩
theorem ArgIn.agg {v : Value} {fs : Array Field} (h : ArgIn enc P W t v d) (ht : P.underlying t = some (.struct fs)) : ∃ cs, v = .agg cs ∧ CellsIn enc P W (Rows.uptoBulk d) t cs.toList d := by
  have hc := h.cellsIn
  obtain ⟨⟨base, ho⟩, _, _⟩ := h
  obtain ⟨cs, rfl, _⟩ := okWide_struct ht ho
  exact ⟨cs, rfl, hc⟩
theorem ArgIn.slc {v : Value} {e : TypeId} (h : ArgIn enc P W t v d) (ht : P.underlying t = some (.slice e)) : ∃ A n c, v = .slice A n c ∧ CellsIn enc P W (Rows.uptoBulk d) t [.slice A n c] d := by
  have hc := h.cellsIn
  obtain ⟨⟨base, ho⟩, _, _⟩ := h
  obtain ⟨A, n, c, rfl⟩ := okWide_slice ht ho
  exact ⟨A, n, c, rfl, by simpa [Value.cells] using hc⟩
theorem CellsIn.str (h : CellsIn enc P W K t cs d) (ht : P.underlying t = some .string) : ∃ s : List UInt8, cs = [.string ⟨s.toArray⟩] ∧ s.length ≤ 140737488351232 ∧ s.length + 1 ≤ K := by
  obtain ⟨⟨m, p, hr⟩, hw, hb⟩ := h
  obtain ⟨s, rfl, hx, _⟩ := DataW.trod_string ht hr
  simp only [Prod.mk.injEq] at hx
  rw [hx.1] at hw hb
  refine ⟨s.data.toList, by simp, ?_, ?_⟩
  · have := hw s.data.toList.length (by simp [DataW.weights])
    simpa [reachBytes] using this
  · simpa [Rows.uptoBulk] using hb
theorem CellsIn.int {k : IntKind} (h : CellsIn enc P W K t cs d) (ht : P.underlying t = some (.int k)) : ∃ n, cs = [.int k n] ∧ (Lit.int k n).wf = true := by
  obtain ⟨⟨m, p, hr⟩, hw, hb⟩ := h
  obtain ⟨n, hcs, _, hn⟩ := DataW.trod_int ht hr
  exact ⟨n, hcs, hn⟩
theorem CellsIn.i64 (h : CellsIn enc P W K t cs d) (ht : P.underlying t = some (.int .i64)) : ∃ n : Int, cs = [.int .i64 n] ∧ -9223372036854775808 ≤ n ∧ n ≤ 9223372036854775807 := by
  obtain ⟨n, hcs, hn⟩ := h.int ht
  simp [Lit.wf, IntKind.min, IntKind.max, IntKind.signed, IntKind.bits] at hn
  exact ⟨n, hcs, by omega, by omega⟩
theorem CellsIn.u64 (h : CellsIn enc P W K t cs d) (ht : P.underlying t = some (.int .u64)) : ∃ n : Int, cs = [.int .u64 n] ∧ 0 ≤ n ∧ n < 18446744073709551616 := by
  obtain ⟨n, hcs, hn⟩ := h.int ht
  simp [Lit.wf, IntKind.min, IntKind.max, IntKind.signed, IntKind.bits] at hn
  exact ⟨n, hcs, by omega, by omega⟩
theorem CellsIn.u8 (h : CellsIn enc P W K t cs d) (ht : P.underlying t = some (.int .u8)) : ∃ b : UInt8, cs = [.int .u8 (b.toNat : Int)] := by
  obtain ⟨n, hcs, hn⟩ := h.int ht
  simp [Lit.wf, IntKind.min, IntKind.max, IntKind.signed, IntKind.bits] at hn
  refine ⟨UInt8.ofNat n.toNat, ?_⟩
  rw [hcs]
  have : (UInt8.ofNat n.toNat).toNat = n.toNat := by rw [UInt8.toNat_ofNat']; omega
  rw [this, Int.toNat_of_nonneg (by omega)]
theorem CellsIn.bool (h : CellsIn enc P W K t cs d) (ht : P.underlying t = some .bool) : ∃ b, cs = [.bool b] := by
  obtain ⟨⟨m, p, hr⟩, hw, hb⟩ := h
  obtain ⟨b, hcs, _⟩ := DataW.trod_bool ht hr
  exact ⟨b, hcs⟩
theorem weightsEach_get : ∀ (ts : List TypeId) (ds : List (DataW H)) (j : Nat) (u : TypeId) (y : DataW H) (n : Nat), ts[j]? = some u → ds[j]? = some y → n ∈ y.weights P u → n ∈ DataW.weightsEach P ts ds
  | [], _, j, _, _, _, h, _, _ => by simp at h
  | _ :: _, [], j, _, _, _, _, h, _ => by simp at h
  | a :: ts, b :: ds, 0, u, y, n, h, h', hn => by
    simp only [List.getElem?_cons_zero, Option.some.injEq] at h h'
    subst h h'
    simp only [DataW.weightsEach, List.mem_append]
    exact .inl hn
  | a :: ts, b :: ds, j + 1, u, y, n, h, h', hn => by
    simp only [List.getElem?_cons_succ] at h h'
    simp only [DataW.weightsEach, List.mem_append]
    exact .inr (weightsEach_get ts ds j u y n h h' hn)
theorem weightsAll_get {L : List (DataW H)} {e : TypeId} {x : DataW H} {n : Nat} (hx : x ∈ L) (hn : n ∈ x.weights P e) : n ∈ DataW.weightsAll P e L := by
  induction L with
  | nil => cases hx
  | cons y L ih =>
    simp only [DataW.weightsAll, List.mem_append]
    rcases List.mem_cons.1 hx with rfl | hx
    · exact .inl hn
    · exact .inr (ih hx)
theorem bulk_pos (d : DataW H) : 1 ≤ Rows.uptoBulk d := by
  cases d with
  | lit l => cases l <;> simp [Rows.uptoBulk]
  | _ => simp [Rows.uptoBulk]
theorem bulkAll_get {L : List (DataW H)} {x : DataW H} (hx : x ∈ L) : Rows.uptoBulk x ≤ Rows.uptoBulkAll L := by
  induction L with
  | nil => cases hx
  | cons y L ih =>
    simp only [Rows.uptoBulkAll]
    rcases List.mem_cons.1 hx with rfl | hx
    · omega
    · have := ih hx
      omega
theorem bulkAll_len (L : List (DataW H)) : L.length ≤ Rows.uptoBulkAll L := by
  induction L with
  | nil => exact Nat.zero_le _
  | cons x r ih =>
    have := bulk_pos x
    simp only [List.length_cons, Rows.uptoBulkAll]
    omega
theorem CellsIn.fields {fs : Array Field} (h : CellsIn enc P W K t cs d) (ht : P.underlying t = some (.struct fs)) :
    cs.length = P.cellsOf t ∧ ∀ (j : Nat) (f : Field), fs[j]? = some f → ∃ y, CellsIn enc P W K f.type ((cs.drop f.offset).take (P.cellsOf f.type)) y := by
  obtain ⟨⟨m, p, hr⟩, hw, hb⟩ := h
  obtain ⟨xs, n, _, hx, hl, hxl, hj⟩ := DataW.trod_struct ht hr
  simp only [Prod.mk.injEq] at hx
  rw [hx.1] at hw hb
  refine ⟨hl, fun j f hf => ?_⟩
  have hlt : j < fs.size := (Array.getElem?_eq_some_iff.1 hf).1
  have hg : xs[j]? = some (xs[j]'(by omega)) := List.getElem?_eq_getElem (by omega)
  refine ⟨(xs[j]'(by omega)).1, ⟨n, _, (hj j f hf).trans hg⟩, ?_, ?_⟩
  · intro q hq
    refine hw q ?_
    simp only [DataW.weights, ht]
    refine weightsEach_get _ _ j f.type (xs[j]'(by omega)).1 q ?_ (by rw [List.getElem?_map, hg]; rfl) hq
    rw [List.getElem?_map, Array.getElem?_toList, hf]
    rfl
  · have := bulkAll_get (x := (xs[j]'(by omega)).1) (L := xs.map (·.1)) (List.mem_map.2 ⟨xs[j]'(by omega), List.getElem_mem _, rfl⟩)
    simp only [Rows.uptoBulk] at hb
    omega
theorem CellsIn.slice {e : TypeId} (h : CellsIn enc P W K t cs d) (ht : P.underlying t = some (.slice e)) :
    cs = [.slice none 0 0] ∨ ∃ (a : Addr) (n c : Nat) (D : Nat → DataW H), cs = [.slice (some a) n c] ∧ n ≤ c ∧ c ≤ maxLen ∧ c * P.bytesOf e ≤ 140737488351232 ∧ n ≤ K ∧
      ∀ i, i < n → ∃ cs', W.cells? 0 (a.add (i * P.cellsOf e)) (P.cellsOf e) = some cs' ∧ CellsIn enc P W K e cs' (D i) := by
  obtain ⟨⟨m, p, hr⟩, hw, hb⟩ := h
  rcases Go.Deep.open_slice ht hr with ⟨hcs, hx⟩ | ⟨a, l, cc, mm, nn, D, Pl, hcs, _, hl, hm, hmm, hx, hi⟩
  · exact .inl hcs
  · right
    simp only [Prod.mk.injEq] at hx
    rw [hx.1] at hw hb
    have hmc : mm = cc := by rw [hmm]; rfl
    have hw1 := hw ((((List.range l).map D).length + ((List.range (mm - l)).map fun j => D (l + j)).length) * P.bytesOf e) (by simp only [DataW.weights, ht]; exact List.mem_cons_self ..)
    have hl2 : l + (mm - l) = cc := by omega
    simp only [List.length_map, List.length_range, hl2, reachBytes] at hw1
    have hbl := bulkAll_len ((List.range l).map D)
    simp only [Rows.uptoBulk, List.length_map, List.length_range] at hb hbl
    refine ⟨a, l, cc, D, hcs, hl, hm, hw1, by omega, fun i hil => ?_⟩
    obtain ⟨cs', hc, ht'⟩ := hi i (by omega)
    have hmem : D i ∈ (List.range l).map D := List.mem_map.2 ⟨i, List.mem_range.2 hil, rfl⟩
    refine ⟨cs', hc, ⟨_, _, ht'⟩, ?_, ?_⟩
    · intro q hq
      refine hw q ?_
      simp only [DataW.weights, ht, List.mem_cons, List.mem_append]
      exact .inr (.inl (weightsAll_get hmem hq))
    · have := bulkAll_get hmem
      omega
theorem flatMap_len {α : Type} {Enc : α → List Value} {k : Nat} (hE : ∀ x, (Enc x).length = k) (l : List α) : (l.flatMap Enc).length = l.length * k := by
  induction l with
  | nil => simp
  | cons x l ih => rw [List.flatMap_cons, List.length_append, hE, ih, List.length_cons, Nat.add_mul]; omega
theorem flatMap_get {α : Type} {Enc : α → List Value} {k : Nat} (hE : ∀ x, (Enc x).length = k) (l : List α) (i j : Nat) (hi : i < l.length) (hj : j < k) : (l.flatMap Enc)[i * k + j]? = (Enc l[i])[j]? := by
  induction l generalizing i with
  | nil => cases hi
  | cons x l ih =>
    rw [List.flatMap_cons]
    cases i with
    | zero => rw [Nat.zero_mul, Nat.zero_add, List.getElem?_append_left (by rw [hE]; exact hj)]; rfl
    | succ i =>
      rw [List.getElem?_append_right (by rw [hE, Nat.add_mul]; omega), hE, show (i + 1) * k + j - k = i * k + j by rw [Nat.add_mul]; omega, ih i (by simpa using hi)]
      rfl
/-- A LIST: each element by its own law -/
theorem CellsIn.list {α : Type} {e : TypeId} {k : Nat} (Enc : α → List Value) (G : α → Prop) (hE : ∀ x, (Enc x).length = k) (hk : 0 < k) (hC : P.cellsOf e = k) (ht : P.underlying t = some (.slice e))
    (hel : ∀ cs d, CellsIn enc P W K e cs d → ∃ x : α, cs = Enc x ∧ G x) (h : CellsIn enc P W K t cs d) :
    ∃ (A : Option Addr) (l : List α) (n c : Nat), cs = [.slice A n c] ∧ n = l.length ∧ n ≤ c ∧ c ≤ maxLen ∧ c * P.bytesOf e ≤ 140737488351232 ∧ n ≤ K ∧ Reads W W.heap.size k A n (l.flatMap Enc) ∧ ∀ x ∈ l, G x := by
  rcases h.slice ht with rfl | ⟨a, n, c, D, rfl, hn, hm, hb, hK, hi⟩
  · exact ⟨none, [], 0, 0, rfl, rfl, Nat.le_refl _, by unfold maxLen; omega, by omega, Nat.zero_le _, ⟨by simp, fun h => absurd h (by omega)⟩, by simp⟩
  · rw [hC] at hi
    have hq : ∀ i, i < n → ∃ x : α, (∀ j, j < k → W.cell? (a.add (i * k + j)) = (Enc x)[j]?) ∧ G x := by
      intro i hin
      obtain ⟨cs', hc, hcell⟩ := hi i hin
      obtain ⟨x, rfl, hg⟩ := hel _ _ hcell
      obtain ⟨_, hcl, hat⟩ := World.cells?_some hc
      refine ⟨x, fun j hj => ?_, hg⟩
      have := hat j hj
      rwa [add_of_add] at this
    obtain ⟨l, hl, hlx⟩ : ∃ l : List α, l.length = n ∧ ∀ i (h : i < l.length), (∀ j, j < k → W.cell? (a.add (i * k + j)) = (Enc l[i])[j]?) ∧ G l[i] := by
      clear hi hK hb hm hn h
      induction n with
      | zero => exact ⟨[], rfl, fun i h => by simp at h⟩
      | succ n ih =>
        obtain ⟨l, hl, hlx⟩ := ih (fun i hin => hq i (by omega))
        obtain ⟨x, hx, hg⟩ := hq n (by omega)
        refine ⟨l ++ [x], by simp [hl], fun i hin => ?_⟩
        rcases Nat.lt_or_ge i l.length with hlt | hge
        · rw [List.getElem_append_left hlt]
          exact hlx i hlt
        · have : i = l.length := by simp at hin; omega
          subst this
          rw [List.getElem_append_right (Nat.le_refl _)]
          simp only [Nat.sub_self, List.getElem_cons_zero]
          rw [hl]
          exact ⟨hx, hg⟩
    refine ⟨some a, l, n, c, rfl, hl.symm, hn, hm, hb, hK, ⟨by rw [flatMap_len hE, hl], fun h0 => ⟨a, rfl, ?_, fun j u hu => ?_⟩⟩, fun x hx => ?_⟩
    · obtain ⟨h1, _⟩ := hlx 0 (by omega)
      have h2 := h1 0 hk
      rw [List.getElem?_eq_getElem (by rw [hE]; exact hk)] at h2
      have := World.block_lt_of_cell? W _ h2
      rwa [block_of_add] at this
    · have hj : j < n * k := by
        have h3 := (List.getElem?_eq_some_iff.1 hu).1
        rwa [flatMap_len hE, hl] at h3
      have hdm := Nat.div_add_mod j k
      have hmod := Nat.mod_lt j hk
      have hdv : j / k < n := Nat.div_lt_of_lt_mul (by rw [Nat.mul_comm]; exact hj)
      have e1 : j = j / k * k + j % k := by rw [Nat.mul_comm]; exact hdm.symm
      rw [e1, flatMap_get hE l _ _ (by omega) hmod] at hu
      rw [e1, (hlx (j / k) (by omega)).1 (j % k) hmod]
      exact hu
    · obtain ⟨i, hil, rfl⟩ := List.getElem_of_mem hx
      exact (hlx i hil).2
end
end Go.Proofs.Ythfjfkjlgdnohaa

/-
  An argument that is a record.
-/
namespace Go.Proofs.Ythfjfkjlgdnohaa
open Go.RowKit

theorem list12 {α : Type} {l : List α} (h : l.length = 12) : ∃ a b c d e f g h i j k m, l = [a, b, c, d, e, f, g, h, i, j, k, m] := by
  match l, h with
  | [a, b, c, d, e, f, g, h, i, j, k, m], _ => exact ⟨a, b, c, d, e, f, g, h, i, j, k, m, rfl⟩
theorem list4 {α : Type} {l : List α} (h : l.length = 4) : ∃ a b c d, l = [a, b, c, d] := by
  match l, h with
  | [a, b, c, d], _ => exact ⟨a, b, c, d, rfl⟩
theorem list2 {α : Type} {l : List α} (h : l.length = 2) : ∃ a b, l = [a, b] := by
  match l, h with
  | [a, b], _ => exact ⟨a, b, rfl⟩
theorem Try.cofInt : Try.prog.cellsOf 3 = 1 := by kernel_rfl
theorem Try.cofStr : Try.prog.cellsOf 9 = 1 := by kernel_rfl
theorem Try.cofProps : Try.prog.cellsOf 22 = 1 := by kernel_rfl
theorem Try.cofProp : Try.prog.cellsOf 99 = 2 := by kernel_rfl
theorem Try.cofU64 : Try.prog.cellsOf 23 = 1 := by kernel_rfl
theorem Try.cofSum : Try.prog.cellsOf 25 = 4 := by kernel_rfl
theorem Try.cofRec : Try.prog.cellsOf 27 = 12 := by kernel_rfl
theorem Try.cofU8 : Try.prog.cellsOf 5 = 1 := by kernel_rfl
theorem Try.bofU8 : Try.prog.bytesOf 5 = 1 := by kernel_rfl
theorem Try.bofProp : Try.prog.bytesOf 99 = 32 := by kernel_rfl
section
variable {H : Type} {enc : TypeId × Value → H} {W : World} {K : Nat} {cs : List Value} {d : DataW H}
theorem CellsIn.prop (h : CellsIn enc Try.prog W K 99 cs d) : ∃ x : BS × BS, cs = [strV x.1, strV x.2] ∧ (x.1.length ≤ 140737488351232 ∧ x.2.length ≤ 140737488351232) := by
  obtain ⟨hl, hf⟩ := h.fields Try.underlying99
  obtain ⟨c0, c1, rfl⟩ := list2 (hl.trans Try.cofProp)
  obtain ⟨y0, q0⟩ := hf 0 _ rfl
  obtain ⟨y1, q1⟩ := hf 1 _ rfl
  obtain ⟨s0, e0, b0, _⟩ := q0.str Try.underlying9
  obtain ⟨s1, e1, b1, _⟩ := q1.str Try.underlying9
  simp [Try.cofStr] at e0 e1
  exact ⟨(s0, s1), by rw [e0, e1]; rfl, b0, b1⟩
theorem CellsIn.props (h : CellsIn enc Try.prog W K 22 cs d) :
    ∃ (A : Option Addr) (l : PL) (n c : Nat), cs = [.slice A n c] ∧ n = l.length ∧ n ≤ c ∧ c ≤ 4398046511104 ∧ n ≤ K ∧ Reads W W.heap.size 2 A n (pcells l) ∧ strOk l := by
  obtain ⟨A, l, n, c, hcs, hn, hc, _, hb, hK, hr, hg⟩ := h.list (fun x : BS × BS => [strV x.1, strV x.2]) (fun x => x.1.length ≤ 140737488351232 ∧ x.2.length ≤ 140737488351232) (fun _ => rfl) (by decide) Try.cofProp Try.underlying22 (fun _ _ h => h.prop)
  rw [Try.bofProp] at hb
  exact ⟨A, l, n, c, hcs, hn, hc, by omega, hK, hr, hg⟩
theorem CellsIn.sum (h : CellsIn enc Try.prog W K 25 cs d) : ∃ s : Sm, cs = [.int .u64 s.a, .int .u64 s.b, .int .u64 s.c, .int .u64 s.d] ∧ s.ok := by
  obtain ⟨hl, hf⟩ := h.fields Try.underlying25
  obtain ⟨c0, c1, c2, c3, rfl⟩ := list4 (hl.trans Try.cofSum)
  obtain ⟨y0, q0⟩ := hf 0 _ rfl
  obtain ⟨y1, q1⟩ := hf 1 _ rfl
  obtain ⟨y2, q2⟩ := hf 2 _ rfl
  obtain ⟨y3, q3⟩ := hf 3 _ rfl
  obtain ⟨n0, e0, b0, b0'⟩ := q0.u64 Try.underlying23
  obtain ⟨n1, e1, b1, b1'⟩ := q1.u64 Try.underlying23
  obtain ⟨n2, e2, b2, b2'⟩ := q2.u64 Try.underlying23
  obtain ⟨n3, e3, b3, b3'⟩ := q3.u64 Try.underlying23
  simp [Try.cofU64] at e0 e1 e2 e3
  exact ⟨⟨n0, n1, n2, n3⟩, by rw [e0, e1, e2, e3], ⟨⟨b0, b0'⟩, ⟨b1, b1'⟩, ⟨b2, b2'⟩, ⟨b3, b3'⟩⟩⟩
/-- a record's cells: the record, where its own properties stand -/
def RcGood (W : World) (r : Rc) (A : Option Addr) (n c : Nat) : Prop :=
  n = r.own.length ∧ n ≤ c ∧ c ≤ 4398046511104 ∧ Reads W W.heap.size 2 A n (pcells r.own) ∧ strOk r.own ∧ r.sm.ok ∧ r.nm.length ≤ 140737488351232 ∧ r.dt.length ≤ 140737488351232 ∧
  (-9223372036854775808 ≤ r.kind ∧ r.kind ≤ 9223372036854775807) ∧ (-9223372036854775808 ≤ r.frm ∧ r.frm ≤ 9223372036854775807) ∧ (-9223372036854775808 ≤ r.gd ∧ r.gd ≤ 9223372036854775807) ∧ (-9223372036854775808 ≤ r.ix ∧ r.ix ≤ 9223372036854775807) ∧ (-9223372036854775808 ≤ r.ct ∧ r.ct ≤ 9223372036854775807)
theorem CellsIn.record (h : CellsIn enc Try.prog W K 27 cs d) : ∃ (r : Rc) (A : Option Addr) (n c : Nat), cs = (rcCells r (.slice A n c)).toList ∧ RcGood W r A n c ∧ n ≤ K := by
  obtain ⟨hl, hf⟩ := h.fields Try.underlying27
  obtain ⟨c0, c1, c2, c3, c4, c5, c6, c7, c8, c9, c10, c11, rfl⟩ := list12 (hl.trans Try.cofRec)
  obtain ⟨y0, q0⟩ := hf 0 _ rfl
  obtain ⟨y1, q1⟩ := hf 1 _ rfl
  obtain ⟨y2, q2⟩ := hf 2 _ rfl
  obtain ⟨y3, q3⟩ := hf 3 _ rfl
  obtain ⟨y4, q4⟩ := hf 4 _ rfl
  obtain ⟨y5, q5⟩ := hf 5 _ rfl
  obtain ⟨y6, q6⟩ := hf 6 _ rfl
  obtain ⟨y7, q7⟩ := hf 7 _ rfl
  obtain ⟨y8, q8⟩ := hf 8 _ rfl
  obtain ⟨n0, e0, b0⟩ := q0.i64 Try.underlying3
  obtain ⟨s1, e1, b1, _⟩ := q1.str Try.underlying9
  obtain ⟨n2, e2, b2⟩ := q2.i64 Try.underlying3
  obtain ⟨n3, e3, b3⟩ := q3.i64 Try.underlying3
  obtain ⟨A, l, n, c, e4, hn, hc, hcm, hK, hr, hg⟩ := q4.props
  obtain ⟨n5, e5, b5⟩ := q5.i64 Try.underlying3
  obtain ⟨n6, e6, b6⟩ := q6.i64 Try.underlying3
  obtain ⟨s7, e7, b7, _⟩ := q7.str Try.underlying9
  obtain ⟨sm, e8, b8⟩ := q8.sum
  simp [Try.cofInt, Try.cofStr, Try.cofProps, Try.cofSum] at e0 e1 e2 e3 e4 e5 e6 e7 e8
  obtain ⟨e8, e9, e10, e11⟩ := e8
  exact ⟨⟨n0, s1, n2, n3, l, n5, n6, s7, sm⟩, A, n, c, by rw [e0, e1, e2, e3, e4, e5, e6, e7, e8, e9, e10, e11]; rfl, ⟨hn, hc, hcm, hr, hg, b8, b1, b7, b0, b2, b3, b5, b6⟩, hK⟩
theorem ArgIn.record {v : Value} (h : ArgIn enc Try.prog W 27 v d) : ∃ (r : Rc) (A : Option Addr) (n c : Nat), v = rcV r (.slice A n c) ∧ RcGood W r A n c ∧ n ≤ Rows.uptoBulk d := by
  obtain ⟨cs, rfl, hc⟩ := h.agg Try.underlying27
  obtain ⟨r, A, n, c, hcs, hg, hK⟩ := hc.record
  refine ⟨r, A, n, c, ?_, hg, hK⟩
  show Value.agg _ = Value.agg _
  congr 1
  exact Array.toList_inj.1 hcs
theorem ArgIn.u8s {v : Value} (h : ArgIn enc Try.prog W 28 v d) :
    ∃ (A : Option Addr) (b : List UInt8) (n c : Nat), v = .slice A n c ∧ n = b.length ∧ n ≤ c ∧ c ≤ 140737488351232 ∧ n ≤ Rows.uptoBulk d ∧ Reads W W.heap.size 1 A n (bts b) := by
  obtain ⟨A0, n0, c0, rfl, hc⟩ := h.slc Try.underlying28
  obtain ⟨A, l, n, c, hcs, hn, hc, _, hb, hK, hr, htr⟩ := hc.list (fun x : UInt8 => [Value.int .u8 (x.toNat : Int)]) (fun _ => True) (fun _ => rfl) (by decide) Try.cofU8 Try.underlying28 (fun cs d h => by
    obtain ⟨b, hb⟩ := h.u8 Try.underlying5
    exact ⟨b, hb, trivial⟩)
  simp at hcs
  obtain ⟨rfl, rfl, rfl⟩ := hcs
  rw [Try.bofU8] at hb
  refine ⟨A0, l, n0, c0, rfl, hn, hc, by omega, hK, ?_⟩
  have e : l.flatMap (fun x : UInt8 => [Value.int .u8 (x.toNat : Int)]) = bts l := by
    unfold bts
    clear hr hn htr
    induction l with
    | nil => rfl
    | cons x l ih => rw [List.flatMap_cons, ih]; rfl
  rwa [e] at hr
end
end Go.Proofs.Ythfjfkjlgdnohaa
