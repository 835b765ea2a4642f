/-
  The law StreamSpoilt, walked.
-/
import Derived.Test.YtcbeadldieeceaaZ24
import Derived.Test.YtcbeadldieeceaaStMkAy
import Derived.Test.YtcbeadldieeceaaStSpLy
namespace Go.Proofs.Ytcbeadldieeceaa
open Go.RowKit

theorem spotL (at_ : Int) (L : Nat) (hL : 0 < L) (hL2 : L ≤ 32768) : ∃ q : Nat, (wrap64 (at_.tmod (L : Int) + (L : Int))).tmod (L : Int) = (q : Int) ∧ q < L := by
  have h1 := Int.tmod_lt_of_pos at_ (show (0 : Int) < (L : Int) by omega)
  have h2 : -(L : Int) < at_.tmod (L : Int) := by
    have := Int.tmod_lt_of_pos (-at_) (show (0 : Int) < (L : Int) by omega)
    rw [Int.neg_tmod] at this
    omega
  rw [IntWalk.wrap64_in _ ⟨by omega, by omega⟩]
  have h3 : 0 ≤ at_.tmod (L : Int) + (L : Int) := by omega
  have h4 := Int.tmod_nonneg (L : Int) h3
  have h5 := Int.tmod_lt_of_pos (at_.tmod (L : Int) + (L : Int)) (show (0 : Int) < (L : Int) by omega)
  exact ⟨((at_.tmod (L : Int) + (L : Int)).tmod (L : Int)).toNat, by omega, by omega⟩
theorem xorS (x y : UInt8) : bits .xor .u8 (x.toNat : Int) (y.toNat : Int) = ((x ^^^ y).toNat : Int) := by
  rw [u8_xor_nat _ _ x.toNat_lt y.toNat_lt, UInt8.toNat_xor]
theorem xor_neS (x y : UInt8) (h : y ≠ 0) : x ^^^ y ≠ x := by
  intro e
  apply h
  have := congrArg (fun z => x ^^^ z) e
  simp only [← UInt8.xor_assoc, UInt8.xor_self, UInt8.zero_xor] at this
  exact this
theorem bts_setS (b : BS) (q : Nat) (x : UInt8) : bts (b.set q x) = (bts b).set q (.int .u8 (x.toNat : Int)) := by simp [bts, List.map_set]
theorem own_readsS {w : World} {base n c : Nat} {e : TypeId} {A : Option Addr} {xs : List Value} (h : w.ownsRow base e 1 (.slice A n c) n xs) : n ≤ c ∧ c ≤ maxLen ∧ Reads w w.heap.size 1 A n xs := by
  obtain ⟨A1, c1, hv, h1, h2, h3⟩ := own_form h
  injection hv with ha _ hc
  subst ha hc
  exact ⟨h1, h2, h3⟩
set_option maxRecDepth 100000 in
set_option maxHeartbeats 4000000 in
theorem streamSpoilt_any (x y : SpR) (full : Bool) (at_ : Int) (by_ : UInt8) (w : World) (hx : x.rd w w.heap.size) (hy : y.rd w w.heap.size) (sx : x.sz) (sy : y.sz) :
    LawCalls Try.prog 4 #[.agg x.cells, .agg y.cells, .bool full, .int .i64 at_, .int .u8 (by_.toNat : Int)] w := by
  have hmk := fun W (hb : Below w.heap.size w W) => make_any x y full W (hx.below hb) (hy.below hb) sx sy
  have hsp := spoilt_law (baseL full x) y.body.l (rc0 full x y) (full || decide (x.gd < y.gd)) rfl
  unfold MakePost at hmk
  obtain ⟨S, hS⟩ : ∃ S, S = makeS (baseL full x) y.body.l (rc0 full x y) := ⟨_, rfl⟩
  have hle : makeE (baseL full x) y.body.l (rc0 full x y) (full || decide (x.gd < y.gd)) = 0 → S.length ≤ 32768 ∧ 0 < S.length := by
    intro h
    unfold makeE at h
    split at h
    · rename_i h1; exact absurd h h1
    split at h
    · rename_i h1; exact absurd h h1
    split at h
    · cases h
    split at h
    · cases h
    · rw [hS]
      refine ⟨by omega, ?_⟩
      have := (encL_len _ (recE_end (sumS Sm0 (recsL (baseL full x) y.body.l (rc0 full x y))))).2
      unfold makeS
      rw [List.length_append]
      omega
  rw [← hS] at hmk hsp
  obtain ⟨E, hE⟩ : ∃ E, E = makeE (baseL full x) y.body.l (rc0 full x y) (full || decide (x.gd < y.gd)) := ⟨_, rfl⟩
  rw [← hE] at hmk hsp hle
  obtain ⟨fn, fg, ⟨A1, n1, c1, a⟩, ft, ⟨A3, n3, c3, o⟩⟩ := x
  obtain ⟨tn, tg, ⟨A2, n2, c2, b⟩, tt, ⟨A4, n4, c4, p⟩⟩ := y
  have HMK : Hid (∀ W, Below w.heap.size w W → Calls Try.prog 7 #[.agg #[.string ⟨fn.toArray⟩, .int .i64 fg, .slice A1 n1 c1, ft, .slice A3 n3 c3], .agg #[.string ⟨tn.toArray⟩, .int .i64 tg, .slice A2 n2 c2, tt, .slice A4 n4 c4], .bool full] W fun e w' => ∃ v, e = .returned (.tuple #[v, .int .i64 E]) ∧ (if E = 0 then w'.ownsRow W.heap.size 5 1 v S.length (bts S) else v = .slice none 0 0) ∧ Below W.heap.size W w') := hmk
  have HSP := Lib.hid hsp
  have HLE := Lib.hid hle
  clear hmk hsp hle hS hE hx hy sx sy
  unfold LawCalls
  show Calls Try.prog 4 #[.agg #[.string ⟨fn.toArray⟩, .int .i64 fg, .slice A1 n1 c1, ft, .slice A3 n3 c3], .agg #[.string ⟨tn.toArray⟩, .int .i64 tg, .slice A2 n2 c2, tt, .slice A4 n4 c4], .bool full, .int .i64 at_, .int .u8 (by_.toNat : Int)] w _
  have hby := by_.toNat_lt
  obtain ⟨bv, hbv⟩ : ∃ bv, bv = by_.toNat := ⟨_, rfl⟩
  rw [← hbv] at hby ⊢
  have HBV := Lib.hid hbv
  clear hbv
  obtain ⟨g, hg⟩ : ∃ g, g = w.heap.size := ⟨_, rfl⟩
  obtain ⟨W0, hW0⟩ : ∃ W, W = ((w.alloc (.cells #[.string ⟨fn.toArray⟩, .int .i64 fg, .slice A1 n1 c1, ft, .slice A3 n3 c3] 26)).alloc (.cells #[.string ⟨tn.toArray⟩, .int .i64 tg, .slice A2 n2 c2, tt, .slice A4 n4 c4] 26)) := ⟨_, rfl⟩
  have kF : Blk W0 g 26 #[.string ⟨fn.toArray⟩, .int .i64 fg, .slice A1 n1 c1, ft, .slice A3 n3 c3] := by rw [hW0, hg]; exact (Blk.new w _ _).alloc _
  have kT : Blk W0 (g + 1) 26 #[.string ⟨tn.toArray⟩, .int .i64 tg, .slice A2 n2 c2, tt, .slice A4 n4 c4] := by
    rw [hW0, hg]
    have := Blk.new (w.alloc (.cells #[.string ⟨fn.toArray⟩, .int .i64 fg, .slice A1 n1 c1, ft, .slice A3 n3 c3] 26)) 26 #[.string ⟨tn.toArray⟩, .int .i64 tg, .slice A2 n2 c2, tt, .slice A4 n4 c4]
    simp at this
    exact this
  have hb0 : Below w.heap.size w W0 := by rw [hW0]; exact ((Below.refl _ _).alloc (Nat.le_refl _) _).alloc (by simp) _
  have HB := Lib.hid hb0
  have HKF := Lib.hid kF
  have HKT := Lib.hid kT
  have HG := Lib.hid hg
  clear kF kT hb0
  go_enter Try.func4, Try.ntmps4
  go_upto_region 1 with (fail)
  rw [← hg, ← hW0]
  clear hW0 hg
  go_wp2_with fail
  refine (alive_any W0).mono ?_
  rintro e w1 ⟨rfl, hb1⟩
  obtain ⟨f0, f1, f2, f3, f4⟩ := blk5 (HKF.out.below hb1 HKF.out.lt)
  obtain ⟨t0, t1, t2, t3, t4⟩ := blk5 (HKT.out.below hb1 HKT.out.lt)
  have HB1 := Lib.hid (HB.out.trans (hb1.mono HB.out.size))
  clear hb1
  go_wp2_with fail
  refine (HMK.out w1 HB1.out).mono ?_
  clear HMK f0 f1 f2 f3 f4 t0 t1 t2 t3 t4
  rintro e w2 ⟨v, rfl, hown, hb2⟩
  have hsz1 := HB1.out.size
  have HB2 := Lib.hid (HB1.out.trans (hb2.mono HB1.out.size))
  clear hb2
  by_cases hE : E ≠ 0
  · have hne : (E != 0) = true := by simpa using hE
    clear hE hown
    go_wp2_with fail
    refine (num_any _ _).mono ?_
    rintro e w5 ⟨rfl, hw5⟩
    rw [hw5]
    clear hw5 w5
    go_wp2_with fail
    go_ret
    exact ⟨rfl, HB2.out⟩
  obtain rfl : E = 0 := Classical.not_not.1 hE
  rw [if_pos rfl] at hown
  clear hE
  obtain ⟨hl1, hl2⟩ := HLE.out rfl
  by_cases hb0 : bv = 0
  · subst hb0
    obtain ⟨A9, c9, rfl, _⟩ := own_form hown
    clear hown
    go_wp2_with fail
    refine (num_any _ _).mono ?_
    rintro e w5 ⟨rfl, hw5⟩
    rw [hw5]
    clear hw5 w5
    go_wp2_with fail
    go_ret
    exact ⟨rfl, HB2.out⟩
  have hz : ((bv : Int) == 0) = false := by simp; omega
  have hz2 : ¬ (bv : Int) = 0 := by omega
  have hne : by_ ≠ 0 := by
    intro e
    apply hb0
    rw [HBV.out, e]
    rfl
  obtain ⟨q, hqq, hq⟩ := spotL at_ S.length hl2 hl1
  obtain ⟨yb, hyb⟩ : ∃ yb, yb = S.getD q 0 := ⟨_, rfl⟩
  have hlaw := HSP.out rfl q (yb ^^^ by_) hq (by rw [hyb]; exact xor_neS _ _ hne)
  have HLAW := Lib.hid hlaw
  have hxy := xorS yb by_
  have hget : (bts S)[q]? = some (.int .u8 (yb.toNat : Int)) := by
    rw [bts_get, List.getElem?_eq_getElem hq, hyb]
    simp [List.getD_eq_getElem?_getD, List.getElem?_eq_getElem hq]
  have hyy := yb.toNat_lt
  obtain ⟨yv, hyv⟩ : ∃ yv, yv = yb.toNat := ⟨_, rfl⟩
  rw [← hyv] at hxy hget hyy
  rw [← HBV.out] at hxy
  have HXY := Lib.hid hxy
  obtain ⟨L, hL⟩ : ∃ L, L = S.length := ⟨_, rfl⟩
  rw [← hL] at hown hqq hq hl1 hl2
  have HL := Lib.hid hL
  clear hlaw hne hyb hyv hxy hb0 hL HSP HLE
  have hqi : (q : Int) < (L : Int) := by omega
  have hLz : ((L : Int) == 0) = false := by simp; omega
  rcases hown.2 with ⟨_, h⟩ | ⟨gb, cap, cur, rfl, hgb, hcur, hle1, hle2, hcs, hcur2⟩
  · exact absurd h (by omega)
  have hcell : w2.cell? ⟨gb, q, none⟩ = some (.int .u8 (yv : Int)) := by rw [hown.cellAt q (by omega)]; exact hget
  have hfz : w2.frozen? ⟨gb, q, none⟩ = false := hown.frozenAt q
  have hst := (hown.stored q (.int .u8 ((yb ^^^ by_).toNat : Int))).1
  rw [← bts_setS] at hst
  have hbs := HB2.out.setCell (p := ⟨gb, q, none⟩) (by simp; omega) (.int .u8 ((yb ^^^ by_).toNat : Int))
  rw [← HXY.out] at hst hbs
  have HST := Lib.hid hst
  have HBS := Lib.hid hbs
  clear hcur hcs hcur2 hown hget hst hbs
  go_wp2_with fail
  refine (num_any _ _).mono ?_
  rintro e w5 ⟨rfl, hw5⟩
  rw [hw5]
  clear hw5 w5
  go_wp2_with fail
  obtain ⟨W5, hW5⟩ : ∃ W, W = w2.setCell ⟨gb, q, none⟩ (.int .u8 (bits .xor .u8 (yv : Int) (bv : Int))) := ⟨_, rfl⟩
  rw [← hW5] at HST HBS ⊢
  clear hW5
  obtain ⟨hc5, hm5, hr5⟩ := own_readsS HST.out
  obtain ⟨S', hS'⟩ : ∃ x, x = S.set q (yb ^^^ by_) := ⟨_, rfl⟩
  rw [← hS'] at hr5 HLAW
  have hl5 : L = S'.length := by rw [hS', List.length_set]; exact HL.out
  unfold maxLen at hm5
  have HRE := Lib.hid (recs_any S' L hl5 (some ⟨gb, 0, none⟩) cap W5 hr5 hc5 hm5)
  clear hl5 hr5 hS' hcell hfz
  refine HRE.out.mono ?_
  clear HRE
  rintro e w6 ⟨ys, A6, k, c6, rfl, hys, hk, _, _, hb6⟩
  obtain ⟨⟨l6, a6, E6⟩, h6⟩ : ∃ z, z = recsL' S' := ⟨_, rfl⟩
  rw [← h6] at hys HLAW ⊢
  have hE6 : E6 ≠ 0 := HLAW.out.1
  have hl6 : l6 = [] := HLAW.out.2
  simp only at hys
  rw [hl6] at hys
  have hy0 : ys = [] := List.map_eq_nil_iff.1 hys
  subst hy0
  obtain rfl : k = 0 := hk
  simp only
  have he6 : (E6 != 0) = true := by simpa using hE6
  have HB6 := Lib.hid (HBS.out.trans (hb6.mono HBS.out.size))
  clear hys hb6 h6 hE6 hl6
  go_wp2_with fail
  refine (num_any _ _).mono ?_
  rintro e w7 ⟨rfl, hw7⟩
  rw [hw7]
  clear hw7 w7
  go_wp2_with fail
  go_ret
  exact ⟨rfl, HB6.out⟩
end Go.Proofs.Ytcbeadldieeceaa
