/-
  RecordBack, RecordOctets, RecordCuts: walked. (mkrcback.py)
-/
import Derived.Test.YthfjfkjlgdnohaaZ13
import Derived.Test.YthfjfkjlgdnohaaZ15
namespace Go.Proofs.Ythfjfkjlgdnohaa
open Go.RowKit

theorem up_reads {w W : World} {B size n : Nat} {A : Option Addr} {xs : List Value} (h : Reads w B size A n xs) (hb : Below w.heap.size w W) (hB : B ≤ w.heap.size) : Reads W W.heap.size size A n xs := (h.below (hb.mono hB)).more (Nat.le_trans hB hb.size)
theorem num19_any (x : Int) (w : World) : Calls Try.prog 18 #[.int .i64 x] w fun e w' => e = .returned (.int .i64 x) ∧ w' = w := by
  go_enter Try.func18, Try.ntmps18
  go_wp2_with fail
  go_ret
  exact ⟨rfl, rfl⟩
theorem parse9 : parseL [9] = (Rc0, 0, 23) := rfl
theorem enc4E : recE { Rc0 with kind := 4 } = 0 := by decide
theorem enc4L : (encL { Rc0 with kind := 4 }).length = 40 := by
  unfold encL
  rw [List.length_cons, List.length_append, putL_length]
  have : rtexts { Rc0 with kind := 4 } = [octL 0 0 0 0] := rfl
  rw [this]
  unfold fwrite
  simp [putL_length, fone, octL_length]
set_option maxRecDepth 100000 in
set_option maxHeartbeats 2000000 in
theorem alive19_any (w : World) : Calls Try.prog 23 #[] w fun e w' => e = .returned (.bool true) ∧ Below w.heap.size w w' := by
  have hb0 : Below w.heap.size w (w.alloc (.cells #[.int .u8 9] 5)) := (Below.refl _ _).alloc (Nat.le_refl _) _
  have hp := rparse_any [9] 1 rfl (some ⟨w.heap.size, 0, none⟩) 1 (w.alloc (.cells #[.int .u8 9] 5)) (w.heap.size + 1) (Reads.lit w #[.int .u8 9] _ rfl) (by simp) (Nat.le_refl _) (by decide) (by omega)
  rw [parse9] at hp
  have HP := Lib.hid hp
  have HB := Lib.hid hb0
  clear hp hb0
  go_enter Try.func23, Try.ntmps23
  go_wp2_with fail
  refine HP.out.mono ?_
  clear HP
  rintro e w1 ⟨v, he, hown, hb1⟩
  obtain ⟨A1, c1, rfl, _, _, _⟩ := own_form hown
  obtain rfl : e = .returned (.tuple #[.agg #[.int .i64 0, .string ⟨#[]⟩, .int .i64 0, .int .i64 0, .slice A1 0 c1, .int .i64 0, .int .i64 0, .string ⟨#[]⟩, .int .u64 0, .int .u64 0, .int .u64 0, .int .u64 0], .int .i64 0, .int .i64 23]) := he
  have HB1 := Lib.hid (HB.out.trans (hb1.mono HB.out.size))
  have henc := fun W => renc_any { Rc0 with kind := 4 } 0 rfl none 0 W 0 (Nat.zero_le _) Reads.none_ (by omega) (fun x hx => by cases hx)
  have HE := Lib.hid henc
  clear hown hb1 henc HB
  go_wp2_with fail
  refine (HE.out _).mono ?_
  clear HE
  rintro e w2 ⟨v2, he, hv, hb2⟩
  rw [enc4E] at he hv
  rw [if_pos rfl, enc4L] at hv
  obtain rfl := he
  obtain ⟨A2, c2, rfl, _, _, _⟩ := own_form hv
  have HB2 := Lib.hid ((HB1.out.alloc HB1.out.size _).trans (hb2.mono (by have := HB1.out.size; simp; omega)))
  clear hv hb2 HB1
  go_wp2_with fail
  refine (num19_any 23 _).mono ?_
  rintro e w3 ⟨rfl, hw⟩
  rw [hw]
  clear hw w3
  go_wp2_with fail
  refine (num19_any 0 _).mono ?_
  rintro e w3 ⟨rfl, hw⟩
  rw [hw]
  clear hw w3
  go_wp2_with fail
  go_ret
  exact ⟨rfl, HB2.out⟩

/-- the record's box, the callees' contracts -/
theorem rc_box (w : World) (C : Array Value) (t : TypeId) : Blk (w.alloc (.cells C t)) w.heap.size t C ∧ Below w.heap.size w (w.alloc (.cells C t)) := ⟨Blk.new w t C, (Below.refl _ _).alloc (Nat.le_refl _) _⟩

set_option maxRecDepth 100000 in
set_option maxHeartbeats 4000000 in
theorem recordBack_any (r : Rc) (A : Option Addr) (n c : Nat) (m : List UInt8) (k : Nat) (hk : k = m.length) (A2 : Option Addr) (c2 : Nat) (w : World) (hg : RcGood w r A n c) (hr2 : Reads w w.heap.size 1 A2 k (bts m)) (hkm : k ≤ 140737488351232) :
    LawCalls Try.prog 4 #[rcV r (.slice A n c), .slice A2 k c2] w := by
  obtain ⟨i0, hi0, hz0, hz1, hz2⟩ := info_parts Try.infoU8c
  obtain ⟨hn, hc, hcm, hr1, hs1, hsm, _⟩ := hg
  have hv : ∀ x ∈ r.own, x.2.length ≤ 140737488351232 := fun x hx => (hs1 x hx).2
  have henc := fun W (hb : Below w.heap.size w W) => renc_any r n hn A c W _ hb.size (hr1.below hb) (by omega) hv
  have hsame := fun W (hb : Below w.heap.size w W) A3 c3 (hr3 : Reads W W.heap.size 2 A3 r.own.length (pcells r.own)) => refSame_any r r n r.own.length hn rfl A A3 c c3 W _ _ hb.size (Nat.le_refl _) (hr1.below hb) hr3 (by omega) (by omega)
  rw [(sameR_iff r r).2 rfl] at hsame
  have hpar := fun hE => parse_enc r hE hsm m
  obtain ⟨rk, rn, rf, rg, ro, ri, rc, rd, ⟨ra, rb, rx, ry⟩⟩ := r
  show Calls _ _ #[.agg #[.int .i64 rk, .string ⟨rn.toArray⟩, .int .i64 rf, .int .i64 rg, .slice A n c, .int .i64 ri, .int .i64 rc, .string ⟨rd.toArray⟩, .int .u64 ra, .int .u64 rb, .int .u64 rx, .int .u64 ry], _] _ _
  obtain ⟨kb, hb0⟩ := rc_box w #[.int .i64 rk, .string ⟨rn.toArray⟩, .int .i64 rf, .int .i64 rg, .slice A n c, .int .i64 ri, .int .i64 rc, .string ⟨rd.toArray⟩, .int .u64 ra, .int .u64 rb, .int .u64 rx, .int .u64 ry] 27
  obtain ⟨W0, hW0⟩ : ∃ W0, W0 = w.alloc (.cells #[.int .i64 rk, .string ⟨rn.toArray⟩, .int .i64 rf, .int .i64 rg, .slice A n c, .int .i64 ri, .int .i64 rc, .string ⟨rd.toArray⟩, .int .u64 ra, .int .u64 rb, .int .u64 rx, .int .u64 ry] 27) := ⟨_, rfl⟩
  rw [← hW0] at kb hb0
  have HENC := Lib.hid henc
  have HSAME := Lib.hid hsame
  have HPAR := Lib.hid hpar
  have HR2 := Lib.hid hr2
  have HK := Lib.hid hk
  have HB0 := Lib.hid hb0
  have HW0 := Lib.hid hW0
  have KB := Lib.hid kb
  clear henc hsame hpar hr2 hk hb0 hW0 kb hn hr1 hs1 hsm hv
  go_enter Try.func4, Try.ntmps4
  go_wp2_with fail
  rw [← HW0.out]
  refine (alive19_any _).mono ?_
  rintro e w1 ⟨rfl, hb1⟩
  have k1 := KB.out.below hb1 KB.out.lt
  obtain ⟨a0, a1, a2, a3, a4, a5, a6, a7, a8, a9, a10, a11⟩ := blk12 k1
  have K1 := Lib.hid k1
  have HB1 := Lib.hid (HB0.out.trans (hb1.mono HB0.out.size))
  clear hb1 k1 KB HB0 HW0
  go_wp2_with fail
  refine (HENC.out _ HB1.out).mono ?_
  clear HENC a0 a1 a2 a3 a4 a5 a6 a7 a8 a9 a10 a11
  rintro e w2 ⟨v2, rfl, hv2, hb2⟩
  obtain ⟨E, hE⟩ : ∃ E, E = recE ⟨rk, rn, rf, rg, ro, ri, rc, rd, ⟨ra, rb, rx, ry⟩⟩ := ⟨_, rfl⟩
  rw [← hE] at hv2
  rw [← hE]
  have HB2 := Lib.hid (HB1.out.trans (hb2.mono HB1.out.size))
  have K2 := Lib.hid (K1.out.below hb2 K1.out.lt)
  clear hb2 HB1 K1
  have HE := Lib.hid hE
  clear hE
  go_wp2_with fail
  refine (num19_any E _).mono ?_
  rintro e w3 ⟨rfl, hw⟩
  rw [hw]
  clear hw w3
  by_cases h0 : E = 0
  · rw [if_pos h0] at hv2
    have HPAR := Lib.hid (HPAR.out (HE.out.symm.trans h0))
    subst h0
    obtain ⟨A3, c3, rfl, hc31, hc32, hr3⟩ := own_form hv2
    obtain ⟨L, hL⟩ : ∃ L, L = (encL ⟨rk, rn, rf, rg, ro, ri, rc, rd, ⟨ra, rb, rx, ry⟩⟩).length := ⟨_, rfl⟩
    have hL7 : L ≤ 1000 := by
      rw [hL]
      have := fwrite_len _ HE.out.symm
      unfold encL
      rw [List.length_cons, List.length_append, putL_length]
      omega
    rw [← hL] at hc31 hr3 ⊢
    rw [← hL] at HPAR
    obtain ⟨X, hX⟩ : ∃ X, X = encL ⟨rk, rn, rf, rg, ro, ri, rc, rd, ⟨ra, rb, rx, ry⟩⟩ := ⟨_, rfl⟩
    rw [← hX] at hr3 HPAR hL
    have HL := Lib.hid hL
    have r2 := up_reads HR2.out HB2.out (Nat.le_refl _)
    have hs2 : w.heap.size ≤ w2.heap.size := HB2.out.size
    have tok : True := trivial
    have h1a := bts_one X
    have h1b := bts_one m
    have hm1 : 0 + L ≤ maxLen := by unfold maxLen; omega
    have hm2 : L + k ≤ maxLen := by unfold maxLen; omega
    clear hv2 hX hL HR2
    go_wp2_with (first
      | (at_builtin; have _t := tok; refine wpList_append_any _ rfl (.tmp 24) (.tmp 25) _ rfl w2.heap.size 5 i0 _ 1 1 Try.underlying28 hi0 hz0 hz1 hz2 rfl (by omega) (.slice none 0 0) 0 [] rfl (World.ownsRow_nil _ _ _ _) _ A3 L c3 (bts X) rfl hr3 h1a hm1 (by omega) (Nat.le_refl _) ?_; intro v4 w4 hown4 hg4 _; clear tok; have hg4b := grown_none_below hg4; have r4 := up_reads r2 hg4b (Nat.le_refl _); have hs4 := hg4b.size; rw [List.nil_append, Nat.zero_add] at hown4; have hlt4 := hown4.lt)
      | (at_builtin; go_loud (refine wpList_append_any _ rfl (.tmp 26) (.tmp 27) _ rfl w2.heap.size 5 i0 _ 1 1 Try.underlying28 hi0 hz0 hz1 hz2 rfl (by omega) _ L (bts X) rfl hown4 _ A2 k c2 _ rfl r4 h1b hm2 (by omega) hs4 ?_); intro v5 w5 hown5 hg5 _))
    have hb25 := hg4b.grown hg5 hs4 (fun j hj => (hlt4 j hj).1)
    rw [← bts_append] at hown5
    obtain ⟨A5, c5, rfl, h51, h52, r5⟩ := own_form hown5
    have hpp := rparse_any (X ++ m) (L + k) (by rw [List.length_append, HL.out, HK.out]) A5 c5 w5 _ r5 (Nat.le_refl _) h51 (by unfold maxLen at h52; omega) (by omega)
    rw [HPAR.out] at hpp
    have HPP := Lib.hid hpp
    have HB5 := Lib.hid (HB2.out.trans (hb25.mono HB2.out.size))
    have K5 := Lib.hid (K2.out.below hb25 K2.out.lt)
    clear hown4 hown5 hg4 hg5 hg4b r4 hlt4 r5 hpp r2 hr3 hb25 h1a h1b K2 HB2
    go_wp2_with fail
    refine HPP.out.mono ?_
    clear HPP
    rintro e w6 ⟨v6, he, hown6, hb6⟩
    obtain ⟨A6, c6, rfl, h61, h62, r6⟩ := own_form hown6
    obtain rfl : e = .returned (.tuple #[.agg #[.int .i64 rk, .string ⟨rn.toArray⟩, .int .i64 rf, .int .i64 rg, .slice A6 ro.length c6, .int .i64 ri, .int .i64 rc, .string ⟨rd.toArray⟩, .int .u64 ra, .int .u64 rb, .int .u64 rx, .int .u64 ry], .int .i64 (L : Int), .int .i64 0]) := he
    have HB6 := Lib.hid (HB5.out.trans (hb6.mono HB5.out.size))
    have k6 := K5.out.below hb6 K5.out.lt
    obtain ⟨a0, a1, a2, a3, a4, a5, a6, a7, a8, a9, a10, a11⟩ := blk12 k6
    have hz6 : w.heap.size < w6.heap.size := k6.lt
    have hsm := HSAME.out (w6.alloc (.cells #[.int .i64 rk, .string ⟨rn.toArray⟩, .int .i64 rf, .int .i64 rg, .slice A6 ro.length c6, .int .i64 ri, .int .i64 rc, .string ⟨rd.toArray⟩, .int .u64 ra, .int .u64 rb, .int .u64 rx, .int .u64 ry] 27)) (HB6.out.alloc HB6.out.size _) A6 c6 ((r6.alloc (Nat.le_refl _) _).more (by simp))
    obtain ⟨q, hq⟩ : ∃ q, q = ro.length := ⟨_, rfl⟩
    rw [← hq] at hsm
    simp only [] at hq ⊢
    rw [← hq]
    have hsm : Calls Try.prog 22 #[.agg #[.int .i64 rk, .string ⟨rn.toArray⟩, .int .i64 rf, .int .i64 rg, .slice A n c, .int .i64 ri, .int .i64 rc, .string ⟨rd.toArray⟩, .int .u64 ra, .int .u64 rb, .int .u64 rx, .int .u64 ry], .agg #[.int .i64 rk, .string ⟨rn.toArray⟩, .int .i64 rf, .int .i64 rg, .slice A6 q c6, .int .i64 ri, .int .i64 rc, .string ⟨rd.toArray⟩, .int .u64 ra, .int .u64 rb, .int .u64 rx, .int .u64 ry]] (w6.alloc (.cells #[.int .i64 rk, .string ⟨rn.toArray⟩, .int .i64 rf, .int .i64 rg, .slice A6 q c6, .int .i64 ri, .int .i64 rc, .string ⟨rd.toArray⟩, .int .u64 ra, .int .u64 rb, .int .u64 rx, .int .u64 ry] 27)) _ := hsm
    have HSM := Lib.hid hsm
    clear hown6 hb6 k6 r6 hsm HSAME hq K5 HB5
    go_wp2_with fail
    refine (num19_any 0 _).mono ?_
    rintro e w7 ⟨rfl, hw⟩
    rw [hw]
    clear hw w7
    go_wp2_with fail
    refine HSM.out.mono ?_
    clear HSM
    rintro e w7 ⟨rfl, hb7⟩
    go_wp2_with fail
    go_ret
    exact ⟨rfl, (HB6.out.alloc HB6.out.size _).trans (hb7.mono (HB6.out.alloc HB6.out.size _).size)⟩
  · rw [if_neg h0] at hv2
    subst hv2
    have hd : (E != 0) = true := by simp [h0]
    clear h0
    go_wp2_with fail
    go_ret
    exact ⟨rfl, HB2.out⟩

theorem own_vals (r : Rc) (h : recE r = 0) : r.own.length ≤ 8 ∧ ∀ x ∈ r.own, x.2.length ≤ 140737488351232 := by
  obtain ⟨hk, hm⟩ := recE_kind r h
  refine ⟨own_small r hk hm, ?_⟩
  rcases hk with hk | hk | hk | hk
  · obtain ⟨_, _, _, h4, _⟩ := mayB_1 r hk hm
    unfold propsB at h4
    simp only [Bool.and_eq_true, decide_eq_true_eq] at h4
    intro x hx
    have := valB_len _ (propsFrom_small _ _ h4.2 x hx).2
    omega
  · obtain ⟨_, _, _, _, _, h, _⟩ := mayB_2 r hk hm
    rw [h]; intro x hx; cases hx
  · obtain ⟨_, _, _, _, _, h, _⟩ := mayB_3 r hk hm
    rw [h]; intro x hx; cases hx
  · obtain ⟨_, _, _, h, _⟩ := mayB_4 r hk hm
    rw [h]; intro x hx; cases hx
set_option maxRecDepth 100000 in
set_option maxHeartbeats 4000000 in
theorem recordOctets_any (b : List UInt8) (n : Nat) (hnb : n = b.length) (A : Option Addr) (c : Nat) (hc : n ≤ c) (hcm : c ≤ 140737488351232) (w : World) (hr : Reads w w.heap.size 1 A n (bts b)) :
    LawCalls Try.prog 5 #[.slice A n c] w := by
  have hpar := fun W (hb : Below w.heap.size w W) => rparse_any b n hnb A c W _ (hr.below hb) hb.size hc (by omega) (by omega)
  obtain ⟨P, hP⟩ : ∃ P, P = parseL b := ⟨_, rfl⟩
  rw [← hP] at hpar
  obtain ⟨r, N, E⟩ := P
  have HPAR := Lib.hid hpar
  have HP := Lib.hid hP
  have HR := Lib.hid hr
  have HNB := Lib.hid hnb
  clear hpar hP hr hnb
  show Calls _ _ _ _ _
  go_enter Try.func5, Try.ntmps5
  go_wp2_with fail
  refine (alive19_any _).mono ?_
  rintro e w1 ⟨rfl, hb1⟩
  go_wp2_with fail
  refine (HPAR.out _ hb1).mono ?_
  clear HPAR
  rintro e w2 ⟨v2, he, hown2, hb2⟩
  obtain ⟨A3, c3, rfl, h31, h32, r3⟩ := own_form hown2
  have HB2 := Lib.hid (hb1.trans (hb2.mono hb1.size))
  clear hown2 hb1 hb2
  by_cases h0 : E = 0
  · subst h0
    obtain ⟨hE, hsm, hNb, hX⟩ := parse_back b r N HP.out.symm
    obtain ⟨ho8, hov⟩ := own_vals r hE
    have henc := renc_any r r.own.length rfl A3 c3 (w2.alloc (.cells (rcCells r (.slice A3 r.own.length c3)) 27)) w2.heap.size (by simp) (r3.alloc (Nat.le_refl _) _) (by omega) hov
    obtain ⟨rk, rn, rf, rg, ro, ri, rc, rd, ⟨ra, rb, rx, ry⟩⟩ := r
    obtain rfl : e = .returned (.tuple #[.agg #[.int .i64 rk, .string ⟨rn.toArray⟩, .int .i64 rf, .int .i64 rg, .slice A3 ro.length c3, .int .i64 ri, .int .i64 rc, .string ⟨rd.toArray⟩, .int .u64 ra, .int .u64 rb, .int .u64 rx, .int .u64 ry], .int .i64 (N : Int), .int .i64 0]) := he
    have henc : Calls Try.prog 14 #[.agg #[.int .i64 rk, .string ⟨rn.toArray⟩, .int .i64 rf, .int .i64 rg, .slice A3 ro.length c3, .int .i64 ri, .int .i64 rc, .string ⟨rd.toArray⟩, .int .u64 ra, .int .u64 rb, .int .u64 rx, .int .u64 ry]] (w2.alloc (.cells #[.int .i64 rk, .string ⟨rn.toArray⟩, .int .i64 rf, .int .i64 rg, .slice A3 ro.length c3, .int .i64 ri, .int .i64 rc, .string ⟨rd.toArray⟩, .int .u64 ra, .int .u64 rb, .int .u64 rx, .int .u64 ry] 27)) _ := henc
    obtain ⟨q, hq⟩ : ∃ q, q = ro.length := ⟨_, rfl⟩
    simp only [] at henc ⊢
    rw [← hq] at henc
    rw [← hq]
    have HENC := Lib.hid henc
    have HNb := Lib.hid hNb
    have hNn : N ≤ n := by rw [HNB.out]; exact hNb
    have hl : (b.take N).length = N := by rw [List.length_take]; omega
    have HL := Lib.hid hl
    have hb2' := HB2.out.alloc HB2.out.size (.cells #[.int .i64 rk, .string ⟨rn.toArray⟩, .int .i64 rf, .int .i64 rg, .slice A3 q c3, .int .i64 ri, .int .i64 rc, .string ⟨rd.toArray⟩, .int .u64 ra, .int .u64 rb, .int .u64 rx, .int .u64 ry] 27)
    have HB2' := Lib.hid hb2'
    have HE := Lib.hid hE
    have HX := Lib.hid hX
    clear hE hX hsm henc hq r3 hov ho8 HP hNb hl hb2' HB2
    go_wp2_with fail
    refine (num19_any 0 _).mono ?_
    rintro e w3 ⟨rfl, hw⟩
    rw [hw]
    clear hw w3
    go_wp2_with fail
    refine HENC.out.mono ?_
    clear HENC
    rintro e w3 ⟨v3, he3, hv3, hb3⟩
    rw [HE.out] at he3 hv3
    rw [if_pos rfl, HX.out, HL.out] at hv3
    obtain rfl := he3
    obtain ⟨A4, c4, rfl, h41, h42, r4⟩ := own_form hv3
    have hb03 := HB2'.out.trans (hb3.mono HB2'.out.size)
    have hr0 := HR.out.below hb03
    have hst1 := str_of (P := Try.prog) (c := c4) r4 HL.out.symm Try.underlying28 Try.underlying5 Try.underlying9
    have hst2 := str_of (P := Try.prog) (c := c) (bpre2 hr0 HNB.out hNn) HL.out.symm Try.underlying28 Try.underlying5 Try.underlying9
    have hst1q : ∀ q, (convert 28 9 (.slice A4 N c4)).run Try.prog (w3.drewN q) = .ok (.string ⟨(b.take N).toArray⟩) (w3.drewN q) := fun q => str_of (r4.drewN q) HL.out.symm Try.underlying28 Try.underlying5 Try.underlying9
    have hst2q : ∀ q, (convert 28 9 (.slice A N c)).run Try.prog (w3.drewN q) = .ok (.string ⟨(b.take N).toArray⟩) (w3.drewN q) := fun q => str_of ((bpre2 hr0 HNB.out hNn).drewN q) HL.out.symm Try.underlying28 Try.underlying5 Try.underlying9
    obtain ⟨X, hX⟩ : ∃ X, X = b.take N := ⟨_, rfl⟩
    rw [← hX] at hst1 hst2 hst1q hst2q
    have HB3 := Lib.hid hb03
    have hNi : ((N : Int)) ≤ (n : Int) := by omega
    have hNc : ((N : Int)) ≤ (c : Int) := by omega
    have hN0 : (0 : Int) ≤ (N : Int) := by omega
    clear hv3 hr0 r4 hb3 hb03 hX h41 HR
    go_wp2_with fail
    go_big_quiet ((go_at_call 18; exact Calls.quiet_of_same (num19_any _ _)))
    all_goals
      go_wp2_with fail
      go_ret
      exact ⟨rfl, below_drewN HB3.out _⟩
  · obtain ⟨hr0, hn0⟩ := parse_err b r N E HP.out.symm h0
    subst hr0 hn0
    obtain rfl : e = .returned (.tuple #[.agg #[.int .i64 0, .string ⟨#[]⟩, .int .i64 0, .int .i64 0, .slice A3 0 c3, .int .i64 0, .int .i64 0, .string ⟨#[]⟩, .int .u64 0, .int .u64 0, .int .u64 0, .int .u64 0], .int .i64 0, .int .i64 E]) := he
    have hd : (E != 0) = true := by simp [h0]
    have hsm := refSame_any Rc0 Rc0 0 0 rfl rfl A3 none c3 0 (w2.alloc (.cells #[.int .i64 0, .string ⟨#[]⟩, .int .i64 0, .int .i64 0, .slice A3 0 c3, .int .i64 0, .int .i64 0, .string ⟨#[]⟩, .int .u64 0, .int .u64 0, .int .u64 0, .int .u64 0] 27)) 0 0 (Nat.zero_le _) (Nat.zero_le _) ⟨rfl, fun h => absurd h (by omega)⟩ Reads.none_ (by omega) (by omega)
    rw [(sameR_iff Rc0 Rc0).2 rfl] at hsm
    have hsm : Calls Try.prog 22 #[.agg #[.int .i64 0, .string ⟨#[]⟩, .int .i64 0, .int .i64 0, .slice A3 0 c3, .int .i64 0, .int .i64 0, .string ⟨#[]⟩, .int .u64 0, .int .u64 0, .int .u64 0, .int .u64 0], .agg #[.int .i64 0, .string ⟨#[]⟩, .int .i64 0, .int .i64 0, .slice none 0 0, .int .i64 0, .int .i64 0, .string ⟨#[]⟩, .int .u64 0, .int .u64 0, .int .u64 0, .int .u64 0]] (w2.alloc (.cells #[.int .i64 0, .string ⟨#[]⟩, .int .i64 0, .int .i64 0, .slice A3 0 c3, .int .i64 0, .int .i64 0, .string ⟨#[]⟩, .int .u64 0, .int .u64 0, .int .u64 0, .int .u64 0] 27)) _ := hsm
    have HSM := Lib.hid hsm
    have HB3 := Lib.hid (HB2.out.alloc HB2.out.size (.cells #[.int .i64 0, .string ⟨#[]⟩, .int .i64 0, .int .i64 0, .slice A3 0 c3, .int .i64 0, .int .i64 0, .string ⟨#[]⟩, .int .u64 0, .int .u64 0, .int .u64 0, .int .u64 0] 27))
    clear h0 hsm r3 HP HR
    go_wp2_with fail
    refine (num19_any E _).mono ?_
    rintro e w3 ⟨rfl, hw⟩
    rw [hw]
    clear hw w3
    go_wp2_with fail
    refine HSM.out.mono ?_
    clear HSM
    rintro e w3 ⟨rfl, hb3⟩
    go_wp2_with fail
    go_ret
    exact ⟨rfl, HB3.out.trans (hb3.mono HB3.out.size)⟩
set_option maxRecDepth 100000 in
set_option maxHeartbeats 4000000 in
theorem recordCuts_any (r : Rc) (A : Option Addr) (n c : Nat) (t : Int) (w : World) (hg : RcGood w r A n c) :
    LawCalls Try.prog 6 #[rcV r (.slice A n c), .int .i64 t] w := by
  obtain ⟨hn, hc, hcm, hr1, hs1, hsm, _⟩ := hg
  have hv : ∀ x ∈ r.own, x.2.length ≤ 140737488351232 := fun x hx => (hs1 x hx).2
  have henc := fun W (hb : Below w.heap.size w W) => renc_any r n hn A c W _ hb.size (hr1.below hb) (by omega) hv
  have hpar := fun hE => parse_cut r hE
  obtain ⟨rk, rn, rf, rg, ro, ri, rc, rd, ⟨ra, rb, rx, ry⟩⟩ := r
  show Calls _ _ #[.agg #[.int .i64 rk, .string ⟨rn.toArray⟩, .int .i64 rf, .int .i64 rg, .slice A n c, .int .i64 ri, .int .i64 rc, .string ⟨rd.toArray⟩, .int .u64 ra, .int .u64 rb, .int .u64 rx, .int .u64 ry], _] _ _
  obtain ⟨kb, hb0⟩ := rc_box w #[.int .i64 rk, .string ⟨rn.toArray⟩, .int .i64 rf, .int .i64 rg, .slice A n c, .int .i64 ri, .int .i64 rc, .string ⟨rd.toArray⟩, .int .u64 ra, .int .u64 rb, .int .u64 rx, .int .u64 ry] 27
  obtain ⟨W0, hW0⟩ : ∃ W0, W0 = w.alloc (.cells #[.int .i64 rk, .string ⟨rn.toArray⟩, .int .i64 rf, .int .i64 rg, .slice A n c, .int .i64 ri, .int .i64 rc, .string ⟨rd.toArray⟩, .int .u64 ra, .int .u64 rb, .int .u64 rx, .int .u64 ry] 27) := ⟨_, rfl⟩
  rw [← hW0] at kb hb0
  have HENC := Lib.hid henc
  have HPAR := Lib.hid hpar
  have HB0 := Lib.hid hb0
  have HW0 := Lib.hid hW0
  have KB := Lib.hid kb
  clear henc hpar hb0 hW0 kb hn hr1 hs1 hsm hv
  go_enter Try.func6, Try.ntmps6
  go_wp2_with fail
  rw [← HW0.out]
  refine (alive19_any _).mono ?_
  rintro e w1 ⟨rfl, hb1⟩
  have k1 := KB.out.below hb1 KB.out.lt
  obtain ⟨a0, a1, a2, a3, a4, a5, a6, a7, a8, a9, a10, a11⟩ := blk12 k1
  have HB1 := Lib.hid (HB0.out.trans (hb1.mono HB0.out.size))
  clear hb1 k1 KB HB0 HW0
  go_wp2_with fail
  refine (HENC.out _ HB1.out).mono ?_
  clear HENC a0 a1 a2 a3 a4 a5 a6 a7 a8 a9 a10 a11
  rintro e w2 ⟨v2, rfl, hv2, hb2⟩
  obtain ⟨E, hE⟩ : ∃ E, E = recE ⟨rk, rn, rf, rg, ro, ri, rc, rd, ⟨ra, rb, rx, ry⟩⟩ := ⟨_, rfl⟩
  rw [← hE] at hv2
  rw [← hE]
  have HB2 := Lib.hid (HB1.out.trans (hb2.mono HB1.out.size))
  clear hb2 HB1
  have HE := Lib.hid hE
  clear hE
  go_wp2_with fail
  refine (num19_any E _).mono ?_
  rintro e w3 ⟨rfl, hw⟩
  rw [hw]
  clear hw w3
  by_cases h0 : E = 0
  · rw [if_pos h0] at hv2
    have hpar := HPAR.out (HE.out.symm.trans h0)
    subst h0
    obtain ⟨A3, c3, rfl, hc31, hc32, hr3⟩ := own_form hv2
    obtain ⟨X, hX⟩ : ∃ X, X = encL ⟨rk, rn, rf, rg, ro, ri, rc, rd, ⟨ra, rb, rx, ry⟩⟩ := ⟨_, rfl⟩
    have hL3 : 3 ≤ X.length ∧ X.length ≤ 1000 := by
      rw [hX]
      have := fwrite_len _ HE.out.symm
      unfold encL
      rw [List.length_cons, List.length_append, putL_length]
      omega
    rw [← hX] at hc31 hr3 hpar
    rw [← hX]
    obtain ⟨L, hL⟩ : ∃ L, L = X.length := ⟨_, rfl⟩
    rw [← hL] at hc31 hr3 hpar hL3
    rw [← hL]
    obtain ⟨hL3, hL7⟩ := hL3
    obtain ⟨T, hT⟩ : ∃ T, T = (t.tmod (L : Int) + (L : Int)).tmod (L : Int) := ⟨_, rfl⟩
    have hTb : 0 ≤ T ∧ T < (L : Int) := by
      rw [hT]
      have h1 := Int.lt_tmod_of_pos t (show (0 : Int) < (L : Int) by omega)
      refine ⟨Int.tmod_nonneg _ (by omega), Int.tmod_lt_of_pos _ (by omega)⟩
    have hw1 : IntKind.i64.wrap (t.tmod (L : Int)) = t.tmod (L : Int) := IntWalk.i64_in _ (by have h1 := Int.lt_tmod_of_pos t (show (0 : Int) < (L : Int) by omega); have h2 := Int.tmod_lt_of_pos t (show (0 : Int) < (L : Int) by omega); omega)
    have hw2 : IntKind.i64.wrap (t.tmod (L : Int) + (L : Int)) = t.tmod (L : Int) + (L : Int) := IntWalk.i64_in _ (by have h1 := Int.lt_tmod_of_pos t (show (0 : Int) < (L : Int) by omega); have h2 := Int.tmod_lt_of_pos t (show (0 : Int) < (L : Int) by omega); omega)
    have hw3 : IntKind.i64.wrap T = T := IntWalk.i64_in _ (by omega)
    obtain ⟨at_, hat⟩ : ∃ a : Nat, T = (a : Int) := ⟨T.toNat, by omega⟩
    have hlt : at_ < L := by omega
    have hpp := rparse_any (X.take at_) at_ (by rw [List.length_take, ← hL]; omega) A3 c3 w2 _ (bpre2 hr3 hL (by omega)) (Nat.le_refl _) (by omega) (by unfold maxLen at hc32; omega) (by omega)
    rw [hpar at_ hlt] at hpp
    have HPP := Lib.hid hpp
    have hL0 : (0 : Int) < (L : Int) := by omega
    have hLne : ((L : Int) == 0) = false := by simp; omega
    have hac : (at_ : Int) ≤ (c3 : Int) := by omega
    have hT2 : (t.tmod (L : Int) + (L : Int)).tmod (L : Int) = (at_ : Int) := hT.symm.trans hat
    clear hpp hpar hr3 hv2 hX HPAR HE hL hTb hw3
    clear hT hat
    go_wp2_with fail
    refine HPP.out.mono ?_
    clear HPP
    rintro e w6 ⟨v6, he, hown6, hb6⟩
    obtain ⟨A6, c6, rfl, _, _, _⟩ := own_form hown6
    obtain rfl : e = .returned (.tuple #[.agg #[.int .i64 0, .string ⟨#[]⟩, .int .i64 0, .int .i64 0, .slice A6 0 c6, .int .i64 0, .int .i64 0, .string ⟨#[]⟩, .int .u64 0, .int .u64 0, .int .u64 0, .int .u64 0], .int .i64 0, .int .i64 8]) := he
    have HB6 := Lib.hid (HB2.out.trans (hb6.mono HB2.out.size))
    clear hown6 hb6
    go_wp2_with fail
    refine (num19_any 8 _).mono ?_
    rintro e w7 ⟨rfl, hw⟩
    rw [hw]
    clear hw w7
    go_wp2_with fail
    go_ret
    exact ⟨rfl, HB6.out.alloc HB6.out.size _⟩
  · rw [if_neg h0] at hv2
    subst hv2
    have hd : (E != 0) = true := by simp [h0]
    clear h0
    go_wp2_with fail
    go_ret
    exact ⟨rfl, HB2.out⟩
end Go.Proofs.Ythfjfkjlgdnohaa
