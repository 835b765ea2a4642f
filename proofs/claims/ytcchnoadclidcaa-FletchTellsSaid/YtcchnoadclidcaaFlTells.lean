/-
  FletchTellsSaid: any octets' words, any sum behind them, a sum's octets, and any octets as a sum, are as the page says. No condition.
-/
import Derived.Test.YtcchnoadclidcaaFlBack
import Derived.Test.YtcchnoadclidcaaRSum
import Derived.Test.YtcchnoadclidcaaRFeed
import Derived.Test.YtcchnoadclidcaaSumO
import Derived.Test.YtcchnoadclidcaaUber2
namespace Go.Proofs.Ytcchnoadclidcaa
open Go.RowKit Go.ChangeShapes Go.WideShapes Go.ChangeAt

theorem wanted_of {ops : Array Oper} {o : Oper} {A : Act} {g k : Nat} {b : Bool} (hg : o.guard = some (g, b)) (hd : (ops[g]?).bind (·.dst) = some k) (h : A.tmps[k]?.getD undef = .bool b) : Region.wanted o (yielded ops A.tmps) = true := by
  have h1 : A.tmps[k]? = some (.bool b) := by
    cases hk : A.tmps[k]? with
    | none => rw [hk] at h; cases h
    | some x => rw [hk] at h; exact congrArg some h
  simp [Region.wanted, hg, yielded, hd, h1]
theorem rfeed_n (s : Sm) (b : List UInt8) (n : Nat) (hnb : n = b.length) (A : Option Addr) (c : Nat) (w : World) (B : Nat) (hr : Reads w B 1 A n (bts b)) (hB : B ≤ w.heap.size) (hn : n ≤ 140737488351232) :
    Calls Try.prog 30 #[.agg #[.int .u64 s.a, .int .u64 s.b, .int .u64 s.c, .int .u64 s.d], .slice A n c] w fun e w' =>
      e = .returned (.agg #[.int .u64 (feedL s (words b)).a, .int .u64 (feedL s (words b)).b, .int .u64 (feedL s (words b)).c, .int .u64 (feedL s (words b)).d]) ∧ Below w.heap.size w w' := by
  subst hnb
  exact rfeed_any s b A c w B hr hB hn
theorem of_nn (b : List UInt8) (n : Nat) (hnb : n = b.length) (A : Option Addr) (c : Nat) (w : World) (B : Nat) (hr : Reads w B 1 A n (bts b)) (hB : B ≤ w.heap.size) (hc : n ≤ c) (hn : n ≤ 140737488351232) :
    Calls Try.prog 31 #[.slice A n c] w fun e w' =>
      e = .returned (.agg #[.int .u64 (feedL ⟨0, 0, 0, 0⟩ (words b)).a, .int .u64 (feedL ⟨0, 0, 0, 0⟩ (words b)).b, .int .u64 (feedL ⟨0, 0, 0, 0⟩ (words b)).c, .int .u64 (feedL ⟨0, 0, 0, 0⟩ (words b)).d]) ∧ Below w.heap.size w w' := by
  subst hnb
  exact of_any b A c w B hr hB hc hn

set_option maxRecDepth 100000 in
set_option maxHeartbeats 1000000 in
theorem fletchTells_any (s : Sm) (hok : s.ok) (b : List UInt8) (A : Option Addr) (c : Nat) (w0 : World) (hr : Reads w0 w0.heap.size 1 A b.length (bts b)) (hc : b.length ≤ c) (hcc : c ≤ 140737488351232) : LawCalls Try.prog 6 #[s.val, .slice A b.length c] w0 := by
  obtain ⟨sa, sb, sc, sd⟩ := s
  have hbl : b.length ≤ 140737488351232 := by omega
  obtain ⟨⟨ta, tb, tc, td⟩, hT⟩ : ∃ r, r = readS b := ⟨_, rfl⟩
  obtain ⟨te, hE⟩ : ∃ r, r = readE b := ⟨_, rfl⟩
  have HT := Lib.hid hT
  have HE := Lib.hid hE
  clear hT hE
  show Calls _ _ #[.agg #[.int .u64 sa, .int .u64 sb, .int .u64 sc, .int .u64 sd], _] _ _
  go_enter Try.func6, Try.ntmps6
  go_wp2_with fail
  refine (read_any b b.length rfl A c _ w0.heap.size (hr.below (by go_grown)) (by simp) hc (by omega)).mono ?_
  rintro e w1 ⟨rfl, hb1⟩
  rw [← HT.out, ← HE.out]
  simp only [Sm.val]
  have hk : Blk w1 w0.heap.size 24 #[.int .u64 sa, .int .u64 sb, .int .u64 sc, .int .u64 sd] := (Blk.new w0 _ _).below hb1 (by simp)
  have hb : Below w0.heap.size w0 w1 := ((Below.refl _ _).alloc (Nat.le_refl _) _).trans (hb1.mono (by simp))
  clear hb1
  have hA1 := hb.alloc hb.size (.cells #[.int .u64 ta, .int .u64 tb, .int .u64 tc, .int .u64 td] 24)
  have hx1 := Blk.new w1 24 #[.int .u64 ta, .int .u64 tb, .int .u64 tc, .int .u64 td]
  have hkA := hk.alloc (.cells #[.int .u64 ta, .int .u64 tb, .int .u64 tc, .int .u64 td] 24)
  clear hk hb
  go_wp2_with fail
  refine (rsum_any b b.length rfl A c _ w0.heap.size (hr.below hA1) hA1.size).mono ?_
  rintro e w2 ⟨rfl, hb2⟩
  rw [← HT.out, ← HE.out]
  simp only [Sm.val]
  have hA2 := (hA1.trans (hb2.mono hA1.size)).alloc (hA1.trans (hb2.mono hA1.size)).size (.cells #[.int .u64 ta, .int .u64 tb, .int .u64 tc, .int .u64 td] 24)
  have hx2 := (hx1.below hb2 hx1.lt).alloc (.cells #[.int .u64 ta, .int .u64 tb, .int .u64 tc, .int .u64 td] 24)
  have hy2 := Blk.new w2 24 #[.int .u64 ta, .int .u64 tb, .int .u64 tc, .int .u64 td]
  have hk2 := (hkA.below hb2 hkA.lt).alloc (.cells #[.int .u64 ta, .int .u64 tb, .int .u64 tc, .int .u64 td] 24)
  clear hA1 hx1 hkA hb2
  go_wp2_with fail
  refine (words_any b A c _ w0.heap.size (hr.below hA2) hA2.size hc hbl).mono ?_
  rintro e w3 ⟨v3, rfl, hown3, hb3⟩
  have hA3 := hA2.trans (hb3.mono hA2.size)
  have hx3 := hx2.below hb3 hx2.lt
  have hy3 := hy2.below hb3 hy2.lt
  have hk3 := hk2.below hb3 hk2.lt
  clear hA2 hx2 hy2 hk2 hb3
  go_wp2_with fail
  refine (rwords_any b b.length rfl A c _ w0.heap.size (hr.below hA3) hA3.size hbl).mono ?_
  rintro e w4 ⟨v4, rfl, hown4, hb4⟩
  have hown3' := own_below hown3 hb4
  obtain ⟨A5, c5, rfl, hc5, hm5, hR5⟩ := own_form hown3'
  obtain ⟨A6, c6, rfl, hc6, hm6, hR6⟩ := own_form hown4
  have hA4 := hA3.trans (hb4.mono hA3.size)
  have hx4 := hx3.below hb4 hx3.lt
  have hy4 := hy3.below hb4 hy3.lt
  have hk4 := hk3.below hb4 hk3.lt
  clear hA3 hx3 hy3 hk3 hb4 hown3 hown3' hown4
  have hwl : (words b).length ≤ 140737488351232 := by simp [words, wordsN_length]; omega
  obtain ⟨l, hl⟩ : ∃ l, l = words b := ⟨_, rfl⟩
  rw [← hl] at hc5 hR5 hc6 hR6 hwl ⊢
  clear hl
  obtain ⟨x0, x1, x2, x3, _, _, _, _⟩ := blk4 hx4
  obtain ⟨y0, y1, y2, y3, _, _, _, _⟩ := blk4 hy4
  have hr4 := hr.below hA4
  clear hx4 hy4 hr
  go_wp2_with fail
  repeat (refine (num4_any _ _).mono ?_; rintro e w6 ⟨rfl, rfl⟩; go_wp2_with fail)
  clear x0 x1 x2 x3 y0 y1 y2 y3
  go_loopw [11] (fun i wr => ∃ k : Nat, k ≤ l.length ∧ i = .int .i64 (k : Int) ∧ Below w4.heap.size w4 wr) (fun i _ => l.length - (intOf i).toNat)
  case atStart => exact ⟨0, Nat.zero_le _, rfl, Below.refl _ _⟩
  case round =>
    obtain ⟨k, hk, rfl, hbr⟩ := hrel
    by_cases hlt : k < l.length
    · obtain ⟨ad5, u5, rfl, _, hu5, hcu5⟩ := (hR5.below hbr).at_ hlt
      obtain ⟨ad6, u6, rfl, _, hu6, hcu6⟩ := (hR6.below hbr).at_ hlt
      obtain ⟨x, hx⟩ : ∃ x, l[k]? = some x := ⟨_, List.getElem?_eq_getElem hlt⟩
      obtain rfl : u5 = .int .u32 (x : Int) := by simp [u32s, hx] at hu5; exact hu5.symm
      obtain rfl : u6 = .int .u32 (x : Int) := by simp [u32s, hx] at hu6; exact hu6.symm
      have hki : (k : Int) < (l.length : Int) := by omega
      clear hu5 hu6 hx hR5 hR6
      go_wp2_with fail
      go_region
      go_wp2_with fail
      go_roundw
      case rel => exact ⟨k + 1, by omega, by go_num, hbr.drew⟩
      case measure => simp [intOf]; omega
    · have hA5 := hA4.trans (hbr.mono hA4.size)
      have hk5 := hk4.below hbr hk4.lt
      have hr3 := hr4.below (hbr.mono hA4.size)
      have hBw := hA5.size
      obtain ⟨⟨pa, pb, pc, pd⟩, hr1'⟩ : ∃ r, feedL ⟨sa, sb, sc, sd⟩ (words b) = r := ⟨_, rfl⟩
      obtain ⟨⟨ra, rb, rc, rd⟩, hr2'⟩ : ∃ r, feedL ⟨0, 0, 0, 0⟩ (words b) = r := ⟨_, rfl⟩
      have HR1 := Lib.hid hr1'
      have HR2 := Lib.hid hr2'
      have hS := Lib.hid (fun (W' : World) (hB : Below wr.heap.size wr W') => (by obtain ⟨d0, d1, d2, d3, _⟩ := blk4 (hk5.below hB hk5.lt); exact ⟨d0, d1, d2, d3⟩ :
        W'.cell? ⟨w0.heap.size, 0, none⟩ = some (.int .u64 sa) ∧ W'.cell? ⟨w0.heap.size, 1, none⟩ = some (.int .u64 sb) ∧ W'.cell? ⟨w0.heap.size, 2, none⟩ = some (.int .u64 sc) ∧ W'.cell? ⟨w0.heap.size, 3, none⟩ = some (.int .u64 sd)))
      clear hr1' hr2' hbr hA4 hk4 hr4 hk5 hR5 hR6 hc5 hm5 hc6 hm6
      go_wp2_with fail
      refine wp_region_good (by kernel_rfl) (by kernel_rfl) [(fun v _ => v = .agg #[.int .u64 sa, .int .u64 sb, .int .u64 sc, .int .u64 sd]),
    (fun v _ => v = .slice A b.length c),
    (fun v _ => v = .agg #[.int .u64 pa, .int .u64 pb, .int .u64 pc, .int .u64 pd]),
    (fun v _ => v = .agg #[.int .u64 sa, .int .u64 sb, .int .u64 sc, .int .u64 sd]),
    (fun v _ => v = .slice A b.length c),
    (fun v _ => v = .agg #[.int .u64 pa, .int .u64 pb, .int .u64 pc, .int .u64 pd]),
    (fun v _ => v = .bool true),
    (fun v _ => v = .bool true),
    (fun v _ => v = .slice A b.length c),
    (fun v _ => v = .agg #[.int .u64 ra, .int .u64 rb, .int .u64 rc, .int .u64 rd]),
    (fun v _ => v = .agg #[.int .u64 0, .int .u64 0, .int .u64 0, .int .u64 0]),
    (fun v _ => v = .slice A b.length c),
    (fun v _ => v = .agg #[.int .u64 ra, .int .u64 rb, .int .u64 rc, .int .u64 rd]),
    (fun v _ => v = .bool true),
    (fun v _ => v = .bool true),
    (fun v _ => v = .bool true),
    (fun v _ => v = .agg #[.int .u64 sa, .int .u64 sb, .int .u64 sc, .int .u64 sd]),
    (fun v W => PieceIn 32 (octL sa sb sc sd) v W),
    (fun v _ => v = .string ⟨(octL sa sb sc sd).toArray⟩),
    (fun v _ => v = .agg #[.int .u64 sa, .int .u64 sb, .int .u64 sc, .int .u64 sd]),
    (fun v W => PieceIn 32 (octL sa sb sc sd) v W),
    (fun v _ => v = .string ⟨(octL sa sb sc sd).toArray⟩),
    (fun v _ => v = .bool true),
    (fun v _ => v = .bool true),
    (fun v _ => v = .bool true),
    (fun v _ => v = .bool true),
    (fun v _ => v = .bool true),
    (fun v _ => v = .bool true)] ?_ ?_ ?_
      · repeat' (first | exact stays_nil | refine stays_cons ?_ ?_ | exact Stays.pure | exact PieceIn.stays _ _)
      · intro i oo ho m W hb0 hdeps AA KK hA hK
        rcases i with _ | _ | _ | _ | _ | _ | _ | _ | _ | _ | _ | _ | _ | _ | _ | _ | _ | _ | _ | _ | _ | _ | _ | _ | _ | _ | _ | _ | i
        · injection ho with ho
          subst ho
          have ef2 : AA.tmps[2]?.getD undef = .pointer (some ⟨w0.heap.size, 0, none⟩) := by rw [hA]; exact tmps_free (by kernel_rfl)
          clear hA hdeps
          obtain ⟨c0, c1, c2, c3⟩ := hS.out W hb0
          have hK0 : KK (AA.put (some 57) _) _ := hK (.agg #[.int .u64 sa, .int .u64 sb, .int .u64 sc, .int .u64 sd]) _ (Below.refl _ _) (Eq.refl _)
          clear hK
          go_simp
          exact hK0
        · injection ho with ho
          subst ho
          have ef1 : AA.tmps[1]?.getD undef = .slice A b.length c := by rw [hA]; exact tmps_free (by kernel_rfl)
          clear hA hdeps
          have hK0 : KK (AA.put (some 58) _) _ := hK (.slice A b.length c) _ (Below.refl _ _) (Eq.refl _)
          clear hK
          go_simp
          exact hK0
        · injection ho with ho
          subst ho
          obtain ⟨x0, hx0, hg0⟩ := hdeps ⟨0, .data⟩ (by simp) rfl
          have hg0 : x0 = .agg #[.int .u64 sa, .int .u64 sb, .int .u64 sc, .int .u64 sd] := hg0
          subst hg0
          have e0 : AA.tmps[57]?.getD undef = .agg #[.int .u64 sa, .int .u64 sb, .int .u64 sc, .int .u64 sd] := by rw [hA]; exact tmps_own (by kernel_rfl) hx0 (of_decide_eq_true (by kernel_rfl))
          obtain ⟨x1, hx1, hg1⟩ := hdeps ⟨1, .data⟩ (by simp) rfl
          have hg1 : x1 = .slice A b.length c := hg1
          subst hg1
          have e1 : AA.tmps[58]?.getD undef = .slice A b.length c := by rw [hA]; exact tmps_own (by kernel_rfl) hx1 (of_decide_eq_true (by kernel_rfl))
          clear hA hdeps hx0 hx1
          have hKK := Lib.hid hK
          clear hK
          go_simp
          refine (feed_n ⟨sa, sb, sc, sd⟩ b b.length rfl A c _ w0.heap.size (hr3.below (hb0.mono hBw)) (Nat.le_trans hBw hb0.size) hc hbl).mono ?_
          rintro e w5 ⟨he, hbn⟩
          rw [HR1.out] at he
          subst he
          exact hKK.out _ _ hbn (Eq.refl _)
        · injection ho with ho
          subst ho
          have ef2 : AA.tmps[2]?.getD undef = .pointer (some ⟨w0.heap.size, 0, none⟩) := by rw [hA]; exact tmps_free (by kernel_rfl)
          clear hA hdeps
          obtain ⟨c0, c1, c2, c3⟩ := hS.out W hb0
          have hK0 : KK (AA.put (some 60) _) _ := hK (.agg #[.int .u64 sa, .int .u64 sb, .int .u64 sc, .int .u64 sd]) _ (Below.refl _ _) (Eq.refl _)
          clear hK
          go_simp
          exact hK0
        · injection ho with ho
          subst ho
          have ef1 : AA.tmps[1]?.getD undef = .slice A b.length c := by rw [hA]; exact tmps_free (by kernel_rfl)
          clear hA hdeps
          have hK0 : KK (AA.put (some 61) _) _ := hK (.slice A b.length c) _ (Below.refl _ _) (Eq.refl _)
          clear hK
          go_simp
          exact hK0
        · injection ho with ho
          subst ho
          obtain ⟨x3, hx3, hg3⟩ := hdeps ⟨3, .data⟩ (by simp) rfl
          have hg3 : x3 = .agg #[.int .u64 sa, .int .u64 sb, .int .u64 sc, .int .u64 sd] := hg3
          subst hg3
          have e3 : AA.tmps[60]?.getD undef = .agg #[.int .u64 sa, .int .u64 sb, .int .u64 sc, .int .u64 sd] := by rw [hA]; exact tmps_own (by kernel_rfl) hx3 (of_decide_eq_true (by kernel_rfl))
          obtain ⟨x4, hx4, hg4⟩ := hdeps ⟨4, .data⟩ (by simp) rfl
          have hg4 : x4 = .slice A b.length c := hg4
          subst hg4
          have e4 : AA.tmps[61]?.getD undef = .slice A b.length c := by rw [hA]; exact tmps_own (by kernel_rfl) hx4 (of_decide_eq_true (by kernel_rfl))
          clear hA hdeps hx3 hx4
          have hKK := Lib.hid hK
          clear hK
          go_simp
          refine (rfeed_n ⟨sa, sb, sc, sd⟩ b b.length rfl A c _ w0.heap.size (hr3.below (hb0.mono hBw)) (Nat.le_trans hBw hb0.size) hbl).mono ?_
          rintro e w5 ⟨he, hbn⟩
          rw [HR1.out] at he
          subst he
          exact hKK.out _ _ hbn (Eq.refl _)
        · injection ho with ho
          subst ho
          obtain ⟨x2, hx2, hg2⟩ := hdeps ⟨2, .data⟩ (by simp) rfl
          have hg2 : x2 = .agg #[.int .u64 pa, .int .u64 pb, .int .u64 pc, .int .u64 pd] := hg2
          subst hg2
          have e2 : AA.tmps[59]?.getD undef = .agg #[.int .u64 pa, .int .u64 pb, .int .u64 pc, .int .u64 pd] := by rw [hA]; exact tmps_own (by kernel_rfl) hx2 (of_decide_eq_true (by kernel_rfl))
          obtain ⟨x5, hx5, hg5⟩ := hdeps ⟨5, .data⟩ (by simp) rfl
          have hg5 : x5 = .agg #[.int .u64 pa, .int .u64 pb, .int .u64 pc, .int .u64 pd] := hg5
          subst hg5
          have e5 : AA.tmps[62]?.getD undef = .agg #[.int .u64 pa, .int .u64 pb, .int .u64 pc, .int .u64 pd] := by rw [hA]; exact tmps_own (by kernel_rfl) hx5 (of_decide_eq_true (by kernel_rfl))
          clear hA hdeps hx2 hx5
          have hK0 : KK (AA.put (some 63) _) _ := hK (.bool true) _ (Below.refl _ _) (Eq.refl _)
          clear hK
          go_simp
          exact hK0
        · injection ho with ho
          subst ho
          obtain ⟨x6, hx6, hg6⟩ := hdeps ⟨6, .data⟩ (by simp) rfl
          have hg6 : x6 = .bool true := hg6
          subst hg6
          have e6 : AA.tmps[63]?.getD undef = .bool true := by rw [hA]; exact tmps_own (by kernel_rfl) hx6 (of_decide_eq_true (by kernel_rfl))
          clear hA hdeps hx6
          have hK0 : KK (AA.put (some 64) _) _ := hK (.bool true) _ (Below.refl _ _) (Eq.refl _)
          clear hK
          go_simp
          exact hK0
        · injection ho with ho
          subst ho
          obtain ⟨x7, hx7, hg7⟩ := hdeps ⟨7, .guard⟩ (by simp) rfl
          have hg7 : x7 = .bool true := hg7
          subst hg7
          have e7 : AA.tmps[64]?.getD undef = .bool true := by rw [hA]; exact tmps_own (by kernel_rfl) hx7 (of_decide_eq_true (by kernel_rfl))
          have ef1 : AA.tmps[1]?.getD undef = .slice A b.length c := by rw [hA]; exact tmps_free (by kernel_rfl)
          clear hA hdeps hx7
          rw [if_pos (wanted_of (k := 64) rfl rfl e7)]
          have hK0 : KK (AA.put (some 65) _) _ := hK (.slice A b.length c) _ (Below.refl _ _) (Eq.refl _)
          clear hK
          go_simp
          exact hK0
        · injection ho with ho
          subst ho
          obtain ⟨x7, hx7, hg7⟩ := hdeps ⟨7, .guard⟩ (by simp) rfl
          have hg7 : x7 = .bool true := hg7
          subst hg7
          have e7 : AA.tmps[64]?.getD undef = .bool true := by rw [hA]; exact tmps_own (by kernel_rfl) hx7 (of_decide_eq_true (by kernel_rfl))
          obtain ⟨x8, hx8, hg8⟩ := hdeps ⟨8, .data⟩ (by simp) rfl
          have hg8 : x8 = .slice A b.length c := hg8
          subst hg8
          have e8 : AA.tmps[65]?.getD undef = .slice A b.length c := by rw [hA]; exact tmps_own (by kernel_rfl) hx8 (of_decide_eq_true (by kernel_rfl))
          clear hA hdeps hx7 hx8
          rw [if_pos (wanted_of (k := 64) rfl rfl e7)]
          have hKK := Lib.hid hK
          clear hK
          go_simp
          refine (of_nn b b.length rfl A c _ w0.heap.size (hr3.below (hb0.mono hBw)) (Nat.le_trans hBw hb0.size) hc hbl).mono ?_
          rintro e w5 ⟨he, hbn⟩
          rw [HR2.out] at he
          subst he
          exact hKK.out _ _ hbn (Eq.refl _)
        · injection ho with ho
          subst ho
          obtain ⟨x7, hx7, hg7⟩ := hdeps ⟨7, .guard⟩ (by simp) rfl
          have hg7 : x7 = .bool true := hg7
          subst hg7
          have e7 : AA.tmps[64]?.getD undef = .bool true := by rw [hA]; exact tmps_own (by kernel_rfl) hx7 (of_decide_eq_true (by kernel_rfl))
          clear hA hdeps hx7
          rw [if_pos (wanted_of (k := 64) rfl rfl e7)]
          have hK0 : KK (AA.put (some 67) _) _ := hK (.agg #[.int .u64 0, .int .u64 0, .int .u64 0, .int .u64 0]) _ (Below.refl _ _) (Eq.refl _)
          clear hK
          go_simp
          exact hK0
        · injection ho with ho
          subst ho
          obtain ⟨x7, hx7, hg7⟩ := hdeps ⟨7, .guard⟩ (by simp) rfl
          have hg7 : x7 = .bool true := hg7
          subst hg7
          have e7 : AA.tmps[64]?.getD undef = .bool true := by rw [hA]; exact tmps_own (by kernel_rfl) hx7 (of_decide_eq_true (by kernel_rfl))
          have ef1 : AA.tmps[1]?.getD undef = .slice A b.length c := by rw [hA]; exact tmps_free (by kernel_rfl)
          clear hA hdeps hx7
          rw [if_pos (wanted_of (k := 64) rfl rfl e7)]
          have hK0 : KK (AA.put (some 68) _) _ := hK (.slice A b.length c) _ (Below.refl _ _) (Eq.refl _)
          clear hK
          go_simp
          exact hK0
        · injection ho with ho
          subst ho
          obtain ⟨x7, hx7, hg7⟩ := hdeps ⟨7, .guard⟩ (by simp) rfl
          have hg7 : x7 = .bool true := hg7
          subst hg7
          have e7 : AA.tmps[64]?.getD undef = .bool true := by rw [hA]; exact tmps_own (by kernel_rfl) hx7 (of_decide_eq_true (by kernel_rfl))
          obtain ⟨x10, hx10, hg10⟩ := hdeps ⟨10, .data⟩ (by simp) rfl
          have hg10 : x10 = .agg #[.int .u64 0, .int .u64 0, .int .u64 0, .int .u64 0] := hg10
          subst hg10
          have e10 : AA.tmps[67]?.getD undef = .agg #[.int .u64 0, .int .u64 0, .int .u64 0, .int .u64 0] := by rw [hA]; exact tmps_own (by kernel_rfl) hx10 (of_decide_eq_true (by kernel_rfl))
          obtain ⟨x11, hx11, hg11⟩ := hdeps ⟨11, .data⟩ (by simp) rfl
          have hg11 : x11 = .slice A b.length c := hg11
          subst hg11
          have e11 : AA.tmps[68]?.getD undef = .slice A b.length c := by rw [hA]; exact tmps_own (by kernel_rfl) hx11 (of_decide_eq_true (by kernel_rfl))
          clear hA hdeps hx7 hx10 hx11
          rw [if_pos (wanted_of (k := 64) rfl rfl e7)]
          have hKK := Lib.hid hK
          clear hK
          go_simp
          refine (rfeed_n ⟨0, 0, 0, 0⟩ b b.length rfl A c _ w0.heap.size (hr3.below (hb0.mono hBw)) (Nat.le_trans hBw hb0.size) hbl).mono ?_
          rintro e w5 ⟨he, hbn⟩
          rw [HR2.out] at he
          subst he
          exact hKK.out _ _ hbn (Eq.refl _)
        · injection ho with ho
          subst ho
          obtain ⟨x7, hx7, hg7⟩ := hdeps ⟨7, .guard⟩ (by simp) rfl
          have hg7 : x7 = .bool true := hg7
          subst hg7
          have e7 : AA.tmps[64]?.getD undef = .bool true := by rw [hA]; exact tmps_own (by kernel_rfl) hx7 (of_decide_eq_true (by kernel_rfl))
          obtain ⟨x9, hx9, hg9⟩ := hdeps ⟨9, .data⟩ (by simp) rfl
          have hg9 : x9 = .agg #[.int .u64 ra, .int .u64 rb, .int .u64 rc, .int .u64 rd] := hg9
          subst hg9
          have e9 : AA.tmps[66]?.getD undef = .agg #[.int .u64 ra, .int .u64 rb, .int .u64 rc, .int .u64 rd] := by rw [hA]; exact tmps_own (by kernel_rfl) hx9 (of_decide_eq_true (by kernel_rfl))
          obtain ⟨x12, hx12, hg12⟩ := hdeps ⟨12, .data⟩ (by simp) rfl
          have hg12 : x12 = .agg #[.int .u64 ra, .int .u64 rb, .int .u64 rc, .int .u64 rd] := hg12
          subst hg12
          have e12 : AA.tmps[69]?.getD undef = .agg #[.int .u64 ra, .int .u64 rb, .int .u64 rc, .int .u64 rd] := by rw [hA]; exact tmps_own (by kernel_rfl) hx12 (of_decide_eq_true (by kernel_rfl))
          clear hA hdeps hx7 hx9 hx12
          rw [if_pos (wanted_of (k := 64) rfl rfl e7)]
          have hK0 : KK (AA.put (some 70) _) _ := hK (.bool true) _ (Below.refl _ _) (Eq.refl _)
          clear hK
          go_simp
          exact hK0
        · injection ho with ho
          subst ho
          obtain ⟨x7, hx7, hg7⟩ := hdeps ⟨7, .data⟩ (by simp) rfl
          have hg7 : x7 = .bool true := hg7
          subst hg7
          have e7 : AA.tmps[64]?.getD undef = .bool true := by rw [hA]; exact tmps_own (by kernel_rfl) hx7 (of_decide_eq_true (by kernel_rfl))
          obtain ⟨x13, hx13, hg13⟩ := hdeps ⟨13, .data⟩ (by simp) rfl
          have hg13 : x13 = .bool true := hg13
          subst hg13
          have e13 : AA.tmps[70]?.getD undef = .bool true := by rw [hA]; exact tmps_own (by kernel_rfl) hx13 (of_decide_eq_true (by kernel_rfl))
          clear hA hdeps hx7 hx13
          have hK0 : KK (AA.put (some 71) _) _ := hK (.bool true) _ (Below.refl _ _) (Eq.refl _)
          clear hK
          go_simp
          exact hK0
        · injection ho with ho
          subst ho
          obtain ⟨x14, hx14, hg14⟩ := hdeps ⟨14, .data⟩ (by simp) rfl
          have hg14 : x14 = .bool true := hg14
          subst hg14
          have e14 : AA.tmps[71]?.getD undef = .bool true := by rw [hA]; exact tmps_own (by kernel_rfl) hx14 (of_decide_eq_true (by kernel_rfl))
          clear hA hdeps hx14
          have hK0 : KK (AA.put (some 72) _) _ := hK (.bool true) _ (Below.refl _ _) (Eq.refl _)
          clear hK
          go_simp
          exact hK0
        · injection ho with ho
          subst ho
          obtain ⟨x15, hx15, hg15⟩ := hdeps ⟨15, .guard⟩ (by simp) rfl
          have hg15 : x15 = .bool true := hg15
          subst hg15
          have e15 : AA.tmps[72]?.getD undef = .bool true := by rw [hA]; exact tmps_own (by kernel_rfl) hx15 (of_decide_eq_true (by kernel_rfl))
          have ef2 : AA.tmps[2]?.getD undef = .pointer (some ⟨w0.heap.size, 0, none⟩) := by rw [hA]; exact tmps_free (by kernel_rfl)
          clear hA hdeps hx15
          rw [if_pos (wanted_of (k := 72) rfl rfl e15)]
          obtain ⟨c0, c1, c2, c3⟩ := hS.out W hb0
          have hK0 : KK (AA.put (some 73) _) _ := hK (.agg #[.int .u64 sa, .int .u64 sb, .int .u64 sc, .int .u64 sd]) _ (Below.refl _ _) (Eq.refl _)
          clear hK
          go_simp
          exact hK0
        · injection ho with ho
          subst ho
          obtain ⟨x15, hx15, hg15⟩ := hdeps ⟨15, .guard⟩ (by simp) rfl
          have hg15 : x15 = .bool true := hg15
          subst hg15
          have e15 : AA.tmps[72]?.getD undef = .bool true := by rw [hA]; exact tmps_own (by kernel_rfl) hx15 (of_decide_eq_true (by kernel_rfl))
          obtain ⟨x16, hx16, hg16⟩ := hdeps ⟨16, .data⟩ (by simp) rfl
          have hg16 : x16 = .agg #[.int .u64 sa, .int .u64 sb, .int .u64 sc, .int .u64 sd] := hg16
          subst hg16
          have e16 : AA.tmps[73]?.getD undef = .agg #[.int .u64 sa, .int .u64 sb, .int .u64 sc, .int .u64 sd] := by rw [hA]; exact tmps_own (by kernel_rfl) hx16 (of_decide_eq_true (by kernel_rfl))
          clear hA hdeps hx15 hx16
          rw [if_pos (wanted_of (k := 72) rfl rfl e15)]
          have hKK := Lib.hid hK
          clear hK
          go_simp
          refine (octets_any ⟨sa, sb, sc, sd⟩ _).mono ?_
          rintro e w5 ⟨v, rfl, hown, hbn⟩
          exact hKK.out _ _ hbn (PieceIn.own hown (octL_length _ _ _ _).symm)
        · injection ho with ho
          subst ho
          obtain ⟨x15, hx15, hg15⟩ := hdeps ⟨15, .guard⟩ (by simp) rfl
          have hg15 : x15 = .bool true := hg15
          subst hg15
          have e15 : AA.tmps[72]?.getD undef = .bool true := by rw [hA]; exact tmps_own (by kernel_rfl) hx15 (of_decide_eq_true (by kernel_rfl))
          obtain ⟨x17, hx17, hg17⟩ := hdeps ⟨17, .data⟩ (by simp) rfl
          have hg17 : PieceIn 32 (octL sa sb sc sd) x17 W := hg17
          have hk17 := hg17
          obtain ⟨-, A17, c17, rfl, -, -, -⟩ := hg17
          have e17 : AA.tmps[74]?.getD undef = .slice A17 32 c17 := by rw [hA]; exact tmps_own (by kernel_rfl) hx17 (of_decide_eq_true (by kernel_rfl))
          clear hA hdeps hx15 hx17
          rw [if_pos (wanted_of (k := 72) rfl rfl e15)]
          obtain ⟨-, A9, c9, he9, -, -, hr9⟩ := hk17
          injection he9 with h91 _ h92
          subst h91 h92
          have hs9 := str_of (P := Try.prog) (c := c17) hr9 (octL_length _ _ _ _).symm Try.underlying25 Try.underlying5 Try.underlying9
          have hK0 : KK (AA.put (some 75) _) _ := hK (.string ⟨(octL sa sb sc sd).toArray⟩) _ (Below.refl _ _) (Eq.refl _)
          clear hK
          go_simp
          exact hK0
        · injection ho with ho
          subst ho
          obtain ⟨x15, hx15, hg15⟩ := hdeps ⟨15, .guard⟩ (by simp) rfl
          have hg15 : x15 = .bool true := hg15
          subst hg15
          have e15 : AA.tmps[72]?.getD undef = .bool true := by rw [hA]; exact tmps_own (by kernel_rfl) hx15 (of_decide_eq_true (by kernel_rfl))
          have ef2 : AA.tmps[2]?.getD undef = .pointer (some ⟨w0.heap.size, 0, none⟩) := by rw [hA]; exact tmps_free (by kernel_rfl)
          clear hA hdeps hx15
          rw [if_pos (wanted_of (k := 72) rfl rfl e15)]
          obtain ⟨c0, c1, c2, c3⟩ := hS.out W hb0
          have hK0 : KK (AA.put (some 76) _) _ := hK (.agg #[.int .u64 sa, .int .u64 sb, .int .u64 sc, .int .u64 sd]) _ (Below.refl _ _) (Eq.refl _)
          clear hK
          go_simp
          exact hK0
        · injection ho with ho
          subst ho
          obtain ⟨x15, hx15, hg15⟩ := hdeps ⟨15, .guard⟩ (by simp) rfl
          have hg15 : x15 = .bool true := hg15
          subst hg15
          have e15 : AA.tmps[72]?.getD undef = .bool true := by rw [hA]; exact tmps_own (by kernel_rfl) hx15 (of_decide_eq_true (by kernel_rfl))
          obtain ⟨x19, hx19, hg19⟩ := hdeps ⟨19, .data⟩ (by simp) rfl
          have hg19 : x19 = .agg #[.int .u64 sa, .int .u64 sb, .int .u64 sc, .int .u64 sd] := hg19
          subst hg19
          have e19 : AA.tmps[76]?.getD undef = .agg #[.int .u64 sa, .int .u64 sb, .int .u64 sc, .int .u64 sd] := by rw [hA]; exact tmps_own (by kernel_rfl) hx19 (of_decide_eq_true (by kernel_rfl))
          clear hA hdeps hx15 hx19
          rw [if_pos (wanted_of (k := 72) rfl rfl e15)]
          have hKK := Lib.hid hK
          clear hK
          go_simp
          refine (sumOctets_any ⟨sa, sb, sc, sd⟩ hok _).mono ?_
          rintro e w5 ⟨v, rfl, hown, hbn⟩
          exact hKK.out _ _ hbn (PieceIn.own hown (octL_length _ _ _ _).symm)
        · injection ho with ho
          subst ho
          obtain ⟨x15, hx15, hg15⟩ := hdeps ⟨15, .guard⟩ (by simp) rfl
          have hg15 : x15 = .bool true := hg15
          subst hg15
          have e15 : AA.tmps[72]?.getD undef = .bool true := by rw [hA]; exact tmps_own (by kernel_rfl) hx15 (of_decide_eq_true (by kernel_rfl))
          obtain ⟨x20, hx20, hg20⟩ := hdeps ⟨20, .data⟩ (by simp) rfl
          have hg20 : PieceIn 32 (octL sa sb sc sd) x20 W := hg20
          have hk20 := hg20
          obtain ⟨-, A20, c20, rfl, -, -, -⟩ := hg20
          have e20 : AA.tmps[77]?.getD undef = .slice A20 32 c20 := by rw [hA]; exact tmps_own (by kernel_rfl) hx20 (of_decide_eq_true (by kernel_rfl))
          clear hA hdeps hx15 hx20
          rw [if_pos (wanted_of (k := 72) rfl rfl e15)]
          obtain ⟨-, A9, c9, he9, -, -, hr9⟩ := hk20
          injection he9 with h91 _ h92
          subst h91 h92
          have hs9 := str_of (P := Try.prog) (c := c20) hr9 (octL_length _ _ _ _).symm Try.underlying25 Try.underlying5 Try.underlying9
          have hK0 : KK (AA.put (some 78) _) _ := hK (.string ⟨(octL sa sb sc sd).toArray⟩) _ (Below.refl _ _) (Eq.refl _)
          clear hK
          go_simp
          exact hK0
        · injection ho with ho
          subst ho
          obtain ⟨x15, hx15, hg15⟩ := hdeps ⟨15, .guard⟩ (by simp) rfl
          have hg15 : x15 = .bool true := hg15
          subst hg15
          have e15 : AA.tmps[72]?.getD undef = .bool true := by rw [hA]; exact tmps_own (by kernel_rfl) hx15 (of_decide_eq_true (by kernel_rfl))
          obtain ⟨x18, hx18, hg18⟩ := hdeps ⟨18, .data⟩ (by simp) rfl
          have hg18 : x18 = .string ⟨(octL sa sb sc sd).toArray⟩ := hg18
          subst hg18
          have e18 : AA.tmps[75]?.getD undef = .string ⟨(octL sa sb sc sd).toArray⟩ := by rw [hA]; exact tmps_own (by kernel_rfl) hx18 (of_decide_eq_true (by kernel_rfl))
          obtain ⟨x21, hx21, hg21⟩ := hdeps ⟨21, .data⟩ (by simp) rfl
          have hg21 : x21 = .string ⟨(octL sa sb sc sd).toArray⟩ := hg21
          subst hg21
          have e21 : AA.tmps[78]?.getD undef = .string ⟨(octL sa sb sc sd).toArray⟩ := by rw [hA]; exact tmps_own (by kernel_rfl) hx21 (of_decide_eq_true (by kernel_rfl))
          clear hA hdeps hx15 hx18 hx21
          rw [if_pos (wanted_of (k := 72) rfl rfl e15)]
          have hK0 : KK (AA.put (some 79) _) _ := hK (.bool true) _ (Below.refl _ _) (Eq.refl _)
          clear hK
          go_simp
          exact hK0
        · injection ho with ho
          subst ho
          obtain ⟨x15, hx15, hg15⟩ := hdeps ⟨15, .data⟩ (by simp) rfl
          have hg15 : x15 = .bool true := hg15
          subst hg15
          have e15 : AA.tmps[72]?.getD undef = .bool true := by rw [hA]; exact tmps_own (by kernel_rfl) hx15 (of_decide_eq_true (by kernel_rfl))
          obtain ⟨x22, hx22, hg22⟩ := hdeps ⟨22, .data⟩ (by simp) rfl
          have hg22 : x22 = .bool true := hg22
          subst hg22
          have e22 : AA.tmps[79]?.getD undef = .bool true := by rw [hA]; exact tmps_own (by kernel_rfl) hx22 (of_decide_eq_true (by kernel_rfl))
          clear hA hdeps hx15 hx22
          have hK0 : KK (AA.put (some 80) _) _ := hK (.bool true) _ (Below.refl _ _) (Eq.refl _)
          clear hK
          go_simp
          exact hK0
        · injection ho with ho
          subst ho
          obtain ⟨x23, hx23, hg23⟩ := hdeps ⟨23, .data⟩ (by simp) rfl
          have hg23 : x23 = .bool true := hg23
          subst hg23
          have e23 : AA.tmps[80]?.getD undef = .bool true := by rw [hA]; exact tmps_own (by kernel_rfl) hx23 (of_decide_eq_true (by kernel_rfl))
          clear hA hdeps hx23
          have hK0 : KK (AA.put (some 81) _) _ := hK (.bool true) _ (Below.refl _ _) (Eq.refl _)
          clear hK
          go_simp
          exact hK0
        · injection ho with ho
          subst ho
          obtain ⟨x24, hx24, hg24⟩ := hdeps ⟨24, .guard⟩ (by simp) rfl
          have hg24 : x24 = .bool true := hg24
          subst hg24
          have e24 : AA.tmps[81]?.getD undef = .bool true := by rw [hA]; exact tmps_own (by kernel_rfl) hx24 (of_decide_eq_true (by kernel_rfl))
          clear hA hdeps hx24
          rw [if_pos (wanted_of (k := 81) rfl rfl e24)]
          have hKK := Lib.hid hK
          clear hK
          go_simp
          refine (alive4_any _).mono ?_
          rintro e w5 ⟨rfl, hbn⟩
          exact hKK.out _ _ hbn (Eq.refl _)
        · injection ho with ho
          subst ho
          obtain ⟨x24, hx24, hg24⟩ := hdeps ⟨24, .data⟩ (by simp) rfl
          have hg24 : x24 = .bool true := hg24
          subst hg24
          have e24 : AA.tmps[81]?.getD undef = .bool true := by rw [hA]; exact tmps_own (by kernel_rfl) hx24 (of_decide_eq_true (by kernel_rfl))
          obtain ⟨x25, hx25, hg25⟩ := hdeps ⟨25, .data⟩ (by simp) rfl
          have hg25 : x25 = .bool true := hg25
          subst hg25
          have e25 : AA.tmps[82]?.getD undef = .bool true := by rw [hA]; exact tmps_own (by kernel_rfl) hx25 (of_decide_eq_true (by kernel_rfl))
          clear hA hdeps hx24 hx25
          have hK0 : KK (AA.put (some 83) _) _ := hK (.bool true) _ (Below.refl _ _) (Eq.refl _)
          clear hK
          go_simp
          exact hK0
        · injection ho with ho
          subst ho
          obtain ⟨x26, hx26, hg26⟩ := hdeps ⟨26, .data⟩ (by simp) rfl
          have hg26 : x26 = .bool true := hg26
          subst hg26
          have e26 : AA.tmps[83]?.getD undef = .bool true := by rw [hA]; exact tmps_own (by kernel_rfl) hx26 (of_decide_eq_true (by kernel_rfl))
          clear hA hdeps hx26
          have hK0 : KK (AA.put (some 4) _) _ := hK (.bool true) _ (Below.refl _ _) (Eq.refl _)
          clear hK
          go_simp
          exact hK0
        · simp at ho
      · intro m W hbx hall
        obtain ⟨x0, m0, g0⟩ := hall 0 (by simp)
        replace g0 : x0 = .agg #[.int .u64 sa, .int .u64 sb, .int .u64 sc, .int .u64 sd] := g0
        subst g0
        obtain ⟨x1, m1, g1⟩ := hall 1 (by simp)
        replace g1 : x1 = .slice A b.length c := g1
        subst g1
        obtain ⟨x2, m2, g2⟩ := hall 2 (by simp)
        replace g2 : x2 = .agg #[.int .u64 pa, .int .u64 pb, .int .u64 pc, .int .u64 pd] := g2
        subst g2
        obtain ⟨x3, m3, g3⟩ := hall 3 (by simp)
        replace g3 : x3 = .agg #[.int .u64 sa, .int .u64 sb, .int .u64 sc, .int .u64 sd] := g3
        subst g3
        obtain ⟨x4, m4, g4⟩ := hall 4 (by simp)
        replace g4 : x4 = .slice A b.length c := g4
        subst g4
        obtain ⟨x5, m5, g5⟩ := hall 5 (by simp)
        replace g5 : x5 = .agg #[.int .u64 pa, .int .u64 pb, .int .u64 pc, .int .u64 pd] := g5
        subst g5
        obtain ⟨x6, m6, g6⟩ := hall 6 (by simp)
        replace g6 : x6 = .bool true := g6
        subst g6
        obtain ⟨x7, m7, g7⟩ := hall 7 (by simp)
        replace g7 : x7 = .bool true := g7
        subst g7
        obtain ⟨x8, m8, g8⟩ := hall 8 (by simp)
        replace g8 : x8 = .slice A b.length c := g8
        subst g8
        obtain ⟨x9, m9, g9⟩ := hall 9 (by simp)
        replace g9 : x9 = .agg #[.int .u64 ra, .int .u64 rb, .int .u64 rc, .int .u64 rd] := g9
        subst g9
        obtain ⟨x10, m10, g10⟩ := hall 10 (by simp)
        replace g10 : x10 = .agg #[.int .u64 0, .int .u64 0, .int .u64 0, .int .u64 0] := g10
        subst g10
        obtain ⟨x11, m11, g11⟩ := hall 11 (by simp)
        replace g11 : x11 = .slice A b.length c := g11
        subst g11
        obtain ⟨x12, m12, g12⟩ := hall 12 (by simp)
        replace g12 : x12 = .agg #[.int .u64 ra, .int .u64 rb, .int .u64 rc, .int .u64 rd] := g12
        subst g12
        obtain ⟨x13, m13, g13⟩ := hall 13 (by simp)
        replace g13 : x13 = .bool true := g13
        subst g13
        obtain ⟨x14, m14, g14⟩ := hall 14 (by simp)
        replace g14 : x14 = .bool true := g14
        subst g14
        obtain ⟨x15, m15, g15⟩ := hall 15 (by simp)
        replace g15 : x15 = .bool true := g15
        subst g15
        obtain ⟨x16, m16, g16⟩ := hall 16 (by simp)
        replace g16 : x16 = .agg #[.int .u64 sa, .int .u64 sb, .int .u64 sc, .int .u64 sd] := g16
        subst g16
        obtain ⟨x17, m17, g17⟩ := hall 17 (by simp)
        replace g17 : PieceIn 32 (octL sa sb sc sd) x17 W := g17
        obtain ⟨x18, m18, g18⟩ := hall 18 (by simp)
        replace g18 : x18 = .string ⟨(octL sa sb sc sd).toArray⟩ := g18
        subst g18
        obtain ⟨x19, m19, g19⟩ := hall 19 (by simp)
        replace g19 : x19 = .agg #[.int .u64 sa, .int .u64 sb, .int .u64 sc, .int .u64 sd] := g19
        subst g19
        obtain ⟨x20, m20, g20⟩ := hall 20 (by simp)
        replace g20 : PieceIn 32 (octL sa sb sc sd) x20 W := g20
        obtain ⟨x21, m21, g21⟩ := hall 21 (by simp)
        replace g21 : x21 = .string ⟨(octL sa sb sc sd).toArray⟩ := g21
        subst g21
        obtain ⟨x22, m22, g22⟩ := hall 22 (by simp)
        replace g22 : x22 = .bool true := g22
        subst g22
        obtain ⟨x23, m23, g23⟩ := hall 23 (by simp)
        replace g23 : x23 = .bool true := g23
        subst g23
        obtain ⟨x24, m24, g24⟩ := hall 24 (by simp)
        replace g24 : x24 = .bool true := g24
        subst g24
        obtain ⟨x25, m25, g25⟩ := hall 25 (by simp)
        replace g25 : x25 = .bool true := g25
        subst g25
        obtain ⟨x26, m26, g26⟩ := hall 26 (by simp)
        replace g26 : x26 = .bool true := g26
        subst g26
        obtain ⟨x27, m27, g27⟩ := hall 27 (by simp)
        replace g27 : x27 = .bool true := g27
        subst g27
        rw [frameM_all (by kernel_rfl) [.agg #[.int .u64 sa, .int .u64 sb, .int .u64 sc, .int .u64 sd], .slice A b.length c, .agg #[.int .u64 pa, .int .u64 pb, .int .u64 pc, .int .u64 pd], .agg #[.int .u64 sa, .int .u64 sb, .int .u64 sc, .int .u64 sd], .slice A b.length c, .agg #[.int .u64 pa, .int .u64 pb, .int .u64 pc, .int .u64 pd], .bool true, .bool true, .slice A b.length c, .agg #[.int .u64 ra, .int .u64 rb, .int .u64 rc, .int .u64 rd], .agg #[.int .u64 0, .int .u64 0, .int .u64 0, .int .u64 0], .slice A b.length c, .agg #[.int .u64 ra, .int .u64 rb, .int .u64 rc, .int .u64 rd], .bool true, .bool true, .bool true, .agg #[.int .u64 sa, .int .u64 sb, .int .u64 sc, .int .u64 sd], x17, .string ⟨(octL sa sb sc sd).toArray⟩, .agg #[.int .u64 sa, .int .u64 sb, .int .u64 sc, .int .u64 sd], x20, .string ⟨(octL sa sb sc sd).toArray⟩, .bool true, .bool true, .bool true, .bool true, .bool true, .bool true] rfl (fun i hi => by
            rcases i with _ | _ | _ | _ | _ | _ | _ | _ | _ | _ | _ | _ | _ | _ | _ | _ | _ | _ | _ | _ | _ | _ | _ | _ | _ | _ | _ | _ | i
            · exact m0
            · exact m1
            · exact m2
            · exact m3
            · exact m4
            · exact m5
            · exact m6
            · exact m7
            · exact m8
            · exact m9
            · exact m10
            · exact m11
            · exact m12
            · exact m13
            · exact m14
            · exact m15
            · exact m16
            · exact m17
            · exact m18
            · exact m19
            · exact m20
            · exact m21
            · exact m22
            · exact m23
            · exact m24
            · exact m25
            · exact m26
            · exact m27
            · simp at hi; omega)]
        clear hall m0 m1 m2 m3 m4 m5 m6 m7 m8 m9 m10 m11 m12 m13 m14 m15 m16 m17 m18 m19 m20 m21 m22 m23 m24 m25 m26 m27
        simp only [putAll, Act.put, List.setIfInBounds_toArray, List.set_cons_succ, List.set_cons_zero]
        repeat go_step
        go_ret
        exact ⟨rfl, hA5.trans (hbx.mono hBw)⟩

theorem fletchTells_core (H : Type) (enc : TypeId × Value → H) (W : World) (args : Array Value) (ds : List (DataW H)) (h : ArgsIn enc Try.prog W [24, 25] args.toList ds) :
    LawCalls Try.prog 6 args W := by
  obtain ⟨v0, v1, d0, d1, rfl, rfl, h0, h1⟩ := argsIn2 h
  obtain ⟨s, rfl, hs⟩ := h0.sum Try.underlying24 ⟨rfl, rfl, rfl, rfl⟩ Try.underlying22 (by kernel_rfl) (by kernel_rfl)
  obtain ⟨A, b, c, rfl, hc, hc2, hr, _⟩ := h1.bytes Try.underlying25 Try.underlying5 (by kernel_rfl) (by kernel_rfl)
  exact fletchTells_any s hs b A c W hr hc hc2

theorem fletchTells_spec {H : Type} {enc : TypeId × Value → H} (vs : List Value) (ds : List (DataW H)) (W : World) (p : List MemPlace) (h : DataW.TrodAll enc Try.prog W 0 (fun _ => true) true [24, 25] vs ds p) :
    (Rows.fletchTellsSpec.fn H ds).results = [.lit (.bool true)] ∧ (Rows.fletchTellsSpec.fn H ds).args = ds ∧ (Rows.fletchTellsSpec.fn H ds).vars = [] := by
  obtain ⟨_, _, d0, ds0, _, _, rfl, rfl, _, _, r0⟩ := trodAll_cons h
  obtain ⟨_, _, d1, ds1, _, _, rfl, rfl, _, _, r1⟩ := trodAll_cons r0
  obtain ⟨rfl, rfl, rfl⟩ := trodAll_nil r1
  exact ⟨rfl, rfl, rfl⟩

set_option maxRecDepth 100000 in
theorem fletchTells_lifted (os : Os) (started : os.Started) (H : Type) (enc : TypeId × Value → H) :
    ReturnsInHanded {} Try.checked os 6 .any (Rows.fletchTellsSpec.pre6 enc Try.prog Try.f6 Rows.fletchTellsRow.domain false) (Rows.fletchTellsSpec.post enc Try.prog Try.f6 false true false false) := by
  refine returnsInHanded_of_change_sized (C := Try.checked) Try.own started (by kernel_rfl) Try.func6
    (ChangeSpec.witness6 (enc := enc) (C := Try.checked) false ⟨#[], #[.agg #[.int .u64 0, .int .u64 0, .int .u64 0, .int .u64 0], .slice none 0 0], []⟩ 8 (by kernel_rfl) (by kernel_rfl) (by kernel_rfl) (by kernel_rfl)) ?_
  intro W base args ds gs before hval hW _ hsz _
  exact law_contract Try.laidOut Try.underlying4 (ps := [24, 25]) rfl rfl rfl (by kernel_rfl) fletchTells_spec W base args ds gs before hval hW hsz (fun h _ => fletchTells_core H enc W args ds h)

theorem fletchTells_holds : Rows.FletchTellsSaid :=
  OpenClaim.holds_of_wide 6 Try.f6 rfl rfl rfl rfl rfl rfl rfl ⟨rfl, rfl, rfl, rfl, rfl⟩ rfl rfl rfl rfl rfl (by kernel_rfl) Try.func6 (by kernel_rfl)
    (of_decide_eq_true (by kernel_rfl)) (by unfold Func.isWrapper; first | (rw [if_pos (by decide +kernel)]; kernel_rfl) | (rw [if_neg (by decide +kernel)]; exact ⟨rfl, rfl⟩))
    (fun os started H enc _ => fletchTells_lifted os started H enc)

end Go.Proofs.Ytcchnoadclidcaa
