/-
  The page's Parse of a record, by its contract. (mkrf10.py)
-/
import Derived.Test.YthfjfkjlgdnohaaZ13
import Derived.Test.YthfjfkjlgdnohaaRf3y
import Derived.Test.YthfjfkjlgdnohaaRf5y
import Derived.Test.YthfjfkjlgdnohaaRf9y
namespace Go.Proofs.Ythfjfkjlgdnohaa
open Go.RowKit

theorem sizeAt3 (x y z : UInt8) (r : BS) : sizeAt (x :: y :: z :: r) = 256 * y.toNat + z.toNat := by
  show numN [y, z] = _
  simp [numN]
  omega
set_option maxRecDepth 100000 in
set_option maxHeartbeats 4000000 in
theorem pparse_any (b : BS) (n : Nat) (hnb : n = b.length) (A : Option Addr) (c : Nat) (w : World) (B : Nat) (hr : Reads w B 1 A n (bts b)) (hB : B ≤ w.heap.size) (hc : n ≤ c) (hcm : c ≤ 9223372036854775807) (hn : n ≤ 140737488355328) :
    Calls Try.prog 17 #[.slice A n c] w (ParsePost w (parseL b)) := by
  obtain ⟨P, hP⟩ : ∃ P, P = parseL b := ⟨_, rfl⟩
  rw [← hP]
  have k1 := Blk.new w 27 #[.int .i64 0, .string ⟨#[]⟩, .int .i64 0, .int .i64 0, .slice none 0 0, .int .i64 0, .int .i64 0, .string ⟨#[]⟩, .int .u64 0, .int .u64 0, .int .u64 0, .int .u64 0]
  obtain ⟨W1, hW1⟩ : ∃ W1, W1 = w.alloc (.cells #[.int .i64 0, .string ⟨#[]⟩, .int .i64 0, .int .i64 0, .slice none 0 0, .int .i64 0, .int .i64 0, .string ⟨#[]⟩, .int .u64 0, .int .u64 0, .int .u64 0, .int .u64 0] 27) := ⟨_, rfl⟩
  rw [← hW1] at k1
  have hb1 : Below w.heap.size w W1 := by rw [hW1]; exact (Below.refl _ w).alloc (Nat.le_refl _) _
  have hz1 : w.heap.size < W1.heap.size := k1.lt
  have HW1 := Lib.hid hW1
  have HB1 := Lib.hid hb1
  have K1 := Lib.hid k1
  obtain ⟨a0, a1, a2, a3, a4, a5, a6, a7, a8, a9, a10, a11⟩ := blk12 k1
  obtain ⟨g0, g1, g2, g3, g4, g5, g6, g7, g8, g9, g10, g11⟩ := frozen12 k1
  clear hW1 hb1 k1
  cases b with
  | nil =>
    obtain rfl : n = 0 := hnb
    have HF := Lib.hid (hP.trans parse_nil)
    clear hP hr
    go_enter Try.func17, Try.ntmps17
    go_upto_region 1 with (fail)
    rw [← HW1.out]
    go_wp2_with fail
    refine bodyPost_ret (v := .tuple #[.agg #[.int .i64 0, .string ⟨#[]⟩, .int .i64 0, .int .i64 0, .slice none 0 0, .int .i64 0, .int .i64 0, .string ⟨#[]⟩, .int .u64 0, .int .u64 0, .int .u64 0, .int .u64 0], .int .i64 0, .int .i64 8]) (by simp [results, Try.results17, go_sem, a0, a1, a2, a3, a4, a5, a6, a7, a8, a9, a10, a11]) rfl ⟨.slice none 0 0, by rw [HF.out]; rfl, by rw [HF.out]; exact World.ownsRow_nil _ _ _ _, ?_⟩
    repeat (with_reducible refine Below.setCell ?_ (by dsimp only; omega) _)
    with_reducible exact HB1.out
  | cons x r =>
    have hn1 : 1 ≤ n := by rw [hnb]; simp
    obtain ⟨ad, rfl, hadB, hcell⟩ := hr.2 hn1
    have e0 : w.cell? ad = some (.int .u8 (x.toNat : Int)) := by have := hcell 0 _ rfl; rwa [add_zero] at this
    have hadw : ad.block < w.heap.size := by omega
    have e1 : W1.cell? ad = some (.int .u8 (x.toNat : Int)) := (HB1.out.cell hadw).trans e0
    have hx := x.toNat_lt
    have hne : ((n : Int) == 0) = false := by simp; omega
    obtain ⟨K, hK⟩ : ∃ K, K = (x.toNat : Int) := ⟨_, rfl⟩
    rw [← hK] at e0 e1
    have HE0 := Lib.hid e0
    clear e0
    by_cases hk : x.toNat < 1 ∨ 4 < x.toNat
    · have HF := Lib.hid (hP.trans (parse_kind x r hk))
      have hkk : K < 1 ∨ 4 < K := by omega
      clear hP hnb hK hk hr hcell
      rcases hkk with hk | hk
      all_goals
        go_enter Try.func17, Try.ntmps17
        go_upto_region 1 with (fail)
        rw [← HW1.out]
        go_wp2_with fail
        refine bodyPost_ret (v := .tuple #[.agg #[.int .i64 0, .string ⟨#[]⟩, .int .i64 0, .int .i64 0, .slice none 0 0, .int .i64 0, .int .i64 0, .string ⟨#[]⟩, .int .u64 0, .int .u64 0, .int .u64 0, .int .u64 0], .int .i64 0, .int .i64 23]) (by simp [results, Try.results17, go_sem, a0, a1, a2, a3, a4, a5, a6, a7, a8, a9, a10, a11]) rfl ⟨.slice none 0 0, by rw [HF.out]; rfl, by rw [HF.out]; exact World.ownsRow_nil _ _ _ _, ?_⟩
        repeat (with_reducible refine Below.setCell ?_ (by dsimp only; omega) _)
        with_reducible exact HB1.out
    · have hk1 : 1 ≤ K := by omega
      have hk4 : K ≤ 4 := by omega
      by_cases h3 : n < 3
      · have HF := Lib.hid (hP.trans (parse_short x r hk (by rw [← hnb]; exact h3)))
        clear hP hnb hK hk hr hcell
        go_enter Try.func17, Try.ntmps17
        go_upto_region 1 with (fail)
        rw [← HW1.out]
        have hn3i : (n : Int) < 3 := by omega
        have hdd : decide ((n : Int) < 3) = true := by simp; omega
        go_wp2_with fail
        go_big_quiet (fail)
        all_goals
          go_wp2_with fail
          refine bodyPost_ret (v := .tuple #[.agg #[.int .i64 0, .string ⟨#[]⟩, .int .i64 0, .int .i64 0, .slice none 0 0, .int .i64 0, .int .i64 0, .string ⟨#[]⟩, .int .u64 0, .int .u64 0, .int .u64 0, .int .u64 0], .int .i64 0, .int .i64 8]) (by simp [results, Try.results17, go_sem, a0, a1, a2, a3, a4, a5, a6, a7, a8, a9, a10, a11]) rfl ⟨.slice none 0 0, by rw [HF.out]; rfl, by rw [HF.out]; exact World.ownsRow_nil _ _ _ _, ?_⟩
          repeat (with_reducible refine Below.setCell ?_ (by dsimp only; omega) _)
          with_reducible exact (below_drewN HB1.out _)
      · obtain ⟨y, z, r2, rfl⟩ : ∃ y z r2, r = y :: z :: r2 := by
          match r, hnb with
          | [], h => simp at h; omega
          | [_], h => simp at h; omega
          | y :: z :: r2, _ => exact ⟨y, z, r2, rfl⟩
        have f1 : w.cell? ⟨ad.block, ad.off + 1, none⟩ = some (.int .u8 (y.toNat : Int)) := hcell 1 _ rfl
        have f2 : w.cell? ⟨ad.block, ad.off + 2, none⟩ = some (.int .u8 (z.toNat : Int)) := hcell 2 _ rfl
        have c1 := (HB1.out.cell (p := ⟨ad.block, ad.off + 1, none⟩) hadw).trans f1
        have c2 := (HB1.out.cell (p := ⟨ad.block, ad.off + 2, none⟩) hadw).trans f2
        have hS := sizeAt3 x y z r2
        have hy := y.toNat_lt
        have hz := z.toNat_lt
        obtain ⟨Y, hY⟩ : ∃ Y, Y = (y.toNat : Int) := ⟨_, rfl⟩
        obtain ⟨Zz, hZz⟩ : ∃ Y, Y = (z.toNat : Int) := ⟨_, rfl⟩
        rw [← hY] at c1
        rw [← hZz] at c2
        obtain ⟨b, hb⟩ : ∃ b, b = x :: y :: z :: r2 := ⟨_, rfl⟩
        rw [← hb] at hr hP hnb hS
        have h3' : ¬ b.length < 3 := by rw [← hnb]; exact h3
        obtain ⟨N, hN⟩ : ∃ N, N = 3 + sizeAt b := ⟨_, rfl⟩
        have hNv : (N : Int) = 3 + 256 * Y + Zz := by rw [hN, hS, hY, hZz]; omega
        have hY0 : 0 ≤ Y ∧ Y ≤ 255 := by omega
        have hZ0 : 0 ≤ Zz ∧ Zz ≤ 255 := by omega
        have hn3i : ¬ (n : Int) < 3 := by omega
        have hdd : decide ((n : Int) < 3) = false := by simp; omega
        have hI1 : (1 : Int) < (n : Int) := by omega
        have hI2 : (2 : Int) < (n : Int) := by omega
        have hw1 : IntKind.i64.wrap (256 * Y) = 256 * Y := IntWalk.i64_in _ (by omega)
        have hw2 : IntKind.i64.wrap (3 + 256 * Y) = 3 + 256 * Y := IntWalk.i64_in _ (by omega)
        have hw3 : IntKind.i64.wrap (3 + 256 * Y + Zz) = (N : Int) := by rw [hNv]; exact IntWalk.i64_in _ (by omega)
        by_cases h4 : n < N
        · have HF : Hid (P = (Rc0, 0, 8)) := by show _ = _; rw [hP, hb]; exact parse_short2 x _ hk (by rw [← hb]; exact h3') (by rw [← hb, ← hN, ← hnb]; exact h4)
          have h4i : (n : Int) < (N : Int) := by omega
          have hde : decide ((n : Int) < (N : Int)) = true := by simp; omega
          clear hP hnb hK hk hr hcell hb hN h3' hS hY hZz hNv f1 f2 h4
          go_enter Try.func17, Try.ntmps17
          go_upto_region 1 with (fail)
          rw [← HW1.out]
          go_wp2_with fail
          go_big_quiet (fail)
          all_goals
            go_wp2_with fail
            refine bodyPost_ret (v := .tuple #[.agg #[.int .i64 0, .string ⟨#[]⟩, .int .i64 0, .int .i64 0, .slice none 0 0, .int .i64 0, .int .i64 0, .string ⟨#[]⟩, .int .u64 0, .int .u64 0, .int .u64 0, .int .u64 0], .int .i64 0, .int .i64 8]) (by simp [results, Try.results17, go_sem, a0, a1, a2, a3, a4, a5, a6, a7, a8, a9, a10, a11]) rfl ⟨.slice none 0 0, by rw [HF.out]; rfl, by rw [HF.out]; exact World.ownsRow_nil _ _ _ _, ?_⟩
            repeat (with_reducible refine Below.setCell ?_ (by dsimp only; omega) _)
            with_reducible exact (below_drewN HB1.out _)
        · obtain ⟨F, hF⟩ : ∃ F, F = fread ((b.drop 3).take (N - 3)) := ⟨_, rfl⟩
          have hNs : N - 3 = sizeAt b := by omega
          have hpl := parse_long x _ hk (by rw [← hb]; exact h3') (by rw [← hb, ← hN, ← hnb]; exact h4) F (by rw [← hb, ← hNs]; exact hF)
          rw [← hb, ← hN, ← hK, ← hP] at hpl
          have HP := Lib.hid hpl
          have hls := listR_small ((b.drop 3).take (N - 3))
          have hpo := fun W1 w' e => @readPost_of W1 w' ((b.drop 3).take (N - 3)) e
          rw [← hF] at hls hpo
          obtain ⟨l, hl⟩ : ∃ l, l = listR F := ⟨_, rfl⟩
          obtain ⟨E, hE⟩ : ∃ E, E = errR F := ⟨_, rfl⟩
          rw [← hl] at hls hpo HP
          rw [← hE] at HP hpo
          have HPOA := Lib.hid hpo
          have HLS := Lib.hid hls
          have h4i : ¬ (n : Int) < (N : Int) := by omega
          have hde : decide ((n : Int) < (N : Int)) = false := by simp; omega
          have h4j : (N : Int) ≤ (c : Int) := by omega
          have h4k : (3 : Int) ≤ (N : Int) := by omega
          have hc3i : (3 : Int) ≤ (c : Int) := by omega
          have hKK : K = 1 ∨ K = 2 ∨ K = 3 ∨ K = 4 := by omega
          have HKK := Lib.hid hKK
          have hN7 : N ≤ 66000 := by omega
          have hN3 : 3 ≤ N := by omega
          have hfr : c ≠ 3 → ∀ W, Below w.heap.size w W → Calls Try.prog 62 #[.slice (some ⟨ad.block, ad.off + 3, none⟩) (N - 3) (c - 3)] W (ReadPost W F) := by
            intro hc3 W hbW
            have hd0 := (hr.below (hbW.mono hB)).cut (k := 3) (cap := c) (by omega) hc
            rw [if_neg hc3] at hd0
            simp only [Nat.mul_one, ← bts_drop] at hd0
            have hd0 : Reads W B 1 (some ⟨ad.block, ad.off + 3, none⟩) (n - 3) (bts (b.drop 3)) := hd0
            rw [hF]
            exact pread_any ((b.drop 3).take (N - 3)) (N - 3) (by rw [List.length_take, List.length_drop, ← hnb]; omega) _ (c - 3) W B (bpre2 hd0 (by rw [List.length_drop, hnb]) (by omega)) (Nat.le_trans hB hbW.size) (by omega) (by omega) (by omega)
          have hfr3 : c = 3 → ∀ W, Below w.heap.size w W → Calls Try.prog 62 #[.slice (some ad) 0 0] W (ReadPost W F) := by
            intro hc3 W hbW
            have : (b.drop 3).take (N - 3) = [] := by rw [List.drop_eq_nil_of_le (by omega)]; simp
            rw [hF, this]
            exact pread_any [] 0 rfl (some ad) 0 W 0 ⟨rfl, fun h => by cases h⟩ (Nat.zero_le _) (Nat.le_refl _) (by decide) (by omega)
          have HFR := Lib.hid hfr
          have HFR3 := Lib.hid hfr3
          clear hP hnb hK hk hr hb hN h3' hF hls hpo hl hE hKK hfr hfr3 hadB hcell hS hY hZz hNv f1 f2 hNs hpl hy hz
          by_cases hc3 : c = 3
          · subst hc3
            obtain rfl : n = 3 := by omega
            obtain rfl : N = 3 := by omega
            have HFR := Lib.hid (HFR3.out rfl)
            clear HFR3 h4j hc3i h4k hn3i h4i hdd hde
            go_enter Try.func17, Try.ntmps17
            go_upto_region 1 with (fail)
            rw [← HW1.out]
            go_wp2_with fail
            go_big_quiet (fail)
            go_wp2_with fail
            go_big_quiet (fail)
            go_wp2_with fail
            refine calls_gen (fun WX hWX => ?_)
            have HBX : Hid (Below w.heap.size w WX) := by
              show Below _ _ _
              rw [hWX]
              first | exact below_drewN HB1.out _ | exact below_drewN (below_drewN HB1.out _) _
            have KX : Hid (Blk WX w.heap.size 27 #[.int .i64 0, .string ⟨#[]⟩, .int .i64 0, .int .i64 0, .slice none 0 0, .int .i64 0, .int .i64 0, .string ⟨#[]⟩, .int .u64 0, .int .u64 0, .int .u64 0, .int .u64 0]) := by
              show Blk _ _ _ _
              rw [hWX]
              first | exact K1.out.drewN _ | exact (K1.out.drewN _).drewN _
            clear hWX
            have hzX : w.heap.size < WX.heap.size := KX.out.lt
            have HPO := Lib.hid (fun w' e => HPOA.out WX w' e)
            refine (HFR.out WX HBX.out).mono ?_
            clear HFR HPOA
            intro e w2 hp
            obtain ⟨A2, c2, rfl, hr2, hc2, hcm2, hb2⟩ := HPO.out _ _ hp
            have hrd := pmade_any K HKK.out l (fun s hs => by have := HLS.out.2 s hs; omega) l.length rfl A2 c2 w2 w2.heap.size hr2 (Nat.le_refl _) (by have := HLS.out.1; omega)
            obtain ⟨m, hm⟩ : ∃ m, m = l.length := ⟨_, rfl⟩
            rw [← hm] at hrd
            rw [← hm]
            have HRD := Lib.hid hrd
            have K1 := Lib.hid (KX.out.below hb2 hzX)
            have HB2 := Lib.hid (HBX.out.trans (hb2.mono HBX.out.size))
            clear hp hr2 hb2 hrd hm HPO a0 a1 a2 a3 a4 a5 a6 a7 a8 a9 a10 a11 g0 g1 g2 g3 g4 g5 g6 g7 g8 g9 g10 g11
            have e1 : w2.cell? ad = some (.int .u8 K) := (HB2.out.cell hadw).trans HE0.out
            have hz2 : w.heap.size < w2.heap.size := K1.out.lt
            go_wp2_with fail
            refine HRD.out.mono ?_
            clear HRD
            rintro e w3 ⟨v, ⟨rk, rn, rf, rg, ro, ri, rc, rd, ⟨ra, rb, rx, ry⟩⟩, R, he, hmade, hown, hol, hov, hb3⟩
            obtain ⟨A3, c3, rfl, hq3, hqm3, hr3⟩ := own_form hown
            obtain rfl : e = .returned (.tuple #[.agg #[.int .i64 rk, .string ⟨rn.toArray⟩, .int .i64 rf, .int .i64 rg, .slice A3 ro.length c3, .int .i64 ri, .int .i64 rc, .string ⟨rd.toArray⟩, .int .u64 ra, .int .u64 rb, .int .u64 rx, .int .u64 ry], .bool R]) := he
            have hz3 : w.heap.size < w3.heap.size := by have := hb3.size; omega
            obtain ⟨W4, hW4⟩ : ∃ W4, W4 = w3.alloc (.cells #[.int .i64 rk, .string ⟨rn.toArray⟩, .int .i64 rf, .int .i64 rg, .slice A3 ro.length c3, .int .i64 ri, .int .i64 rc, .string ⟨rd.toArray⟩, .int .u64 ra, .int .u64 rb, .int .u64 rx, .int .u64 ry] 27) := ⟨_, rfl⟩
            have k9 : Blk W4 w3.heap.size 27 #[.int .i64 rk, .string ⟨rn.toArray⟩, .int .i64 rf, .int .i64 rg, .slice A3 ro.length c3, .int .i64 ri, .int .i64 rc, .string ⟨rd.toArray⟩, .int .u64 ra, .int .u64 rb, .int .u64 rx, .int .u64 ry] := by rw [hW4]; exact Blk.new _ _ _
            have k1 : Blk W4 w.heap.size 27 #[.int .i64 0, .string ⟨#[]⟩, .int .i64 0, .int .i64 0, .slice none 0 0, .int .i64 0, .int .i64 0, .string ⟨#[]⟩, .int .u64 0, .int .u64 0, .int .u64 0, .int .u64 0] := by rw [hW4]; exact (K1.out.below hb3 hz2).alloc _
            have HB4 : Hid (Below w.heap.size w W4) := by show Below _ _ _; rw [hW4]; exact (HB2.out.trans (hb3.mono HB2.out.size)).alloc (by omega) _
            have ho4 : W4.ownsRow w2.heap.size 99 2 (.slice A3 ro.length c3) ro.length (pcells ro) := by rw [hW4]; exact hown.alloc _
            have hr4 : Reads W4 W4.heap.size 2 A3 ro.length (pcells ro) := (own_reads ho4).2.2
            have hch := pcheck_any rk rn rf rg ro ri rc rd ra rb rx ry ro.length rfl A3 c3 W4 W4.heap.size (Nat.le_refl _) hr4 (by simp only at hol; omega) hov.1 hov.2
            obtain ⟨X, hX⟩ : ∃ X, X = recE ⟨rk, rn, rf, rg, ro, ri, rc, rd, ⟨ra, rb, rx, ry⟩⟩ := ⟨_, rfl⟩
            rw [← hX] at hch
            obtain ⟨m3, hm3⟩ : ∃ m, m = ro.length := ⟨_, rfl⟩
            rw [← hm3] at hch ho4 k9 hW4
            rw [← hm3]
            have HCH := Lib.hid hch
            have HO4 := Lib.hid ho4
            have HM3 := Lib.hid hm3
            have HX := Lib.hid hX
            have HMADE := Lib.hid hmade
            have HW4 := Lib.hid hW4
            have K1 := Lib.hid k1
            have K9 := Lib.hid k9
            obtain ⟨a0, a1, a2, a3, a4, a5, a6, a7, a8, a9, a10, a11⟩ := blk12 k1
            obtain ⟨g0, g1, g2, g3, g4, g5, g6, g7, g8, g9, g10, g11⟩ := frozen12 k1
            obtain ⟨p0, p1, p2, p3, p4, p5, p6, p7, p8, p9, p10, p11⟩ := blk12 k9
            obtain ⟨q0, q1, q2, q3, q4, q5, q6, q7, q8, q9, q10, q11⟩ := frozen12 k9
            clear k1 k9 hW4 hX hm3 hch ho4 hr4 hown hr3 hmade HB2 hb3 e1 hol hov
            go_upto_region 10 with (fail)
            rw [← HW4.out]
            by_cases hE0 : E = 0
            · have HP1 : Hid (P = if R = true then (if X = 0 then (⟨rk, rn, rf, rg, ro, ri, rc, rd, ⟨ra, rb, rx, ry⟩⟩, 3, 0) else (Rc0, 0, 9)) else (Rc0, 0, 33)) := by show _ = _; rw [HP.out, if_pos hE0, HMADE.out, HX.out]; cases R <;> rfl
              clear HP
              subst hE0
              cases R with
              | false =>
                have HF : Hid (P = (Rc0, 0, 33)) := HP1.out.trans (if_neg (by decide))
                go_wp2_with fail
                refine bodyPost_ret (v := .tuple #[.agg #[.int .i64 0, .string ⟨#[]⟩, .int .i64 0, .int .i64 0, .slice none 0 0, .int .i64 0, .int .i64 0, .string ⟨#[]⟩, .int .u64 0, .int .u64 0, .int .u64 0, .int .u64 0], .int .i64 0, .int .i64 33]) (by simp [results, Try.results17, go_sem, a0, a1, a2, a3, a4, a5, a6, a7, a8, a9, a10, a11]) rfl ⟨.slice none 0 0, by rw [HF.out]; rfl, by rw [HF.out]; exact World.ownsRow_nil _ _ _ _, ?_⟩
                repeat (with_reducible refine Below.setCell ?_ (by dsimp only; omega) _)
                with_reducible exact HB4.out
              | true =>
                have HP2 : Hid (P = if X = 0 then (⟨rk, rn, rf, rg, ro, ri, rc, rd, ⟨ra, rb, rx, ry⟩⟩, 3, 0) else (Rc0, 0, 9)) := HP1.out.trans (if_pos rfl)
                clear HP1
                go_wp2_with fail
                refine HCH.out.mono ?_
                clear HCH a0 a1 a2 a3 a4 a5 a6 a7 a8 a9 a10 a11 g0 g1 g2 g3 g4 g5 g6 g7 g8 g9 g10 g11 p0 p1 p2 p3 p4 p5 p6 p7 p8 p9 p10 p11 q0 q1 q2 q3 q4 q5 q6 q7 q8 q9 q10 q11
                rintro e w5 ⟨rfl, hb5⟩
                have HB5 := Lib.hid (HB4.out.trans (hb5.mono HB4.out.size))
                have HO5 := Lib.hid (own_below HO4.out hb5)
                have k1 := K1.out.below hb5 K1.out.lt
                have k9 := K9.out.below hb5 K9.out.lt
                obtain ⟨a0, a1, a2, a3, a4, a5, a6, a7, a8, a9, a10, a11⟩ := blk12 k1
                obtain ⟨g0, g1, g2, g3, g4, g5, g6, g7, g8, g9, g10, g11⟩ := frozen12 k1
                obtain ⟨p0, p1, p2, p3, p4, p5, p6, p7, p8, p9, p10, p11⟩ := blk12 k9
                obtain ⟨q0, q1, q2, q3, q4, q5, q6, q7, q8, q9, q10, q11⟩ := frozen12 k9
                clear hb5 k1 k9 HB4 HO4 K1 K9 HW4
                by_cases hX0 : X = 0
                · have HF : Hid (P = (⟨rk, rn, rf, rg, ro, ri, rc, rd, ⟨ra, rb, rx, ry⟩⟩, 3, 0)) := HP2.out.trans (if_pos hX0)
                  clear HX HP2
                  subst hX0
                  go_wp2_with fail
                  refine bodyPost_ret (v := .tuple #[.agg #[.int .i64 rk, .string ⟨rn.toArray⟩, .int .i64 rf, .int .i64 rg, .slice A3 m3 c3, .int .i64 ri, .int .i64 rc, .string ⟨rd.toArray⟩, .int .u64 ra, .int .u64 rb, .int .u64 rx, .int .u64 ry], .int .i64 ((3 : Nat) : Int), .int .i64 0]) (by simp [results, Try.results17, go_sem, a0, a1, a2, a3, a4, a5, a6, a7, a8, a9, a10, a11]) rfl ⟨.slice A3 m3 c3, by rw [HF.out]; rfl, ?_, ?_⟩
                  · rw [HF.out]
                    show World.ownsRow _ _ _ _ _ ro.length _
                    rw [← HM3.out]
                    refine own_mono (base := w2.heap.size) ?_ (by omega)
                    repeat (with_reducible refine own_setCell_below ?_ (by dsimp only; omega) _)
                    with_reducible exact HO5.out
                  · repeat (with_reducible refine Below.setCell ?_ (by dsimp only; omega) _)
                    with_reducible exact HB5.out
                · have HF : Hid (P = (Rc0, 0, 9)) := HP2.out.trans (if_neg hX0)
                  have hXb : (X == 0) = false := by simp [hX0]
                  have hXc : (X != 0) = true := by simp [hX0]
                  go_wp2_with fail
                  refine bodyPost_ret (v := .tuple #[.agg #[.int .i64 0, .string ⟨#[]⟩, .int .i64 0, .int .i64 0, .slice none 0 0, .int .i64 0, .int .i64 0, .string ⟨#[]⟩, .int .u64 0, .int .u64 0, .int .u64 0, .int .u64 0], .int .i64 0, .int .i64 9]) (by simp [results, Try.results17, go_sem, a0, a1, a2, a3, a4, a5, a6, a7, a8, a9, a10, a11]) rfl ⟨.slice none 0 0, by rw [HF.out]; rfl, by rw [HF.out]; exact World.ownsRow_nil _ _ _ _, ?_⟩
                  repeat (with_reducible refine Below.setCell ?_ (by dsimp only; omega) _)
                  with_reducible exact HB5.out
            · have HF : Hid (P = (Rc0, 0, 33)) := by show _ = _; rw [HP.out, if_neg hE0]
              have hEb : (E == 0) = false := by simp [hE0]
              have hEc : (E != 0) = true := by simp [hE0]
              go_wp2_with fail
              refine bodyPost_ret (v := .tuple #[.agg #[.int .i64 0, .string ⟨#[]⟩, .int .i64 0, .int .i64 0, .slice none 0 0, .int .i64 0, .int .i64 0, .string ⟨#[]⟩, .int .u64 0, .int .u64 0, .int .u64 0, .int .u64 0], .int .i64 0, .int .i64 33]) (by simp [results, Try.results17, go_sem, a0, a1, a2, a3, a4, a5, a6, a7, a8, a9, a10, a11]) rfl ⟨.slice none 0 0, by rw [HF.out]; rfl, by rw [HF.out]; exact World.ownsRow_nil _ _ _ _, ?_⟩
              repeat (with_reducible refine Below.setCell ?_ (by dsimp only; omega) _)
              with_reducible exact HB4.out
          · have HFR := Lib.hid (HFR.out hc3)
            clear HFR3
            go_enter Try.func17, Try.ntmps17
            go_upto_region 1 with (fail)
            rw [← HW1.out]
            go_wp2_with fail
            go_big_quiet (fail)
            go_wp2_with fail
            go_big_quiet (fail)
            go_wp2_with fail
            refine calls_gen (fun WX hWX => ?_)
            have HBX : Hid (Below w.heap.size w WX) := by
              show Below _ _ _
              rw [hWX]
              first | exact below_drewN HB1.out _ | exact below_drewN (below_drewN HB1.out _) _
            have KX : Hid (Blk WX w.heap.size 27 #[.int .i64 0, .string ⟨#[]⟩, .int .i64 0, .int .i64 0, .slice none 0 0, .int .i64 0, .int .i64 0, .string ⟨#[]⟩, .int .u64 0, .int .u64 0, .int .u64 0, .int .u64 0]) := by
              show Blk _ _ _ _
              rw [hWX]
              first | exact K1.out.drewN _ | exact (K1.out.drewN _).drewN _
            clear hWX
            have hzX : w.heap.size < WX.heap.size := KX.out.lt
            have HPO := Lib.hid (fun w' e => HPOA.out WX w' e)
            refine (HFR.out WX HBX.out).mono ?_
            clear HFR HPOA
            intro e w2 hp
            obtain ⟨A2, c2, rfl, hr2, hc2, hcm2, hb2⟩ := HPO.out _ _ hp
            have hrd := pmade_any K HKK.out l (fun s hs => by have := HLS.out.2 s hs; omega) l.length rfl A2 c2 w2 w2.heap.size hr2 (Nat.le_refl _) (by have := HLS.out.1; omega)
            obtain ⟨m, hm⟩ : ∃ m, m = l.length := ⟨_, rfl⟩
            rw [← hm] at hrd
            rw [← hm]
            have HRD := Lib.hid hrd
            have K1 := Lib.hid (KX.out.below hb2 hzX)
            have HB2 := Lib.hid (HBX.out.trans (hb2.mono HBX.out.size))
            clear hp hr2 hb2 hrd hm HPO a0 a1 a2 a3 a4 a5 a6 a7 a8 a9 a10 a11 g0 g1 g2 g3 g4 g5 g6 g7 g8 g9 g10 g11
            have e1 : w2.cell? ad = some (.int .u8 K) := (HB2.out.cell hadw).trans HE0.out
            have hz2 : w.heap.size < w2.heap.size := K1.out.lt
            go_wp2_with fail
            refine HRD.out.mono ?_
            clear HRD
            rintro e w3 ⟨v, ⟨rk, rn, rf, rg, ro, ri, rc, rd, ⟨ra, rb, rx, ry⟩⟩, R, he, hmade, hown, hol, hov, hb3⟩
            obtain ⟨A3, c3, rfl, hq3, hqm3, hr3⟩ := own_form hown
            obtain rfl : e = .returned (.tuple #[.agg #[.int .i64 rk, .string ⟨rn.toArray⟩, .int .i64 rf, .int .i64 rg, .slice A3 ro.length c3, .int .i64 ri, .int .i64 rc, .string ⟨rd.toArray⟩, .int .u64 ra, .int .u64 rb, .int .u64 rx, .int .u64 ry], .bool R]) := he
            have hz3 : w.heap.size < w3.heap.size := by have := hb3.size; omega
            obtain ⟨W4, hW4⟩ : ∃ W4, W4 = w3.alloc (.cells #[.int .i64 rk, .string ⟨rn.toArray⟩, .int .i64 rf, .int .i64 rg, .slice A3 ro.length c3, .int .i64 ri, .int .i64 rc, .string ⟨rd.toArray⟩, .int .u64 ra, .int .u64 rb, .int .u64 rx, .int .u64 ry] 27) := ⟨_, rfl⟩
            have k9 : Blk W4 w3.heap.size 27 #[.int .i64 rk, .string ⟨rn.toArray⟩, .int .i64 rf, .int .i64 rg, .slice A3 ro.length c3, .int .i64 ri, .int .i64 rc, .string ⟨rd.toArray⟩, .int .u64 ra, .int .u64 rb, .int .u64 rx, .int .u64 ry] := by rw [hW4]; exact Blk.new _ _ _
            have k1 : Blk W4 w.heap.size 27 #[.int .i64 0, .string ⟨#[]⟩, .int .i64 0, .int .i64 0, .slice none 0 0, .int .i64 0, .int .i64 0, .string ⟨#[]⟩, .int .u64 0, .int .u64 0, .int .u64 0, .int .u64 0] := by rw [hW4]; exact (K1.out.below hb3 hz2).alloc _
            have HB4 : Hid (Below w.heap.size w W4) := by show Below _ _ _; rw [hW4]; exact (HB2.out.trans (hb3.mono HB2.out.size)).alloc (by omega) _
            have ho4 : W4.ownsRow w2.heap.size 99 2 (.slice A3 ro.length c3) ro.length (pcells ro) := by rw [hW4]; exact hown.alloc _
            have hr4 : Reads W4 W4.heap.size 2 A3 ro.length (pcells ro) := (own_reads ho4).2.2
            have hch := pcheck_any rk rn rf rg ro ri rc rd ra rb rx ry ro.length rfl A3 c3 W4 W4.heap.size (Nat.le_refl _) hr4 (by simp only at hol; omega) hov.1 hov.2
            obtain ⟨X, hX⟩ : ∃ X, X = recE ⟨rk, rn, rf, rg, ro, ri, rc, rd, ⟨ra, rb, rx, ry⟩⟩ := ⟨_, rfl⟩
            rw [← hX] at hch
            obtain ⟨m3, hm3⟩ : ∃ m, m = ro.length := ⟨_, rfl⟩
            rw [← hm3] at hch ho4 k9 hW4
            rw [← hm3]
            have HCH := Lib.hid hch
            have HO4 := Lib.hid ho4
            have HM3 := Lib.hid hm3
            have HX := Lib.hid hX
            have HMADE := Lib.hid hmade
            have HW4 := Lib.hid hW4
            have K1 := Lib.hid k1
            have K9 := Lib.hid k9
            obtain ⟨a0, a1, a2, a3, a4, a5, a6, a7, a8, a9, a10, a11⟩ := blk12 k1
            obtain ⟨g0, g1, g2, g3, g4, g5, g6, g7, g8, g9, g10, g11⟩ := frozen12 k1
            obtain ⟨p0, p1, p2, p3, p4, p5, p6, p7, p8, p9, p10, p11⟩ := blk12 k9
            obtain ⟨q0, q1, q2, q3, q4, q5, q6, q7, q8, q9, q10, q11⟩ := frozen12 k9
            clear k1 k9 hW4 hX hm3 hch ho4 hr4 hown hr3 hmade HB2 hb3 e1 hol hov
            go_upto_region 10 with (fail)
            rw [← HW4.out]
            by_cases hE0 : E = 0
            · have HP1 : Hid (P = if R = true then (if X = 0 then (⟨rk, rn, rf, rg, ro, ri, rc, rd, ⟨ra, rb, rx, ry⟩⟩, N, 0) else (Rc0, 0, 9)) else (Rc0, 0, 33)) := by show _ = _; rw [HP.out, if_pos hE0, HMADE.out, HX.out]; cases R <;> rfl
              clear HP
              subst hE0
              cases R with
              | false =>
                have HF : Hid (P = (Rc0, 0, 33)) := HP1.out.trans (if_neg (by decide))
                go_wp2_with fail
                refine bodyPost_ret (v := .tuple #[.agg #[.int .i64 0, .string ⟨#[]⟩, .int .i64 0, .int .i64 0, .slice none 0 0, .int .i64 0, .int .i64 0, .string ⟨#[]⟩, .int .u64 0, .int .u64 0, .int .u64 0, .int .u64 0], .int .i64 0, .int .i64 33]) (by simp [results, Try.results17, go_sem, a0, a1, a2, a3, a4, a5, a6, a7, a8, a9, a10, a11]) rfl ⟨.slice none 0 0, by rw [HF.out]; rfl, by rw [HF.out]; exact World.ownsRow_nil _ _ _ _, ?_⟩
                repeat (with_reducible refine Below.setCell ?_ (by dsimp only; omega) _)
                with_reducible exact HB4.out
              | true =>
                have HP2 : Hid (P = if X = 0 then (⟨rk, rn, rf, rg, ro, ri, rc, rd, ⟨ra, rb, rx, ry⟩⟩, N, 0) else (Rc0, 0, 9)) := HP1.out.trans (if_pos rfl)
                clear HP1
                go_wp2_with fail
                refine HCH.out.mono ?_
                clear HCH a0 a1 a2 a3 a4 a5 a6 a7 a8 a9 a10 a11 g0 g1 g2 g3 g4 g5 g6 g7 g8 g9 g10 g11 p0 p1 p2 p3 p4 p5 p6 p7 p8 p9 p10 p11 q0 q1 q2 q3 q4 q5 q6 q7 q8 q9 q10 q11
                rintro e w5 ⟨rfl, hb5⟩
                have HB5 := Lib.hid (HB4.out.trans (hb5.mono HB4.out.size))
                have HO5 := Lib.hid (own_below HO4.out hb5)
                have k1 := K1.out.below hb5 K1.out.lt
                have k9 := K9.out.below hb5 K9.out.lt
                obtain ⟨a0, a1, a2, a3, a4, a5, a6, a7, a8, a9, a10, a11⟩ := blk12 k1
                obtain ⟨g0, g1, g2, g3, g4, g5, g6, g7, g8, g9, g10, g11⟩ := frozen12 k1
                obtain ⟨p0, p1, p2, p3, p4, p5, p6, p7, p8, p9, p10, p11⟩ := blk12 k9
                obtain ⟨q0, q1, q2, q3, q4, q5, q6, q7, q8, q9, q10, q11⟩ := frozen12 k9
                clear hb5 k1 k9 HB4 HO4 K1 K9 HW4
                by_cases hX0 : X = 0
                · have HF : Hid (P = (⟨rk, rn, rf, rg, ro, ri, rc, rd, ⟨ra, rb, rx, ry⟩⟩, N, 0)) := HP2.out.trans (if_pos hX0)
                  clear HX HP2
                  subst hX0
                  go_wp2_with fail
                  refine bodyPost_ret (v := .tuple #[.agg #[.int .i64 rk, .string ⟨rn.toArray⟩, .int .i64 rf, .int .i64 rg, .slice A3 m3 c3, .int .i64 ri, .int .i64 rc, .string ⟨rd.toArray⟩, .int .u64 ra, .int .u64 rb, .int .u64 rx, .int .u64 ry], .int .i64 (N : Int), .int .i64 0]) (by simp [results, Try.results17, go_sem, a0, a1, a2, a3, a4, a5, a6, a7, a8, a9, a10, a11]) rfl ⟨.slice A3 m3 c3, by rw [HF.out]; rfl, ?_, ?_⟩
                  · rw [HF.out]
                    show World.ownsRow _ _ _ _ _ ro.length _
                    rw [← HM3.out]
                    refine own_mono (base := w2.heap.size) ?_ (by omega)
                    repeat (with_reducible refine own_setCell_below ?_ (by dsimp only; omega) _)
                    with_reducible exact HO5.out
                  · repeat (with_reducible refine Below.setCell ?_ (by dsimp only; omega) _)
                    with_reducible exact HB5.out
                · have HF : Hid (P = (Rc0, 0, 9)) := HP2.out.trans (if_neg hX0)
                  have hXb : (X == 0) = false := by simp [hX0]
                  have hXc : (X != 0) = true := by simp [hX0]
                  go_wp2_with fail
                  refine bodyPost_ret (v := .tuple #[.agg #[.int .i64 0, .string ⟨#[]⟩, .int .i64 0, .int .i64 0, .slice none 0 0, .int .i64 0, .int .i64 0, .string ⟨#[]⟩, .int .u64 0, .int .u64 0, .int .u64 0, .int .u64 0], .int .i64 0, .int .i64 9]) (by simp [results, Try.results17, go_sem, a0, a1, a2, a3, a4, a5, a6, a7, a8, a9, a10, a11]) rfl ⟨.slice none 0 0, by rw [HF.out]; rfl, by rw [HF.out]; exact World.ownsRow_nil _ _ _ _, ?_⟩
                  repeat (with_reducible refine Below.setCell ?_ (by dsimp only; omega) _)
                  with_reducible exact HB5.out
            · have HF : Hid (P = (Rc0, 0, 33)) := by show _ = _; rw [HP.out, if_neg hE0]
              have hEb : (E == 0) = false := by simp [hE0]
              have hEc : (E != 0) = true := by simp [hE0]
              go_wp2_with fail
              refine bodyPost_ret (v := .tuple #[.agg #[.int .i64 0, .string ⟨#[]⟩, .int .i64 0, .int .i64 0, .slice none 0 0, .int .i64 0, .int .i64 0, .string ⟨#[]⟩, .int .u64 0, .int .u64 0, .int .u64 0, .int .u64 0], .int .i64 0, .int .i64 33]) (by simp [results, Try.results17, go_sem, a0, a1, a2, a3, a4, a5, a6, a7, a8, a9, a10, a11]) rfl ⟨.slice none 0 0, by rw [HF.out]; rfl, by rw [HF.out]; exact World.ownsRow_nil _ _ _ _, ?_⟩
              repeat (with_reducible refine Below.setCell ?_ (by dsimp only; omega) _)
              with_reducible exact HB4.out
end Go.Proofs.Ythfjfkjlgdnohaa
