/-
  record.Parse, by its contract. (mkrcparse.py)
-/
import Derived.Test.YthfjfkjlgdnohaaZ2
import Derived.Test.YthfjfkjlgdnohaaZ11
import Derived.Test.YthfjfkjlgdnohaaZ12
namespace Go.Proofs.Ythfjfkjlgdnohaa
open Go.RowKit

def ParsePost (w : World) (P : Rc × Nat × Int) (e : Ending) (w' : World) : Prop :=
  ∃ v, e = .returned (.tuple #[rcV P.1 v, .int .i64 (P.2.1 : Int), .int .i64 P.2.2]) ∧ w'.ownsRow w.heap.size 99 2 v P.1.own.length (pcells P.1.own) ∧ Below w.heap.size w w'
def listR (r : Except Int (List BS)) : List BS := match r with | .ok l => l | .error _ => []
def errR (r : Except Int (List BS)) : Int := match r with | .ok _ => 0 | .error e => e
theorem fbody_err (k : Nat) : ∀ (b : BS) (e : Int), fbody k b = .error e → e ≠ 0 := by
  induction k with
  | zero => intro b e h; unfold fbody at h; split at h <;> cases h; decide
  | succ k ih =>
    intro b e h
    unfold fbody at h
    split at h
    · cases h; decide
    split at h
    · cases h; decide
    split at h
    · cases h; decide
    split at h
    · cases h
    · rename_i e' he
      cases h
      exact ih _ _ he
theorem fread_err (b : BS) (e : Int) (h : fread b = .error e) : e ≠ 0 := by
  unfold fread at h
  split at h
  · cases h; decide
  split at h
  · cases h; decide
  exact fbody_err _ _ _ h
theorem listR_small (b : BS) : (listR (fread b)).length ≤ 1024 ∧ ∀ s ∈ listR (fread b), s.length ≤ 65536 := by
  cases h : fread b with
  | ok l => exact ⟨(fread_back b l h).2.1, (fread_back b l h).2.2⟩
  | error e => exact ⟨by simp [listR], fun s hs => by cases hs⟩
/-- fields.Read's answer: a slice and a number -/
theorem readPost_of {w w' : World} {b : BS} {e : Ending} (h : ReadPost w (fread b) e w') : ∃ A c, e = .returned (.tuple #[.slice A (listR (fread b)).length c, .int .i64 (errR (fread b))]) ∧ Reads w' w'.heap.size 1 A (listR (fread b)).length (scells (listR (fread b))) ∧ (listR (fread b)).length ≤ c ∧ c ≤ maxLen ∧ Below w.heap.size w w' := by
  obtain ⟨h, hb⟩ := h
  cases hf : fread b with
  | ok l =>
    rw [hf] at h
    obtain ⟨v, he, ho⟩ := h
    obtain ⟨A, c, rfl, h1, h2, h3⟩ := own_form ho
    exact ⟨A, c, he, h3, h1, h2, hb⟩
  | error x =>
    rw [hf] at h
    exact ⟨none, 0, h, Reads.none_, Nat.le_refl _, by unfold maxLen; omega, hb⟩
theorem parse_nil : parseL [] = (Rc0, 0, 8) := rfl
theorem parse_kind (x : UInt8) (r : BS) (h : x.toNat < 1 ∨ 4 < x.toNat) : parseL (x :: r) = (Rc0, 0, 23) := by
  unfold parseL
  simp only [if_pos h]
theorem parse_short (x : UInt8) (r : BS) (h : ¬ (x.toNat < 1 ∨ 4 < x.toNat)) (h3 : (x :: r).length < 3) : parseL (x :: r) = (Rc0, 0, 8) := by
  unfold parseL
  simp only [if_neg h, if_pos h3]
theorem parse_short2 (x : UInt8) (r : BS) (h : ¬ (x.toNat < 1 ∨ 4 < x.toNat)) (h3 : ¬ (x :: r).length < 3) (h4 : (x :: r).length < 3 + sizeAt (x :: r)) : parseL (x :: r) = (Rc0, 0, 8) := by
  unfold parseL
  simp only [if_neg h, if_neg h3, if_pos h4]
theorem parse_long (x : UInt8) (r : BS) (h : ¬ (x.toNat < 1 ∨ 4 < x.toNat)) (h3 : ¬ (x :: r).length < 3) (h4 : ¬ (x :: r).length < 3 + sizeAt (x :: r)) (F : Except Int (List BS)) (hF : F = fread (((x :: r).drop 3).take (sizeAt (x :: r)))) : parseL (x :: r) =
    if errR F = 0 then match madeL (x.toNat : Int) (listR F) with
      | none => ((Rc0, 0, 33) : Rc × Nat × Int)
      | some q => if recE q = 0 then (q, 3 + sizeAt (x :: r), 0) else (Rc0, 0, 9)
    else (Rc0, 0, 33) := by
  unfold parseL
  simp only [if_neg h, if_neg h3, if_neg h4]
  rw [← hF]
  cases hf : F with
  | ok l => rfl
  | error e =>
    have := fread_err _ e (by rw [← hF, hf])
    have h2 : ¬ errR (.error e) = 0 := this
    rw [if_neg h2]
theorem sizeAt_lt (b : BS) : sizeAt b < 65536 := numN_take2 (b.drop 1)
set_option maxRecDepth 100000 in
set_option maxHeartbeats 4000000 in
theorem rparse_any (b : BS) (n : Nat) (hnb : n = b.length) (A : Option Addr) (c : Nat) (w : World) (B : Nat) (hr : Reads w B 1 A n (bts b)) (hB : B ≤ w.heap.size) (hc : n ≤ c) (hcm : c ≤ 9223372036854775807) (hn : n ≤ 140737488355328) :
    Calls Try.prog 16 #[.slice A n c] w (ParsePost w (parseL b)) := by
  obtain ⟨P, hP⟩ : ∃ P, P = parseL b := ⟨_, rfl⟩
  rw [← hP]
  have k1 := Blk.new w 27 #[.int .i64 0, .string ⟨#[]⟩, .int .i64 0, .int .i64 0, .slice none 0 0, .int .i64 0, .int .i64 0, .string ⟨#[]⟩, .int .u64 0, .int .u64 0, .int .u64 0, .int .u64 0]
  obtain ⟨W1, hW1⟩ : ∃ W1, W1 = w.alloc (.cells #[.int .i64 0, .string ⟨#[]⟩, .int .i64 0, .int .i64 0, .slice none 0 0, .int .i64 0, .int .i64 0, .string ⟨#[]⟩, .int .u64 0, .int .u64 0, .int .u64 0, .int .u64 0] 27) := ⟨_, rfl⟩
  rw [← hW1] at k1
  have hb1 : Below w.heap.size w W1 := by rw [hW1]; exact (Below.refl _ w).alloc (Nat.le_refl _) _
  have hz1 : w.heap.size < W1.heap.size := k1.lt
  have HW1 := Lib.hid hW1
  have HB1 := Lib.hid hb1
  have K1 := Lib.hid k1
  obtain ⟨a0, a1, a2, a3, a4, a5, a6, a7, a8, a9, a10, a11⟩ := blk12 k1
  obtain ⟨g0, g1, g2, g3, g4, g5, g6, g7, g8, g9, g10, g11⟩ := frozen12 k1
  clear hW1 hb1 k1
  cases b with
  | nil =>
    obtain rfl : n = 0 := hnb
    have HF := Lib.hid (hP.trans parse_nil)
    clear hP hr
    go_enter Try.func16, Try.ntmps16
    go_wp2_with fail
    rw [← HW1.out]
    go_wp2_with fail
    refine bodyPost_ret (v := .tuple #[.agg #[.int .i64 0, .string ⟨#[]⟩, .int .i64 0, .int .i64 0, .slice none 0 0, .int .i64 0, .int .i64 0, .string ⟨#[]⟩, .int .u64 0, .int .u64 0, .int .u64 0, .int .u64 0], .int .i64 0, .int .i64 8]) (by simp [results, Try.results16, go_sem, a0, a1, a2, a3, a4, a5, a6, a7, a8, a9, a10, a11]) rfl ⟨.slice none 0 0, by rw [HF.out]; rfl, by rw [HF.out]; exact World.ownsRow_nil _ _ _ _, ?_⟩
    repeat (with_reducible refine Below.setCell ?_ (by dsimp only; omega) _)
    with_reducible exact HB1.out
  | cons x r =>
    have hn1 : 1 ≤ n := by rw [hnb]; simp
    obtain ⟨ad, rfl, hadB, hcell⟩ := hr.2 hn1
    have e0 : w.cell? ad = some (.int .u8 (x.toNat : Int)) := by have := hcell 0 _ rfl; rwa [add_zero] at this
    have e1 : W1.cell? ad = some (.int .u8 (x.toNat : Int)) := by rw [HW1.out]; exact (World.cell?_alloc_lt _ _ _ (by omega)).trans e0
    have hx := x.toNat_lt
    have hadw : ad.block < w.heap.size := by omega
    have hr1 := hr.below (HB1.out.mono hB)
    have HNB := Lib.hid hnb
    have hne : ((n : Int) == 0) = false := by simp; omega
    obtain ⟨K, hK⟩ : ∃ K, K = (x.toNat : Int) := ⟨_, rfl⟩
    rw [← hK] at e0 e1
    by_cases hk : x.toNat < 1 ∨ 4 < x.toNat
    · have HF := Lib.hid (hP.trans (parse_kind x r hk))
      have hkk : K < 1 ∨ 4 < K := by omega
      clear hP hnb hK hk hr hcell hr1
      rcases hkk with hk | hk
      all_goals
        go_enter Try.func16, Try.ntmps16
        go_wp2_with fail
        rw [← HW1.out]
        go_wp2_with fail
        refine bodyPost_ret (v := .tuple #[.agg #[.int .i64 0, .string ⟨#[]⟩, .int .i64 0, .int .i64 0, .slice none 0 0, .int .i64 0, .int .i64 0, .string ⟨#[]⟩, .int .u64 0, .int .u64 0, .int .u64 0, .int .u64 0], .int .i64 0, .int .i64 23]) (by simp [results, Try.results16, go_sem, a0, a1, a2, a3, a4, a5, a6, a7, a8, a9, a10, a11]) rfl ⟨.slice none 0 0, by rw [HF.out]; rfl, by rw [HF.out]; exact World.ownsRow_nil _ _ _ _, ?_⟩
        repeat (with_reducible refine Below.setCell ?_ (by dsimp only; omega) _)
        with_reducible exact HB1.out
    · have hk1 : 1 ≤ K := by omega
      have hk4 : K ≤ 4 := by omega
      by_cases h3 : n < 3
      · have HF := Lib.hid (hP.trans (parse_short x r hk (by rw [← hnb]; exact h3)))
        clear hP hnb hK hk hr hcell hr1
        go_enter Try.func16, Try.ntmps16
        go_wp2_with fail
        rw [← HW1.out]
        go_wp2_with fail
        refine bodyPost_ret (v := .tuple #[.agg #[.int .i64 0, .string ⟨#[]⟩, .int .i64 0, .int .i64 0, .slice none 0 0, .int .i64 0, .int .i64 0, .string ⟨#[]⟩, .int .u64 0, .int .u64 0, .int .u64 0, .int .u64 0], .int .i64 0, .int .i64 8]) (by simp [results, Try.results16, go_sem, a0, a1, a2, a3, a4, a5, a6, a7, a8, a9, a10, a11]) rfl ⟨.slice none 0 0, by rw [HF.out]; rfl, by rw [HF.out]; exact World.ownsRow_nil _ _ _ _, ?_⟩
        repeat (with_reducible refine Below.setCell ?_ (by dsimp only; omega) _)
        with_reducible exact HB1.out
      · obtain ⟨b, hb⟩ : ∃ b, b = x :: r := ⟨_, rfl⟩
        rw [← hb] at hr hr1 hP hnb HNB
        have h3' : ¬ b.length < 3 := by rw [← hnb]; exact h3
        obtain ⟨S, hS⟩ : ∃ S, S = sizeAt b := ⟨_, rfl⟩
        have hS6 : S < 65536 := by rw [hS]; exact sizeAt_lt b
        have h2l : ((b.drop 1).take 2).length = 2 := by rw [List.length_take, List.length_drop, ← hnb]; omega
        have hd1 := hr1.cut (k := 1) (cap := c) (by omega) hc
        rw [if_neg (by omega)] at hd1
        simp only [Nat.mul_one, ← bts_drop] at hd1
        have hd1 : Reads W1 B 1 (some ⟨ad.block, ad.off + 1, none⟩) (n - 1) (bts (b.drop 1)) := hd1
        have hnum := number_any ((b.drop 1).take 2) 2 h2l.symm (some ⟨ad.block, ad.off + 1, none⟩) (c - 1) W1 _ (bpre2 hd1 (by rw [List.length_drop, hnb]) (by omega)) (by omega)
        have hVE := numVE_small ((b.drop 1).take 2) (by omega) (by omega)
        rw [hVE.1, hVE.2, show numN ((b.drop 1).take 2) = S from hS.symm] at hnum
        have HNUM := Lib.hid hnum
        have hn3i : ¬ (n : Int) < 3 := by omega
        have hc3i : (3 : Int) ≤ (c : Int) := by omega
        clear hVE hnum h2l hd1 hcell
        by_cases h4 : n < 3 + S
        · have HF : Hid (P = (Rc0, 0, 8)) := by show _ = _; rw [hP, hb]; exact parse_short2 x r hk (by rw [← hb]; exact h3') (by rw [← hb, ← hS, ← hnb]; exact h4)
          have h4i : (n : Int) < 3 + (S : Int) := by omega
          clear hP hnb hK hk hr hr1 hb hS h3'
          go_enter Try.func16, Try.ntmps16
          go_wp2_with fail
          rw [← HW1.out]
          refine HNUM.out.mono ?_
          rintro e w2 ⟨rfl, hw⟩
          rw [← hw]
          clear hw w2 HNUM
          go_wp2_with fail
          refine bodyPost_ret (v := .tuple #[.agg #[.int .i64 0, .string ⟨#[]⟩, .int .i64 0, .int .i64 0, .slice none 0 0, .int .i64 0, .int .i64 0, .string ⟨#[]⟩, .int .u64 0, .int .u64 0, .int .u64 0, .int .u64 0], .int .i64 0, .int .i64 8]) (by simp [results, Try.results16, go_sem, a0, a1, a2, a3, a4, a5, a6, a7, a8, a9, a10, a11]) rfl ⟨.slice none 0 0, by rw [HF.out]; rfl, by rw [HF.out]; exact World.ownsRow_nil _ _ _ _, ?_⟩
          repeat (with_reducible refine Below.setCell ?_ (by dsimp only; omega) _)
          with_reducible exact HB1.out
        · obtain ⟨F, hF⟩ : ∃ F, F = fread ((b.drop 3).take S) := ⟨_, rfl⟩
          have hpl := parse_long x r hk (by rw [← hb]; exact h3') (by rw [← hb, ← hS, ← hnb]; exact h4) F (by rw [← hb, ← hS]; exact hF)
          rw [← hb, ← hS, ← hK, ← hP] at hpl
          have HP := Lib.hid hpl
          clear hpl
          have hls := listR_small ((b.drop 3).take S)
          have hpo := fun w' e => @readPost_of W1 w' ((b.drop 3).take S) e
          rw [← hF] at hls hpo
          obtain ⟨l, hl⟩ : ∃ l, l = listR F := ⟨_, rfl⟩
          obtain ⟨E, hE⟩ : ∃ E, E = errR F := ⟨_, rfl⟩
          rw [← hl] at hls hpo HP
          rw [← hE] at HP hpo
          have HPO := Lib.hid hpo
          have HLS := Lib.hid hls
          have h4i : ¬ (n : Int) < 3 + (S : Int) := by omega
          have h4j : (3 : Int) + (S : Int) ≤ (c : Int) := by omega
          have hKK : K = 1 ∨ K = 2 ∨ K = 3 ∨ K = 4 := by omega
          have HKK := Lib.hid hKK
          have hfr : c ≠ 3 → Calls Try.prog 60 #[.slice (some ⟨ad.block, ad.off + 3, none⟩) S (c - 3)] W1 (ReadPost W1 F) := by
            intro hc3
            have hd0 := hr1.cut (k := 3) (cap := c) (by omega) hc
            rw [if_neg hc3] at hd0
            simp only [Nat.mul_one, ← bts_drop] at hd0
            have hd0 : Reads W1 B 1 (some ⟨ad.block, ad.off + 3, none⟩) (n - 3) (bts (b.drop 3)) := hd0
            rw [hF]
            exact fread_any ((b.drop 3).take S) S (by rw [List.length_take, List.length_drop, ← hnb]; omega) _ (c - 3) W1 B (bpre2 hd0 (by rw [List.length_drop, hnb]) (by omega)) (by omega) (by omega) (by omega) (by omega)
          have hfr3 : c = 3 → Calls Try.prog 60 #[.slice (some ad) 0 0] W1 (ReadPost W1 F) := by
            intro hc3
            have : (b.drop 3).take S = [] := by rw [List.drop_eq_nil_of_le (by omega)]; simp
            rw [hF, this]
            exact fread_any [] 0 rfl (some ad) 0 W1 0 ⟨rfl, fun h => by cases h⟩ (Nat.zero_le _) (Nat.le_refl _) (by decide) (by omega)
          have HFR := Lib.hid hfr
          have HFR3 := Lib.hid hfr3
          clear hP hnb hK hk hr hr1 hb hS h3' hF hls hpo hl hE hKK hfr hfr3 hadB
          by_cases hc3 : c = 3
          · subst hc3
            obtain rfl : n = 3 := by omega
            obtain rfl : S = 0 := by omega
            have HFR := Lib.hid (HFR3.out rfl)
            clear HFR3 h4i h4j hn3i hc3i
            go_enter Try.func16, Try.ntmps16
            go_wp2_with fail
            rw [← HW1.out]
            refine HNUM.out.mono ?_
            rintro e w2 ⟨rfl, hw⟩
            rw [← hw]
            clear hw w2 HNUM
            go_wp2_with fail
            refine HFR.out.mono ?_
            clear HFR
            intro e w2 hp
            obtain ⟨A2, c2, rfl, hr2, hc2, hcm2, hb2⟩ := HPO.out _ _ hp
            have hrd := rread_any K HKK.out l (fun s hs => by have := HLS.out.2 s hs; omega) l.length rfl A2 c2 w2 w2.heap.size hr2 (Nat.le_refl _) hc2 hcm2 (by have := HLS.out.1; omega)
            obtain ⟨m, hm⟩ : ∃ m, m = l.length := ⟨_, rfl⟩
            rw [← hm] at hrd
            rw [← hm]
            have HRD := Lib.hid hrd
            have K1 := Lib.hid (K1.out.below hb2 hz1)
            have HB2 := Lib.hid (HB1.out.trans (hb2.mono HB1.out.size))
            clear hp hr2 hb2 hrd hm HPO HB1 HW1 a0 a1 a2 a3 a4 a5 a6 a7 a8 a9 a10 a11 g0 g1 g2 g3 g4 g5 g6 g7 g8 g9 g10 g11
            have e1 : w2.cell? ad = some (.int .u8 K) := (HB2.out.cell hadw).trans e0
            have hz2 : w.heap.size < w2.heap.size := K1.out.lt
            go_wp2_with fail
            refine HRD.out.mono ?_
            clear HRD
            rintro e w3 ⟨v, ⟨rk, rn, rf, rg, ro, ri, rc, rd, ⟨ra, rb, rx, ry⟩⟩, R, he, hmade, hown, hol, hov, hb3⟩
            obtain ⟨A3, c3, rfl, hq3, hqm3, hr3⟩ := own_form hown
            obtain rfl : e = .returned (.tuple #[.agg #[.int .i64 rk, .string ⟨rn.toArray⟩, .int .i64 rf, .int .i64 rg, .slice A3 ro.length c3, .int .i64 ri, .int .i64 rc, .string ⟨rd.toArray⟩, .int .u64 ra, .int .u64 rb, .int .u64 rx, .int .u64 ry], .bool R]) := he
            have hz3 : w.heap.size < w3.heap.size := by have := hb3.size; omega
            obtain ⟨W4, hW4⟩ : ∃ W4, W4 = w3.alloc (.cells #[.int .i64 rk, .string ⟨rn.toArray⟩, .int .i64 rf, .int .i64 rg, .slice A3 ro.length c3, .int .i64 ri, .int .i64 rc, .string ⟨rd.toArray⟩, .int .u64 ra, .int .u64 rb, .int .u64 rx, .int .u64 ry] 27) := ⟨_, rfl⟩
            have k9 : Blk W4 w3.heap.size 27 #[.int .i64 rk, .string ⟨rn.toArray⟩, .int .i64 rf, .int .i64 rg, .slice A3 ro.length c3, .int .i64 ri, .int .i64 rc, .string ⟨rd.toArray⟩, .int .u64 ra, .int .u64 rb, .int .u64 rx, .int .u64 ry] := by rw [hW4]; exact Blk.new _ _ _
            have k1 : Blk W4 w.heap.size 27 #[.int .i64 0, .string ⟨#[]⟩, .int .i64 0, .int .i64 0, .slice none 0 0, .int .i64 0, .int .i64 0, .string ⟨#[]⟩, .int .u64 0, .int .u64 0, .int .u64 0, .int .u64 0] := by rw [hW4]; exact (K1.out.below hb3 hz2).alloc _
            have HB4 : Hid (Below w.heap.size w W4) := by show Below _ _ _; rw [hW4]; exact (HB2.out.trans (hb3.mono HB2.out.size)).alloc (by omega) _
            have ho4 : W4.ownsRow w2.heap.size 99 2 (.slice A3 ro.length c3) ro.length (pcells ro) := by rw [hW4]; exact hown.alloc _
            have hr4 : Reads W4 W4.heap.size 2 A3 ro.length (pcells ro) := (own_reads ho4).2.2
            have hch := rcheck_any ⟨rk, rn, rf, rg, ro, ri, rc, rd, ⟨ra, rb, rx, ry⟩⟩ ro.length rfl A3 c3 W4 W4.heap.size (Nat.le_refl _) hr4 (by simp only at hol; omega) hov
            obtain ⟨X, hX⟩ : ∃ X, X = recE ⟨rk, rn, rf, rg, ro, ri, rc, rd, ⟨ra, rb, rx, ry⟩⟩ := ⟨_, rfl⟩
            rw [← hX] at hch
            obtain ⟨m3, hm3⟩ : ∃ m, m = ro.length := ⟨_, rfl⟩
            rw [← hm3] at hch ho4 k9 hW4
            rw [← hm3]
            have HCH := Lib.hid hch
            have HO4 := Lib.hid ho4
            have HM3 := Lib.hid hm3
            have HX := Lib.hid hX
            have HMADE := Lib.hid hmade
            have HW4 := Lib.hid hW4
            have K1 := Lib.hid k1
            have K9 := Lib.hid k9
            obtain ⟨a0, a1, a2, a3, a4, a5, a6, a7, a8, a9, a10, a11⟩ := blk12 k1
            obtain ⟨g0, g1, g2, g3, g4, g5, g6, g7, g8, g9, g10, g11⟩ := frozen12 k1
            obtain ⟨p0, p1, p2, p3, p4, p5, p6, p7, p8, p9, p10, p11⟩ := blk12 k9
            obtain ⟨q0, q1, q2, q3, q4, q5, q6, q7, q8, q9, q10, q11⟩ := frozen12 k9
            clear k1 k9 hW4 hX hm3 hch ho4 hr4 hown hr3 hmade HB2 hb3 e0 e1 hol hov
            go_upto_region 12 with (fail)
            rw [← HW4.out]
            by_cases hE0 : E = 0
            · have HP1 : Hid (P = if R = true then (if X = 0 then (⟨rk, rn, rf, rg, ro, ri, rc, rd, ⟨ra, rb, rx, ry⟩⟩, 3 + 0, 0) else (Rc0, 0, 9)) else (Rc0, 0, 33)) := by show _ = _; rw [HP.out, if_pos hE0, HMADE.out, HX.out]; cases R <;> rfl
              clear HP
              subst hE0
              cases R with
              | false =>
                have HF : Hid (P = (Rc0, 0, 33)) := HP1.out.trans (if_neg (by decide))
                go_wp2_with fail
                refine bodyPost_ret (v := .tuple #[.agg #[.int .i64 0, .string ⟨#[]⟩, .int .i64 0, .int .i64 0, .slice none 0 0, .int .i64 0, .int .i64 0, .string ⟨#[]⟩, .int .u64 0, .int .u64 0, .int .u64 0, .int .u64 0], .int .i64 0, .int .i64 33]) (by simp [results, Try.results16, go_sem, a0, a1, a2, a3, a4, a5, a6, a7, a8, a9, a10, a11]) rfl ⟨.slice none 0 0, by rw [HF.out]; rfl, by rw [HF.out]; exact World.ownsRow_nil _ _ _ _, ?_⟩
                repeat (with_reducible refine Below.setCell ?_ (by dsimp only; omega) _)
                with_reducible exact HB4.out
              | true =>
                have HP2 : Hid (P = if X = 0 then (⟨rk, rn, rf, rg, ro, ri, rc, rd, ⟨ra, rb, rx, ry⟩⟩, 3 + 0, 0) else (Rc0, 0, 9)) := HP1.out.trans (if_pos rfl)
                clear HP1
                go_wp2_with fail
                refine HCH.out.mono ?_
                clear HCH a0 a1 a2 a3 a4 a5 a6 a7 a8 a9 a10 a11 g0 g1 g2 g3 g4 g5 g6 g7 g8 g9 g10 g11 p0 p1 p2 p3 p4 p5 p6 p7 p8 p9 p10 p11 q0 q1 q2 q3 q4 q5 q6 q7 q8 q9 q10 q11
                rintro e w5 ⟨rfl, hb5⟩
                have HB5 := Lib.hid (HB4.out.trans (hb5.mono HB4.out.size))
                have HO5 := Lib.hid (own_below HO4.out hb5)
                have k1 := K1.out.below hb5 K1.out.lt
                have k9 := K9.out.below hb5 K9.out.lt
                obtain ⟨a0, a1, a2, a3, a4, a5, a6, a7, a8, a9, a10, a11⟩ := blk12 k1
                obtain ⟨g0, g1, g2, g3, g4, g5, g6, g7, g8, g9, g10, g11⟩ := frozen12 k1
                obtain ⟨p0, p1, p2, p3, p4, p5, p6, p7, p8, p9, p10, p11⟩ := blk12 k9
                obtain ⟨q0, q1, q2, q3, q4, q5, q6, q7, q8, q9, q10, q11⟩ := frozen12 k9
                clear hb5 k1 k9 HB4 HO4 K1 K9 HW4
                by_cases hX0 : X = 0
                · have HF : Hid (P = (⟨rk, rn, rf, rg, ro, ri, rc, rd, ⟨ra, rb, rx, ry⟩⟩, 3 + 0, 0)) := HP2.out.trans (if_pos hX0)
                  clear HX HP2
                  subst hX0
                  go_wp2_with fail
                  refine bodyPost_ret (v := .tuple #[.agg #[.int .i64 rk, .string ⟨rn.toArray⟩, .int .i64 rf, .int .i64 rg, .slice A3 m3 c3, .int .i64 ri, .int .i64 rc, .string ⟨rd.toArray⟩, .int .u64 ra, .int .u64 rb, .int .u64 rx, .int .u64 ry], .int .i64 (3 + (0 : Int)), .int .i64 0]) (by simp [results, Try.results16, go_sem, a0, a1, a2, a3, a4, a5, a6, a7, a8, a9, a10, a11]) rfl ⟨.slice A3 m3 c3, by rw [HF.out]; first | rfl | (simp only [rcV, rcCells, Int.natCast_add]; rfl), ?_, ?_⟩
                  · rw [HF.out]
                    show World.ownsRow _ _ _ _ _ ro.length _
                    rw [← HM3.out]
                    refine own_mono (base := w2.heap.size) ?_ (by omega)
                    repeat (with_reducible refine own_setCell_below ?_ (by dsimp only; omega) _)
                    with_reducible exact HO5.out
                  · repeat (with_reducible refine Below.setCell ?_ (by dsimp only; omega) _)
                    with_reducible exact HB5.out
                · have HF : Hid (P = (Rc0, 0, 9)) := HP2.out.trans (if_neg hX0)
                  have hXb : (X == 0) = false := by simp [hX0]
                  have hXc : (X != 0) = true := by simp [hX0]
                  go_wp2_with fail
                  refine bodyPost_ret (v := .tuple #[.agg #[.int .i64 0, .string ⟨#[]⟩, .int .i64 0, .int .i64 0, .slice none 0 0, .int .i64 0, .int .i64 0, .string ⟨#[]⟩, .int .u64 0, .int .u64 0, .int .u64 0, .int .u64 0], .int .i64 0, .int .i64 9]) (by simp [results, Try.results16, go_sem, a0, a1, a2, a3, a4, a5, a6, a7, a8, a9, a10, a11]) rfl ⟨.slice none 0 0, by rw [HF.out]; rfl, by rw [HF.out]; exact World.ownsRow_nil _ _ _ _, ?_⟩
                  repeat (with_reducible refine Below.setCell ?_ (by dsimp only; omega) _)
                  with_reducible exact HB5.out
            · have HF : Hid (P = (Rc0, 0, 33)) := by show _ = _; rw [HP.out, if_neg hE0]
              have hEb : (E == 0) = false := by simp [hE0]
              have hEc : (E != 0) = true := by simp [hE0]
              go_wp2_with fail
              refine bodyPost_ret (v := .tuple #[.agg #[.int .i64 0, .string ⟨#[]⟩, .int .i64 0, .int .i64 0, .slice none 0 0, .int .i64 0, .int .i64 0, .string ⟨#[]⟩, .int .u64 0, .int .u64 0, .int .u64 0, .int .u64 0], .int .i64 0, .int .i64 33]) (by simp [results, Try.results16, go_sem, a0, a1, a2, a3, a4, a5, a6, a7, a8, a9, a10, a11]) rfl ⟨.slice none 0 0, by rw [HF.out]; rfl, by rw [HF.out]; exact World.ownsRow_nil _ _ _ _, ?_⟩
              repeat (with_reducible refine Below.setCell ?_ (by dsimp only; omega) _)
              with_reducible exact HB4.out
          · have HFR := Lib.hid (HFR.out hc3)
            clear HFR3
            go_enter Try.func16, Try.ntmps16
            go_wp2_with fail
            rw [← HW1.out]
            refine HNUM.out.mono ?_
            rintro e w2 ⟨rfl, hw⟩
            rw [← hw]
            clear hw w2 HNUM
            go_wp2_with fail
            refine HFR.out.mono ?_
            clear HFR
            intro e w2 hp
            obtain ⟨A2, c2, rfl, hr2, hc2, hcm2, hb2⟩ := HPO.out _ _ hp
            have hrd := rread_any K HKK.out l (fun s hs => by have := HLS.out.2 s hs; omega) l.length rfl A2 c2 w2 w2.heap.size hr2 (Nat.le_refl _) hc2 hcm2 (by have := HLS.out.1; omega)
            obtain ⟨m, hm⟩ : ∃ m, m = l.length := ⟨_, rfl⟩
            rw [← hm] at hrd
            rw [← hm]
            have HRD := Lib.hid hrd
            have K1 := Lib.hid (K1.out.below hb2 hz1)
            have HB2 := Lib.hid (HB1.out.trans (hb2.mono HB1.out.size))
            clear hp hr2 hb2 hrd hm HPO HB1 HW1 a0 a1 a2 a3 a4 a5 a6 a7 a8 a9 a10 a11 g0 g1 g2 g3 g4 g5 g6 g7 g8 g9 g10 g11
            have e1 : w2.cell? ad = some (.int .u8 K) := (HB2.out.cell hadw).trans e0
            have hz2 : w.heap.size < w2.heap.size := K1.out.lt
            go_wp2_with fail
            refine HRD.out.mono ?_
            clear HRD
            rintro e w3 ⟨v, ⟨rk, rn, rf, rg, ro, ri, rc, rd, ⟨ra, rb, rx, ry⟩⟩, R, he, hmade, hown, hol, hov, hb3⟩
            obtain ⟨A3, c3, rfl, hq3, hqm3, hr3⟩ := own_form hown
            obtain rfl : e = .returned (.tuple #[.agg #[.int .i64 rk, .string ⟨rn.toArray⟩, .int .i64 rf, .int .i64 rg, .slice A3 ro.length c3, .int .i64 ri, .int .i64 rc, .string ⟨rd.toArray⟩, .int .u64 ra, .int .u64 rb, .int .u64 rx, .int .u64 ry], .bool R]) := he
            have hz3 : w.heap.size < w3.heap.size := by have := hb3.size; omega
            obtain ⟨W4, hW4⟩ : ∃ W4, W4 = w3.alloc (.cells #[.int .i64 rk, .string ⟨rn.toArray⟩, .int .i64 rf, .int .i64 rg, .slice A3 ro.length c3, .int .i64 ri, .int .i64 rc, .string ⟨rd.toArray⟩, .int .u64 ra, .int .u64 rb, .int .u64 rx, .int .u64 ry] 27) := ⟨_, rfl⟩
            have k9 : Blk W4 w3.heap.size 27 #[.int .i64 rk, .string ⟨rn.toArray⟩, .int .i64 rf, .int .i64 rg, .slice A3 ro.length c3, .int .i64 ri, .int .i64 rc, .string ⟨rd.toArray⟩, .int .u64 ra, .int .u64 rb, .int .u64 rx, .int .u64 ry] := by rw [hW4]; exact Blk.new _ _ _
            have k1 : Blk W4 w.heap.size 27 #[.int .i64 0, .string ⟨#[]⟩, .int .i64 0, .int .i64 0, .slice none 0 0, .int .i64 0, .int .i64 0, .string ⟨#[]⟩, .int .u64 0, .int .u64 0, .int .u64 0, .int .u64 0] := by rw [hW4]; exact (K1.out.below hb3 hz2).alloc _
            have HB4 : Hid (Below w.heap.size w W4) := by show Below _ _ _; rw [hW4]; exact (HB2.out.trans (hb3.mono HB2.out.size)).alloc (by omega) _
            have ho4 : W4.ownsRow w2.heap.size 99 2 (.slice A3 ro.length c3) ro.length (pcells ro) := by rw [hW4]; exact hown.alloc _
            have hr4 : Reads W4 W4.heap.size 2 A3 ro.length (pcells ro) := (own_reads ho4).2.2
            have hch := rcheck_any ⟨rk, rn, rf, rg, ro, ri, rc, rd, ⟨ra, rb, rx, ry⟩⟩ ro.length rfl A3 c3 W4 W4.heap.size (Nat.le_refl _) hr4 (by simp only at hol; omega) hov
            obtain ⟨X, hX⟩ : ∃ X, X = recE ⟨rk, rn, rf, rg, ro, ri, rc, rd, ⟨ra, rb, rx, ry⟩⟩ := ⟨_, rfl⟩
            rw [← hX] at hch
            obtain ⟨m3, hm3⟩ : ∃ m, m = ro.length := ⟨_, rfl⟩
            rw [← hm3] at hch ho4 k9 hW4
            rw [← hm3]
            have HCH := Lib.hid hch
            have HO4 := Lib.hid ho4
            have HM3 := Lib.hid hm3
            have HX := Lib.hid hX
            have HMADE := Lib.hid hmade
            have HW4 := Lib.hid hW4
            have K1 := Lib.hid k1
            have K9 := Lib.hid k9
            obtain ⟨a0, a1, a2, a3, a4, a5, a6, a7, a8, a9, a10, a11⟩ := blk12 k1
            obtain ⟨g0, g1, g2, g3, g4, g5, g6, g7, g8, g9, g10, g11⟩ := frozen12 k1
            obtain ⟨p0, p1, p2, p3, p4, p5, p6, p7, p8, p9, p10, p11⟩ := blk12 k9
            obtain ⟨q0, q1, q2, q3, q4, q5, q6, q7, q8, q9, q10, q11⟩ := frozen12 k9
            clear k1 k9 hW4 hX hm3 hch ho4 hr4 hown hr3 hmade HB2 hb3 e0 e1 hol hov
            go_upto_region 12 with (fail)
            rw [← HW4.out]
            by_cases hE0 : E = 0
            · have HP1 : Hid (P = if R = true then (if X = 0 then (⟨rk, rn, rf, rg, ro, ri, rc, rd, ⟨ra, rb, rx, ry⟩⟩, 3 + S, 0) else (Rc0, 0, 9)) else (Rc0, 0, 33)) := by show _ = _; rw [HP.out, if_pos hE0, HMADE.out, HX.out]; cases R <;> rfl
              clear HP
              subst hE0
              cases R with
              | false =>
                have HF : Hid (P = (Rc0, 0, 33)) := HP1.out.trans (if_neg (by decide))
                go_wp2_with fail
                refine bodyPost_ret (v := .tuple #[.agg #[.int .i64 0, .string ⟨#[]⟩, .int .i64 0, .int .i64 0, .slice none 0 0, .int .i64 0, .int .i64 0, .string ⟨#[]⟩, .int .u64 0, .int .u64 0, .int .u64 0, .int .u64 0], .int .i64 0, .int .i64 33]) (by simp [results, Try.results16, go_sem, a0, a1, a2, a3, a4, a5, a6, a7, a8, a9, a10, a11]) rfl ⟨.slice none 0 0, by rw [HF.out]; rfl, by rw [HF.out]; exact World.ownsRow_nil _ _ _ _, ?_⟩
                repeat (with_reducible refine Below.setCell ?_ (by dsimp only; omega) _)
                with_reducible exact HB4.out
              | true =>
                have HP2 : Hid (P = if X = 0 then (⟨rk, rn, rf, rg, ro, ri, rc, rd, ⟨ra, rb, rx, ry⟩⟩, 3 + S, 0) else (Rc0, 0, 9)) := HP1.out.trans (if_pos rfl)
                clear HP1
                go_wp2_with fail
                refine HCH.out.mono ?_
                clear HCH a0 a1 a2 a3 a4 a5 a6 a7 a8 a9 a10 a11 g0 g1 g2 g3 g4 g5 g6 g7 g8 g9 g10 g11 p0 p1 p2 p3 p4 p5 p6 p7 p8 p9 p10 p11 q0 q1 q2 q3 q4 q5 q6 q7 q8 q9 q10 q11
                rintro e w5 ⟨rfl, hb5⟩
                have HB5 := Lib.hid (HB4.out.trans (hb5.mono HB4.out.size))
                have HO5 := Lib.hid (own_below HO4.out hb5)
                have k1 := K1.out.below hb5 K1.out.lt
                have k9 := K9.out.below hb5 K9.out.lt
                obtain ⟨a0, a1, a2, a3, a4, a5, a6, a7, a8, a9, a10, a11⟩ := blk12 k1
                obtain ⟨g0, g1, g2, g3, g4, g5, g6, g7, g8, g9, g10, g11⟩ := frozen12 k1
                obtain ⟨p0, p1, p2, p3, p4, p5, p6, p7, p8, p9, p10, p11⟩ := blk12 k9
                obtain ⟨q0, q1, q2, q3, q4, q5, q6, q7, q8, q9, q10, q11⟩ := frozen12 k9
                clear hb5 k1 k9 HB4 HO4 K1 K9 HW4
                by_cases hX0 : X = 0
                · have HF : Hid (P = (⟨rk, rn, rf, rg, ro, ri, rc, rd, ⟨ra, rb, rx, ry⟩⟩, 3 + S, 0)) := HP2.out.trans (if_pos hX0)
                  clear HX HP2
                  subst hX0
                  go_wp2_with fail
                  refine bodyPost_ret (v := .tuple #[.agg #[.int .i64 rk, .string ⟨rn.toArray⟩, .int .i64 rf, .int .i64 rg, .slice A3 m3 c3, .int .i64 ri, .int .i64 rc, .string ⟨rd.toArray⟩, .int .u64 ra, .int .u64 rb, .int .u64 rx, .int .u64 ry], .int .i64 (3 + (S : Int)), .int .i64 0]) (by simp [results, Try.results16, go_sem, a0, a1, a2, a3, a4, a5, a6, a7, a8, a9, a10, a11]) rfl ⟨.slice A3 m3 c3, by rw [HF.out]; first | rfl | (simp only [rcV, rcCells, Int.natCast_add]; rfl), ?_, ?_⟩
                  · rw [HF.out]
                    show World.ownsRow _ _ _ _ _ ro.length _
                    rw [← HM3.out]
                    refine own_mono (base := w2.heap.size) ?_ (by omega)
                    repeat (with_reducible refine own_setCell_below ?_ (by dsimp only; omega) _)
                    with_reducible exact HO5.out
                  · repeat (with_reducible refine Below.setCell ?_ (by dsimp only; omega) _)
                    with_reducible exact HB5.out
                · have HF : Hid (P = (Rc0, 0, 9)) := HP2.out.trans (if_neg hX0)
                  have hXb : (X == 0) = false := by simp [hX0]
                  have hXc : (X != 0) = true := by simp [hX0]
                  go_wp2_with fail
                  refine bodyPost_ret (v := .tuple #[.agg #[.int .i64 0, .string ⟨#[]⟩, .int .i64 0, .int .i64 0, .slice none 0 0, .int .i64 0, .int .i64 0, .string ⟨#[]⟩, .int .u64 0, .int .u64 0, .int .u64 0, .int .u64 0], .int .i64 0, .int .i64 9]) (by simp [results, Try.results16, go_sem, a0, a1, a2, a3, a4, a5, a6, a7, a8, a9, a10, a11]) rfl ⟨.slice none 0 0, by rw [HF.out]; rfl, by rw [HF.out]; exact World.ownsRow_nil _ _ _ _, ?_⟩
                  repeat (with_reducible refine Below.setCell ?_ (by dsimp only; omega) _)
                  with_reducible exact HB5.out
            · have HF : Hid (P = (Rc0, 0, 33)) := by show _ = _; rw [HP.out, if_neg hE0]
              have hEb : (E == 0) = false := by simp [hE0]
              have hEc : (E != 0) = true := by simp [hE0]
              go_wp2_with fail
              refine bodyPost_ret (v := .tuple #[.agg #[.int .i64 0, .string ⟨#[]⟩, .int .i64 0, .int .i64 0, .slice none 0 0, .int .i64 0, .int .i64 0, .string ⟨#[]⟩, .int .u64 0, .int .u64 0, .int .u64 0, .int .u64 0], .int .i64 0, .int .i64 33]) (by simp [results, Try.results16, go_sem, a0, a1, a2, a3, a4, a5, a6, a7, a8, a9, a10, a11]) rfl ⟨.slice none 0 0, by rw [HF.out]; rfl, by rw [HF.out]; exact World.ownsRow_nil _ _ _ _, ?_⟩
              repeat (with_reducible refine Below.setCell ?_ (by dsimp only; omega) _)
              with_reducible exact HB4.out
end Go.Proofs.Ythfjfkjlgdnohaa

/-
  A region that draws its order, with calls that make rows (of one-cell elements, of any type) and appends that may write in them.
-/
namespace Go.Proofs.Ythfjfkjlgdnohaa
open Go.RowKit

def LiveK (user : Nat → Option Nat) (m : Nat → Option Value) (j : Nat) : Prop := ∀ u, user j = some u → m u = none
structure RowsK (w : World) (val : Nat → Option Value) (row : Nat → Option (TypeId × Nat × List Value)) (user : Nat → Option Nat) (m : Nat → Option Value) (W : World) : Prop where
  bel : Below w.heap.size w W
  det : Det val m
  own : ∀ i v r, m i = some v → row i = some r → LiveK user m i → W.ownsRow w.heap.size r.1 1 v r.2.1 r.2.2
  sep : ∀ i j vi vj ri rj, i ≠ j → m i = some vi → m j = some vj → row i = some ri → row j = some rj → LiveK user m i → LiveK user m j → ∀ k, vi.ownBlock = some k → vj.ownBlock ≠ some k
section
variable {w W W' : World} {val : Nat → Option Value} {row : Nat → Option (TypeId × Nat × List Value)} {user : Nat → Option Nat} {m : Nat → Option Value}
theorem LiveK.of_upd {i j : Nat} {v : Value} (h : LiveK user (upd m i v) j) : LiveK user m j ∧ user j ≠ some i := by
  refine ⟨fun u hu => ?_, fun hu => ?_⟩
  · have := h u hu
    by_cases he : u = i
    · subst he; rw [upd_self] at this; cases this
    · rwa [upd_ne m v he] at this
  · have := h i hu
    rw [upd_self] at this
    cases this
theorem RowsK.start : RowsK w val row user (fun _ => none) w.drew := ⟨(Below.refl _ _).drew, Det.start _, fun _ _ _ h => (by cases h), fun _ _ _ _ _ _ _ h => (by cases h)⟩
theorem RowsK.pure (h : RowsK w val row user m W) (hb : Below W.heap.size W W') {i : Nat} {v : Value} (hi : row i = none) (hv : ∀ x, val i = some x → v = x) : RowsK w val row user (upd m i v) W' := by
  refine ⟨below_step h.bel hb, h.det.up hv, ?_, ?_⟩
  · intro j u r hm hr hl
    have hj : j ≠ i := by rintro rfl; rw [hi] at hr; cases hr
    rw [upd_ne m v hj] at hm
    exact own_below (h.own j u r hm hr hl.of_upd.1) hb
  · intro j k vj vk rj rk hne hmj hmk hrj hrk hlj hlk
    have h1 : j ≠ i := by rintro rfl; rw [hi] at hrj; cases hrj
    have h2 : k ≠ i := by rintro rfl; rw [hi] at hrk; cases hrk
    rw [upd_ne m v h1] at hmj
    rw [upd_ne m v h2] at hmk
    exact h.sep j k vj vk rj rk hne hmj hmk hrj hrk hlj.of_upd.1 hlk.of_upd.1
theorem RowsK.new (h : RowsK w val row user m W) (hb : Below W.heap.size W W') {i : Nat} {v : Value} {r : TypeId × Nat × List Value} (hi : row i = some r) (hv : val i = none) (ho : W'.ownsRow W.heap.size r.1 1 v r.2.1 r.2.2) : RowsK w val row user (upd m i v) W' := by
  have hfar : ∀ j vj rj, m j = some vj → row j = some rj → LiveK user m j → ∀ k, vj.ownBlock = some k → k < W.heap.size := fun j vj rj h1 h2 h3 k hk => ((h.own j vj rj h1 h2 h3).lt k hk).2
  refine ⟨below_step h.bel hb, h.det.up (fun x hx => by rw [hv] at hx; cases hx), ?_, ?_⟩
  · intro j u rj hm hr hl
    by_cases hj : j = i
    · subst hj
      rw [upd_self] at hm
      cases hm
      rw [hi] at hr
      cases hr
      exact own_mono ho h.bel.size
    · rw [upd_ne m v hj] at hm
      exact own_below (h.own j u rj hm hr hl.of_upd.1) hb
  · intro j k vj vk rj rk hne hmj hmk hrj hrk hlj hlk x hx hx2
    by_cases hj : j = i
    · subst hj
      rw [upd_self] at hmj
      cases hmj
      rw [upd_ne m _ (fun e => hne e.symm)] at hmk
      have h1 := (ho.lt x hx).1
      have h2 := hfar k vk rk hmk hrk hlk.of_upd.1 x hx2
      omega
    · rw [upd_ne m v hj] at hmj
      by_cases hk : k = i
      · subst hk
        rw [upd_self] at hmk
        cases hmk
        have h1 := (ho.lt x hx2).1
        have h2 := hfar j vj rj hmj hrj hlj.of_upd.1 x hx
        omega
      · rw [upd_ne m v hk] at hmk
        exact h.sep j k vj vk rj rk hne hmj hmk hrj hrk hlj.of_upd.1 hlk.of_upd.1 x hx hx2
theorem LiveK.of {p i : Nat} (hu : user p = some i) (hmi : m i = none) : LiveK user m p := by
  intro u hp
  rw [hu] at hp
  cases hp
  exact hmi
theorem RowsK.take (h : RowsK w val row user m W) {p i : Nat} {vp v : Value} {rp r : TypeId × Nat × List Value} (hu : user p = some i) (hrp : row p = some rp) (hri : row i = some r) (hmp : m p = some vp) (hmi : m i = none) (hv : val i = none)
    (hg : W.grownBy W' vp.ownBlock) (ho : W'.ownsRow w.heap.size r.1 1 v r.2.1 r.2.2) (hat : v.ownBlock = vp.ownBlock ∨ v.ownBlock = some W.heap.size) : RowsK w val row user (upd m i v) W' := by
  have hlp := LiveK.of hu hmi
  have hop := h.own p vp rp hmp hrp hlp
  have hfar : ∀ j vj rj, m j = some vj → row j = some rj → LiveK user m j → ∀ k, vj.ownBlock = some k → k < W.heap.size := fun j vj rj h1 h2 h3 k hk => ((h.own j vj rj h1 h2 h3).lt k hk).2
  have hap : ∀ j vj rj, j ≠ i → m j = some vj → row j = some rj → LiveK user (upd m i v) j → ∀ x, vj.ownBlock = some x → v.ownBlock ≠ some x := by
    intro j vj rj hj hm hr hl x hx hx2
    have hjp : j ≠ p := by rintro rfl; exact hl.of_upd.2 hu
    rcases hat with e | e
    · rw [e] at hx2
      exact h.sep j p vj vp rj rp hjp hm hmp hr hrp hl.of_upd.1 hlp x hx hx2
    · rw [e] at hx2
      cases hx2
      have := hfar j vj rj hm hr hl.of_upd.1 _ hx
      omega
  refine ⟨h.bel.grown hg h.bel.size (fun k hk => (hop.lt k hk).1), h.det.up (fun x hx => by rw [hv] at hx; cases hx), ?_, ?_⟩
  · intro j u rj hm hr hl
    by_cases hj : j = i
    · subst hj
      rw [upd_self] at hm
      cases hm
      rw [hri] at hr
      cases hr
      exact ho
    · rw [upd_ne m v hj] at hm
      have hjp : j ≠ p := by rintro rfl; exact hl.of_upd.2 hu
      refine (h.own j u rj hm hr hl.of_upd.1).kept hg ?_
      cases hub : u.ownBlock with
      | none => exact .inl rfl
      | some x =>
        refine .inr fun e => ?_
        exact h.sep j p u vp rj rp hjp hm hmp hr hrp hl.of_upd.1 hlp x hub e.symm
  · intro j k vj vk rj rk hne hmj hmk hrj hrk hlj hlk x hx hx2
    by_cases hj : j = i
    · subst hj
      rw [upd_self] at hmj
      cases hmj
      rw [upd_ne m _ (fun e => hne e.symm)] at hmk
      exact hap k vk rk (fun e => hne e.symm) hmk hrk hlk x hx2 hx
    · rw [upd_ne m v hj] at hmj
      by_cases hk : k = i
      · subst hk
        rw [upd_self] at hmk
        cases hmk
        exact hap j vj rj hj hmj hrj hlj x hx hx2
      · rw [upd_ne m v hk] at hmk
        exact h.sep j k vj vk rj rk hne hmj hmk hrj hrk hlj.of_upd.1 hlk.of_upd.1 x hx hx2
end
end Go.Proofs.Ythfjfkjlgdnohaa
