/-
  record.Parse, by its contract. (mkrcparse.py)
-/
import Derived.WalkSmall
import Derived.Defers
import Derived.Recover
import Derived.Laws.Pointers
import Derived.Test.YtcbeadldieeceaaZ10
import Derived.Test.YtcbeadldieeceaaZ11
import Derived.Test.YtcbeadldieeceaaZ18
import Derived.Test.YtcbeadldieeceaaZ19
import Derived.Test.YtcbeadldieeceaaZ21
namespace Go.Proofs.Ytcbeadldieeceaa
open Go.RowKit

def ParsePost (w : World) (P : Rc × Nat × Int) (e : Ending) (w' : World) : Prop :=
  ∃ v, e = .returned (.tuple #[rcV P.1 v, .int .i64 (P.2.1 : Int), .int .i64 P.2.2]) ∧ w'.ownsRow w.heap.size 91 2 v P.1.own.length (pcells P.1.own) ∧ Below w.heap.size w w'
def listR (r : Except Int (List BS)) : List BS := match r with | .ok l => l | .error _ => []
def errR (r : Except Int (List BS)) : Int := match r with | .ok _ => 0 | .error e => e
theorem fbody_err (k : Nat) : ∀ (b : BS) (e : Int), fbody k b = .error e → e ≠ 0 := by
  induction k with
  | zero => intro b e h; unfold fbody at h; split at h <;> cases h; decide
  | succ k ih =>
    intro b e h
    unfold fbody at h
    split at h
    · cases h; decide
    split at h
    · cases h; decide
    split at h
    · cases h; decide
    split at h
    · cases h
    · rename_i e' he
      cases h
      exact ih _ _ he
theorem fread_err (b : BS) (e : Int) (h : fread b = .error e) : e ≠ 0 := by
  unfold fread at h
  split at h
  · cases h; decide
  split at h
  · cases h; decide
  exact fbody_err _ _ _ h
theorem listR_small (b : BS) : (listR (fread b)).length ≤ 1024 ∧ ∀ s ∈ listR (fread b), s.length ≤ 65536 := by
  cases h : fread b with
  | ok l => exact ⟨(fread_back b l h).2.1, (fread_back b l h).2.2⟩
  | error e => exact ⟨by simp [listR], fun s hs => by cases hs⟩
/-- fields.Read's answer: a slice and a number -/
theorem readPost_of {w w' : World} {b : BS} {e : Ending} (h : ReadPost w (fread b) e w') : ∃ A c, e = .returned (.tuple #[.slice A (listR (fread b)).length c, .int .i64 (errR (fread b))]) ∧ Reads w' w'.heap.size 1 A (listR (fread b)).length (scells (listR (fread b))) ∧ (listR (fread b)).length ≤ c ∧ c ≤ maxLen ∧ Below w.heap.size w w' := by
  obtain ⟨h, hb⟩ := h
  cases hf : fread b with
  | ok l =>
    rw [hf] at h
    obtain ⟨v, he, ho⟩ := h
    obtain ⟨A, c, rfl, h1, h2, h3⟩ := own_form ho
    exact ⟨A, c, he, h3, h1, h2, hb⟩
  | error x =>
    rw [hf] at h
    exact ⟨none, 0, h, Reads.none_, Nat.le_refl _, by unfold maxLen; omega, hb⟩
theorem parse_nil : parseL [] = (Rc0, 0, 8) := rfl
theorem parse_kind (x : UInt8) (r : BS) (h : x.toNat < 1 ∨ 4 < x.toNat) : parseL (x :: r) = (Rc0, 0, 23) := by
  unfold parseL
  simp only [if_pos h]
theorem parse_short (x : UInt8) (r : BS) (h : ¬ (x.toNat < 1 ∨ 4 < x.toNat)) (h3 : (x :: r).length < 3) : parseL (x :: r) = (Rc0, 0, 8) := by
  unfold parseL
  simp only [if_neg h, if_pos h3]
theorem parse_short2 (x : UInt8) (r : BS) (h : ¬ (x.toNat < 1 ∨ 4 < x.toNat)) (h3 : ¬ (x :: r).length < 3) (h4 : (x :: r).length < 3 + sizeAt (x :: r)) : parseL (x :: r) = (Rc0, 0, 8) := by
  unfold parseL
  simp only [if_neg h, if_neg h3, if_pos h4]
theorem parse_long (x : UInt8) (r : BS) (h : ¬ (x.toNat < 1 ∨ 4 < x.toNat)) (h3 : ¬ (x :: r).length < 3) (h4 : ¬ (x :: r).length < 3 + sizeAt (x :: r)) (F : Except Int (List BS)) (hF : F = fread (((x :: r).drop 3).take (sizeAt (x :: r)))) : parseL (x :: r) =
    if errR F = 0 then match madeL (x.toNat : Int) (listR F) with
      | none => ((Rc0, 0, 33) : Rc × Nat × Int)
      | some q => if recE q = 0 then (q, 3 + sizeAt (x :: r), 0) else (Rc0, 0, 9)
    else (Rc0, 0, 33) := by
  unfold parseL
  simp only [if_neg h, if_neg h3, if_neg h4]
  rw [← hF]
  cases hf : F with
  | ok l => rfl
  | error e =>
    have := fread_err _ e (by rw [← hF, hf])
    have h2 : ¬ errR (.error e) = 0 := this
    rw [if_neg h2]
theorem sizeAt_lt (b : BS) : sizeAt b < 65536 := numN_take2 (b.drop 1)
set_option maxRecDepth 100000 in
set_option maxHeartbeats 4000000 in
theorem rparse_any (b : BS) (n : Nat) (hnb : n = b.length) (A : Option Addr) (c : Nat) (w : World) (B : Nat) (hr : Reads w B 1 A n (bts b)) (hB : B ≤ w.heap.size) (hc : n ≤ c) (hcm : c ≤ 9223372036854775807) (hn : n ≤ 140737488355328) :
    Calls Try.prog 26 #[.slice A n c] w (ParsePost w (parseL b)) := by
  obtain ⟨P, hP⟩ : ∃ P, P = parseL b := ⟨_, rfl⟩
  rw [← hP]
  have k1 := Blk.new w 47 #[.int .i64 0, .string ⟨#[]⟩, .int .i64 0, .int .i64 0, .slice none 0 0, .int .i64 0, .int .i64 0, .string ⟨#[]⟩, .int .u64 0, .int .u64 0, .int .u64 0, .int .u64 0]
  obtain ⟨W1, hW1⟩ : ∃ W1, W1 = w.alloc (.cells #[.int .i64 0, .string ⟨#[]⟩, .int .i64 0, .int .i64 0, .slice none 0 0, .int .i64 0, .int .i64 0, .string ⟨#[]⟩, .int .u64 0, .int .u64 0, .int .u64 0, .int .u64 0] 47) := ⟨_, rfl⟩
  rw [← hW1] at k1
  have hb1 : Below w.heap.size w W1 := by rw [hW1]; exact (Below.refl _ w).alloc (Nat.le_refl _) _
  have hz1 : w.heap.size < W1.heap.size := k1.lt
  have HW1 := Lib.hid hW1
  have HB1 := Lib.hid hb1
  have K1 := Lib.hid k1
  obtain ⟨a0, a1, a2, a3, a4, a5, a6, a7, a8, a9, a10, a11⟩ := blk12 k1
  obtain ⟨g0, g1, g2, g3, g4, g5, g6, g7, g8, g9, g10, g11⟩ := frozen12 k1
  clear hW1 hb1 k1
  cases b with
  | nil =>
    obtain rfl : n = 0 := hnb
    have HF := Lib.hid (hP.trans parse_nil)
    clear hP hr
    go_enter Try.func26, Try.ntmps26
    go_wp2_with fail
    rw [← HW1.out]
    go_wp2_with fail
    refine bodyPost_ret (v := .tuple #[.agg #[.int .i64 0, .string ⟨#[]⟩, .int .i64 0, .int .i64 0, .slice none 0 0, .int .i64 0, .int .i64 0, .string ⟨#[]⟩, .int .u64 0, .int .u64 0, .int .u64 0, .int .u64 0], .int .i64 0, .int .i64 8]) (by simp [results, Try.results26, go_sem, a0, a1, a2, a3, a4, a5, a6, a7, a8, a9, a10, a11]) rfl ⟨.slice none 0 0, by rw [HF.out]; rfl, by rw [HF.out]; exact World.ownsRow_nil _ _ _ _, ?_⟩
    repeat (with_reducible refine Below.setCell ?_ (by dsimp only; omega) _)
    with_reducible exact HB1.out
  | cons x r =>
    have hn1 : 1 ≤ n := by rw [hnb]; simp
    obtain ⟨ad, rfl, hadB, hcell⟩ := hr.2 hn1
    have e0 : w.cell? ad = some (.int .u8 (x.toNat : Int)) := by have := hcell 0 _ rfl; rwa [add_zero] at this
    have e1 : W1.cell? ad = some (.int .u8 (x.toNat : Int)) := by rw [HW1.out]; exact (World.cell?_alloc_lt _ _ _ (by omega)).trans e0
    have hx := x.toNat_lt
    have hadw : ad.block < w.heap.size := by omega
    have hr1 := hr.below (HB1.out.mono hB)
    have HNB := Lib.hid hnb
    have hne : ((n : Int) == 0) = false := by simp; omega
    obtain ⟨K, hK⟩ : ∃ K, K = (x.toNat : Int) := ⟨_, rfl⟩
    rw [← hK] at e0 e1
    by_cases hk : x.toNat < 1 ∨ 4 < x.toNat
    · have HF := Lib.hid (hP.trans (parse_kind x r hk))
      have hkk : K < 1 ∨ 4 < K := by omega
      clear hP hnb hK hk hr hcell hr1
      rcases hkk with hk | hk
      all_goals
        go_enter Try.func26, Try.ntmps26
        go_wp2_with fail
        rw [← HW1.out]
        go_wp2_with fail
        refine bodyPost_ret (v := .tuple #[.agg #[.int .i64 0, .string ⟨#[]⟩, .int .i64 0, .int .i64 0, .slice none 0 0, .int .i64 0, .int .i64 0, .string ⟨#[]⟩, .int .u64 0, .int .u64 0, .int .u64 0, .int .u64 0], .int .i64 0, .int .i64 23]) (by simp [results, Try.results26, go_sem, a0, a1, a2, a3, a4, a5, a6, a7, a8, a9, a10, a11]) rfl ⟨.slice none 0 0, by rw [HF.out]; rfl, by rw [HF.out]; exact World.ownsRow_nil _ _ _ _, ?_⟩
        repeat (with_reducible refine Below.setCell ?_ (by dsimp only; omega) _)
        with_reducible exact HB1.out
    · have hk1 : 1 ≤ K := by omega
      have hk4 : K ≤ 4 := by omega
      by_cases h3 : n < 3
      · have HF := Lib.hid (hP.trans (parse_short x r hk (by rw [← hnb]; exact h3)))
        clear hP hnb hK hk hr hcell hr1
        go_enter Try.func26, Try.ntmps26
        go_wp2_with fail
        rw [← HW1.out]
        go_wp2_with fail
        refine bodyPost_ret (v := .tuple #[.agg #[.int .i64 0, .string ⟨#[]⟩, .int .i64 0, .int .i64 0, .slice none 0 0, .int .i64 0, .int .i64 0, .string ⟨#[]⟩, .int .u64 0, .int .u64 0, .int .u64 0, .int .u64 0], .int .i64 0, .int .i64 8]) (by simp [results, Try.results26, go_sem, a0, a1, a2, a3, a4, a5, a6, a7, a8, a9, a10, a11]) rfl ⟨.slice none 0 0, by rw [HF.out]; rfl, by rw [HF.out]; exact World.ownsRow_nil _ _ _ _, ?_⟩
        repeat (with_reducible refine Below.setCell ?_ (by dsimp only; omega) _)
        with_reducible exact HB1.out
      · obtain ⟨b, hb⟩ : ∃ b, b = x :: r := ⟨_, rfl⟩
        rw [← hb] at hr hr1 hP hnb HNB
        have h3' : ¬ b.length < 3 := by rw [← hnb]; exact h3
        obtain ⟨S, hS⟩ : ∃ S, S = sizeAt b := ⟨_, rfl⟩
        have hS6 : S < 65536 := by rw [hS]; exact sizeAt_lt b
        have h2l : ((b.drop 1).take 2).length = 2 := by rw [List.length_take, List.length_drop, ← hnb]; omega
        have hd1 := hr1.cut (k := 1) (cap := c) (by omega) hc
        rw [if_neg (by omega)] at hd1
        simp only [Nat.mul_one, ← bts_drop] at hd1
        have hd1 : Reads W1 B 1 (some ⟨ad.block, ad.off + 1, none⟩) (n - 1) (bts (b.drop 1)) := hd1
        have hnum := number_any ((b.drop 1).take 2) 2 h2l.symm (some ⟨ad.block, ad.off + 1, none⟩) (c - 1) W1 _ (bpre2 hd1 (by rw [List.length_drop, hnb]) (by omega)) (by omega)
        have hVE := numVE_small ((b.drop 1).take 2) (by omega) (by omega)
        rw [hVE.1, hVE.2, show numN ((b.drop 1).take 2) = S from hS.symm] at hnum
        have HNUM := Lib.hid hnum
        have hn3i : ¬ (n : Int) < 3 := by omega
        have hc3i : (3 : Int) ≤ (c : Int) := by omega
        clear hVE hnum h2l hd1 hcell
        by_cases h4 : n < 3 + S
        · have HF : Hid (P = (Rc0, 0, 8)) := by show _ = _; rw [hP, hb]; exact parse_short2 x r hk (by rw [← hb]; exact h3') (by rw [← hb, ← hS, ← hnb]; exact h4)
          have h4i : (n : Int) < 3 + (S : Int) := by omega
          clear hP hnb hK hk hr hr1 hb hS h3'
          go_enter Try.func26, Try.ntmps26
          go_wp2_with fail
          rw [← HW1.out]
          refine HNUM.out.mono ?_
          rintro e w2 ⟨rfl, hw⟩
          rw [← hw]
          clear hw w2 HNUM
          go_wp2_with fail
          refine bodyPost_ret (v := .tuple #[.agg #[.int .i64 0, .string ⟨#[]⟩, .int .i64 0, .int .i64 0, .slice none 0 0, .int .i64 0, .int .i64 0, .string ⟨#[]⟩, .int .u64 0, .int .u64 0, .int .u64 0, .int .u64 0], .int .i64 0, .int .i64 8]) (by simp [results, Try.results26, go_sem, a0, a1, a2, a3, a4, a5, a6, a7, a8, a9, a10, a11]) rfl ⟨.slice none 0 0, by rw [HF.out]; rfl, by rw [HF.out]; exact World.ownsRow_nil _ _ _ _, ?_⟩
          repeat (with_reducible refine Below.setCell ?_ (by dsimp only; omega) _)
          with_reducible exact HB1.out
        · obtain ⟨F, hF⟩ : ∃ F, F = fread ((b.drop 3).take S) := ⟨_, rfl⟩
          have hpl := parse_long x r hk (by rw [← hb]; exact h3') (by rw [← hb, ← hS, ← hnb]; exact h4) F (by rw [← hb, ← hS]; exact hF)
          rw [← hb, ← hS, ← hK, ← hP] at hpl
          have HP := Lib.hid hpl
          clear hpl
          have hls := listR_small ((b.drop 3).take S)
          have hpo := fun w' e => @readPost_of W1 w' ((b.drop 3).take S) e
          rw [← hF] at hls hpo
          obtain ⟨l, hl⟩ : ∃ l, l = listR F := ⟨_, rfl⟩
          obtain ⟨E, hE⟩ : ∃ E, E = errR F := ⟨_, rfl⟩
          rw [← hl] at hls hpo HP
          rw [← hE] at HP hpo
          have HPO := Lib.hid hpo
          have HLS := Lib.hid hls
          have h4i : ¬ (n : Int) < 3 + (S : Int) := by omega
          have h4j : (3 : Int) + (S : Int) ≤ (c : Int) := by omega
          have hKK : K = 1 ∨ K = 2 ∨ K = 3 ∨ K = 4 := by omega
          have HKK := Lib.hid hKK
          have hfr : c ≠ 3 → Calls Try.prog 48 #[.slice (some ⟨ad.block, ad.off + 3, none⟩) S (c - 3)] W1 (ReadPost W1 F) := by
            intro hc3
            have hd0 := hr1.cut (k := 3) (cap := c) (by omega) hc
            rw [if_neg hc3] at hd0
            simp only [Nat.mul_one, ← bts_drop] at hd0
            have hd0 : Reads W1 B 1 (some ⟨ad.block, ad.off + 3, none⟩) (n - 3) (bts (b.drop 3)) := hd0
            rw [hF]
            exact fread_any ((b.drop 3).take S) S (by rw [List.length_take, List.length_drop, ← hnb]; omega) _ (c - 3) W1 B (bpre2 hd0 (by rw [List.length_drop, hnb]) (by omega)) (by omega) (by omega) (by omega) (by omega)
          have hfr3 : c = 3 → Calls Try.prog 48 #[.slice (some ad) 0 0] W1 (ReadPost W1 F) := by
            intro hc3
            have : (b.drop 3).take S = [] := by rw [List.drop_eq_nil_of_le (by omega)]; simp
            rw [hF, this]
            exact fread_any [] 0 rfl (some ad) 0 W1 0 ⟨rfl, fun h => by cases h⟩ (Nat.zero_le _) (Nat.le_refl _) (by decide) (by omega)
          have HFR := Lib.hid hfr
          have HFR3 := Lib.hid hfr3
          clear hP hnb hK hk hr hr1 hb hS h3' hF hls hpo hl hE hKK hfr hfr3 hadB
          by_cases hc3 : c = 3
          · subst hc3
            obtain rfl : n = 3 := by omega
            obtain rfl : S = 0 := by omega
            have HFR := Lib.hid (HFR3.out rfl)
            clear HFR3 h4i h4j hn3i hc3i
            go_enter Try.func26, Try.ntmps26
            go_wp2_with fail
            rw [← HW1.out]
            refine HNUM.out.mono ?_
            rintro e w2 ⟨rfl, hw⟩
            rw [← hw]
            clear hw w2 HNUM
            go_wp2_with fail
            refine HFR.out.mono ?_
            clear HFR
            intro e w2 hp
            obtain ⟨A2, c2, rfl, hr2, hc2, hcm2, hb2⟩ := HPO.out _ _ hp
            have hrd := rread_any K HKK.out l (fun s hs => by have := HLS.out.2 s hs; omega) l.length rfl A2 c2 w2 w2.heap.size hr2 (Nat.le_refl _) hc2 hcm2 (by have := HLS.out.1; omega)
            obtain ⟨m, hm⟩ : ∃ m, m = l.length := ⟨_, rfl⟩
            rw [← hm] at hrd
            rw [← hm]
            have HRD := Lib.hid hrd
            have K1 := Lib.hid (K1.out.below hb2 hz1)
            have HB2 := Lib.hid (HB1.out.trans (hb2.mono HB1.out.size))
            clear hp hr2 hb2 hrd hm HPO HB1 HW1 a0 a1 a2 a3 a4 a5 a6 a7 a8 a9 a10 a11 g0 g1 g2 g3 g4 g5 g6 g7 g8 g9 g10 g11
            have e1 : w2.cell? ad = some (.int .u8 K) := (HB2.out.cell hadw).trans e0
            have hz2 : w.heap.size < w2.heap.size := K1.out.lt
            go_wp2_with fail
            refine HRD.out.mono ?_
            clear HRD
            rintro e w3 ⟨v, ⟨rk, rn, rf, rg, ro, ri, rc, rd, ⟨ra, rb, rx, ry⟩⟩, R, he, hmade, hown, hol, hov, hb3⟩
            obtain ⟨A3, c3, rfl, hq3, hqm3, hr3⟩ := own_form hown
            obtain rfl : e = .returned (.tuple #[.agg #[.int .i64 rk, .string ⟨rn.toArray⟩, .int .i64 rf, .int .i64 rg, .slice A3 ro.length c3, .int .i64 ri, .int .i64 rc, .string ⟨rd.toArray⟩, .int .u64 ra, .int .u64 rb, .int .u64 rx, .int .u64 ry], .bool R]) := he
            have hz3 : w.heap.size < w3.heap.size := by have := hb3.size; omega
            obtain ⟨W4, hW4⟩ : ∃ W4, W4 = w3.alloc (.cells #[.int .i64 rk, .string ⟨rn.toArray⟩, .int .i64 rf, .int .i64 rg, .slice A3 ro.length c3, .int .i64 ri, .int .i64 rc, .string ⟨rd.toArray⟩, .int .u64 ra, .int .u64 rb, .int .u64 rx, .int .u64 ry] 47) := ⟨_, rfl⟩
            have k9 : Blk W4 w3.heap.size 47 #[.int .i64 rk, .string ⟨rn.toArray⟩, .int .i64 rf, .int .i64 rg, .slice A3 ro.length c3, .int .i64 ri, .int .i64 rc, .string ⟨rd.toArray⟩, .int .u64 ra, .int .u64 rb, .int .u64 rx, .int .u64 ry] := by rw [hW4]; exact Blk.new _ _ _
            have k1 : Blk W4 w.heap.size 47 #[.int .i64 0, .string ⟨#[]⟩, .int .i64 0, .int .i64 0, .slice none 0 0, .int .i64 0, .int .i64 0, .string ⟨#[]⟩, .int .u64 0, .int .u64 0, .int .u64 0, .int .u64 0] := by rw [hW4]; exact (K1.out.below hb3 hz2).alloc _
            have HB4 : Hid (Below w.heap.size w W4) := by show Below _ _ _; rw [hW4]; exact (HB2.out.trans (hb3.mono HB2.out.size)).alloc (by omega) _
            have ho4 : W4.ownsRow w2.heap.size 91 2 (.slice A3 ro.length c3) ro.length (pcells ro) := by rw [hW4]; exact hown.alloc _
            have hr4 : Reads W4 W4.heap.size 2 A3 ro.length (pcells ro) := (own_reads ho4).2.2
            have hch := rcheck_any ⟨rk, rn, rf, rg, ro, ri, rc, rd, ⟨ra, rb, rx, ry⟩⟩ ro.length rfl A3 c3 W4 W4.heap.size (Nat.le_refl _) hr4 (by simp only at hol; omega) hov
            obtain ⟨X, hX⟩ : ∃ X, X = recE ⟨rk, rn, rf, rg, ro, ri, rc, rd, ⟨ra, rb, rx, ry⟩⟩ := ⟨_, rfl⟩
            rw [← hX] at hch
            obtain ⟨m3, hm3⟩ : ∃ m, m = ro.length := ⟨_, rfl⟩
            rw [← hm3] at hch ho4 k9 hW4
            rw [← hm3]
            have HCH := Lib.hid hch
            have HO4 := Lib.hid ho4
            have HM3 := Lib.hid hm3
            have HX := Lib.hid hX
            have HMADE := Lib.hid hmade
            have HW4 := Lib.hid hW4
            have K1 := Lib.hid k1
            have K9 := Lib.hid k9
            obtain ⟨a0, a1, a2, a3, a4, a5, a6, a7, a8, a9, a10, a11⟩ := blk12 k1
            obtain ⟨g0, g1, g2, g3, g4, g5, g6, g7, g8, g9, g10, g11⟩ := frozen12 k1
            obtain ⟨p0, p1, p2, p3, p4, p5, p6, p7, p8, p9, p10, p11⟩ := blk12 k9
            obtain ⟨q0, q1, q2, q3, q4, q5, q6, q7, q8, q9, q10, q11⟩ := frozen12 k9
            clear k1 k9 hW4 hX hm3 hch ho4 hr4 hown hr3 hmade HB2 hb3 e0 e1 hol hov
            go_upto_region 12 with (fail)
            rw [← HW4.out]
            by_cases hE0 : E = 0
            · have HP1 : Hid (P = if R = true then (if X = 0 then (⟨rk, rn, rf, rg, ro, ri, rc, rd, ⟨ra, rb, rx, ry⟩⟩, 3 + 0, 0) else (Rc0, 0, 9)) else (Rc0, 0, 33)) := by show _ = _; rw [HP.out, if_pos hE0, HMADE.out, HX.out]; cases R <;> rfl
              clear HP
              subst hE0
              cases R with
              | false =>
                have HF : Hid (P = (Rc0, 0, 33)) := HP1.out.trans (if_neg (by decide))
                go_wp2_with fail
                refine bodyPost_ret (v := .tuple #[.agg #[.int .i64 0, .string ⟨#[]⟩, .int .i64 0, .int .i64 0, .slice none 0 0, .int .i64 0, .int .i64 0, .string ⟨#[]⟩, .int .u64 0, .int .u64 0, .int .u64 0, .int .u64 0], .int .i64 0, .int .i64 33]) (by simp [results, Try.results26, go_sem, a0, a1, a2, a3, a4, a5, a6, a7, a8, a9, a10, a11]) rfl ⟨.slice none 0 0, by rw [HF.out]; rfl, by rw [HF.out]; exact World.ownsRow_nil _ _ _ _, ?_⟩
                repeat (with_reducible refine Below.setCell ?_ (by dsimp only; omega) _)
                with_reducible exact HB4.out
              | true =>
                have HP2 : Hid (P = if X = 0 then (⟨rk, rn, rf, rg, ro, ri, rc, rd, ⟨ra, rb, rx, ry⟩⟩, 3 + 0, 0) else (Rc0, 0, 9)) := HP1.out.trans (if_pos rfl)
                clear HP1
                go_wp2_with fail
                refine HCH.out.mono ?_
                clear HCH a0 a1 a2 a3 a4 a5 a6 a7 a8 a9 a10 a11 g0 g1 g2 g3 g4 g5 g6 g7 g8 g9 g10 g11 p0 p1 p2 p3 p4 p5 p6 p7 p8 p9 p10 p11 q0 q1 q2 q3 q4 q5 q6 q7 q8 q9 q10 q11
                rintro e w5 ⟨rfl, hb5⟩
                have HB5 := Lib.hid (HB4.out.trans (hb5.mono HB4.out.size))
                have HO5 := Lib.hid (own_below HO4.out hb5)
                have k1 := K1.out.below hb5 K1.out.lt
                have k9 := K9.out.below hb5 K9.out.lt
                obtain ⟨a0, a1, a2, a3, a4, a5, a6, a7, a8, a9, a10, a11⟩ := blk12 k1
                obtain ⟨g0, g1, g2, g3, g4, g5, g6, g7, g8, g9, g10, g11⟩ := frozen12 k1
                obtain ⟨p0, p1, p2, p3, p4, p5, p6, p7, p8, p9, p10, p11⟩ := blk12 k9
                obtain ⟨q0, q1, q2, q3, q4, q5, q6, q7, q8, q9, q10, q11⟩ := frozen12 k9
                clear hb5 k1 k9 HB4 HO4 K1 K9 HW4
                by_cases hX0 : X = 0
                · have HF : Hid (P = (⟨rk, rn, rf, rg, ro, ri, rc, rd, ⟨ra, rb, rx, ry⟩⟩, 3 + 0, 0)) := HP2.out.trans (if_pos hX0)
                  clear HX HP2
                  subst hX0
                  go_wp2_with fail
                  refine bodyPost_ret (v := .tuple #[.agg #[.int .i64 rk, .string ⟨rn.toArray⟩, .int .i64 rf, .int .i64 rg, .slice A3 m3 c3, .int .i64 ri, .int .i64 rc, .string ⟨rd.toArray⟩, .int .u64 ra, .int .u64 rb, .int .u64 rx, .int .u64 ry], .int .i64 (3 + (0 : Int)), .int .i64 0]) (by simp [results, Try.results26, go_sem, a0, a1, a2, a3, a4, a5, a6, a7, a8, a9, a10, a11]) rfl ⟨.slice A3 m3 c3, by rw [HF.out]; first | rfl | (simp only [rcV, rcCells, Int.natCast_add]; rfl), ?_, ?_⟩
                  · rw [HF.out]
                    show World.ownsRow _ _ _ _ _ ro.length _
                    rw [← HM3.out]
                    refine own_mono (base := w2.heap.size) ?_ (by omega)
                    repeat (with_reducible refine own_setCell_below ?_ (by dsimp only; omega) _)
                    with_reducible exact HO5.out
                  · repeat (with_reducible refine Below.setCell ?_ (by dsimp only; omega) _)
                    with_reducible exact HB5.out
                · have HF : Hid (P = (Rc0, 0, 9)) := HP2.out.trans (if_neg hX0)
                  have hXb : (X == 0) = false := by simp [hX0]
                  have hXc : (X != 0) = true := by simp [hX0]
                  go_wp2_with fail
                  refine bodyPost_ret (v := .tuple #[.agg #[.int .i64 0, .string ⟨#[]⟩, .int .i64 0, .int .i64 0, .slice none 0 0, .int .i64 0, .int .i64 0, .string ⟨#[]⟩, .int .u64 0, .int .u64 0, .int .u64 0, .int .u64 0], .int .i64 0, .int .i64 9]) (by simp [results, Try.results26, go_sem, a0, a1, a2, a3, a4, a5, a6, a7, a8, a9, a10, a11]) rfl ⟨.slice none 0 0, by rw [HF.out]; rfl, by rw [HF.out]; exact World.ownsRow_nil _ _ _ _, ?_⟩
                  repeat (with_reducible refine Below.setCell ?_ (by dsimp only; omega) _)
                  with_reducible exact HB5.out
            · have HF : Hid (P = (Rc0, 0, 33)) := by show _ = _; rw [HP.out, if_neg hE0]
              have hEb : (E == 0) = false := by simp [hE0]
              have hEc : (E != 0) = true := by simp [hE0]
              go_wp2_with fail
              refine bodyPost_ret (v := .tuple #[.agg #[.int .i64 0, .string ⟨#[]⟩, .int .i64 0, .int .i64 0, .slice none 0 0, .int .i64 0, .int .i64 0, .string ⟨#[]⟩, .int .u64 0, .int .u64 0, .int .u64 0, .int .u64 0], .int .i64 0, .int .i64 33]) (by simp [results, Try.results26, go_sem, a0, a1, a2, a3, a4, a5, a6, a7, a8, a9, a10, a11]) rfl ⟨.slice none 0 0, by rw [HF.out]; rfl, by rw [HF.out]; exact World.ownsRow_nil _ _ _ _, ?_⟩
              repeat (with_reducible refine Below.setCell ?_ (by dsimp only; omega) _)
              with_reducible exact HB4.out
          · have HFR := Lib.hid (HFR.out hc3)
            clear HFR3
            go_enter Try.func26, Try.ntmps26
            go_wp2_with fail
            rw [← HW1.out]
            refine HNUM.out.mono ?_
            rintro e w2 ⟨rfl, hw⟩
            rw [← hw]
            clear hw w2 HNUM
            go_wp2_with fail
            refine HFR.out.mono ?_
            clear HFR
            intro e w2 hp
            obtain ⟨A2, c2, rfl, hr2, hc2, hcm2, hb2⟩ := HPO.out _ _ hp
            have hrd := rread_any K HKK.out l (fun s hs => by have := HLS.out.2 s hs; omega) l.length rfl A2 c2 w2 w2.heap.size hr2 (Nat.le_refl _) hc2 hcm2 (by have := HLS.out.1; omega)
            obtain ⟨m, hm⟩ : ∃ m, m = l.length := ⟨_, rfl⟩
            rw [← hm] at hrd
            rw [← hm]
            have HRD := Lib.hid hrd
            have K1 := Lib.hid (K1.out.below hb2 hz1)
            have HB2 := Lib.hid (HB1.out.trans (hb2.mono HB1.out.size))
            clear hp hr2 hb2 hrd hm HPO HB1 HW1 a0 a1 a2 a3 a4 a5 a6 a7 a8 a9 a10 a11 g0 g1 g2 g3 g4 g5 g6 g7 g8 g9 g10 g11
            have e1 : w2.cell? ad = some (.int .u8 K) := (HB2.out.cell hadw).trans e0
            have hz2 : w.heap.size < w2.heap.size := K1.out.lt
            go_wp2_with fail
            refine HRD.out.mono ?_
            clear HRD
            rintro e w3 ⟨v, ⟨rk, rn, rf, rg, ro, ri, rc, rd, ⟨ra, rb, rx, ry⟩⟩, R, he, hmade, hown, hol, hov, hb3⟩
            obtain ⟨A3, c3, rfl, hq3, hqm3, hr3⟩ := own_form hown
            obtain rfl : e = .returned (.tuple #[.agg #[.int .i64 rk, .string ⟨rn.toArray⟩, .int .i64 rf, .int .i64 rg, .slice A3 ro.length c3, .int .i64 ri, .int .i64 rc, .string ⟨rd.toArray⟩, .int .u64 ra, .int .u64 rb, .int .u64 rx, .int .u64 ry], .bool R]) := he
            have hz3 : w.heap.size < w3.heap.size := by have := hb3.size; omega
            obtain ⟨W4, hW4⟩ : ∃ W4, W4 = w3.alloc (.cells #[.int .i64 rk, .string ⟨rn.toArray⟩, .int .i64 rf, .int .i64 rg, .slice A3 ro.length c3, .int .i64 ri, .int .i64 rc, .string ⟨rd.toArray⟩, .int .u64 ra, .int .u64 rb, .int .u64 rx, .int .u64 ry] 47) := ⟨_, rfl⟩
            have k9 : Blk W4 w3.heap.size 47 #[.int .i64 rk, .string ⟨rn.toArray⟩, .int .i64 rf, .int .i64 rg, .slice A3 ro.length c3, .int .i64 ri, .int .i64 rc, .string ⟨rd.toArray⟩, .int .u64 ra, .int .u64 rb, .int .u64 rx, .int .u64 ry] := by rw [hW4]; exact Blk.new _ _ _
            have k1 : Blk W4 w.heap.size 47 #[.int .i64 0, .string ⟨#[]⟩, .int .i64 0, .int .i64 0, .slice none 0 0, .int .i64 0, .int .i64 0, .string ⟨#[]⟩, .int .u64 0, .int .u64 0, .int .u64 0, .int .u64 0] := by rw [hW4]; exact (K1.out.below hb3 hz2).alloc _
            have HB4 : Hid (Below w.heap.size w W4) := by show Below _ _ _; rw [hW4]; exact (HB2.out.trans (hb3.mono HB2.out.size)).alloc (by omega) _
            have ho4 : W4.ownsRow w2.heap.size 91 2 (.slice A3 ro.length c3) ro.length (pcells ro) := by rw [hW4]; exact hown.alloc _
            have hr4 : Reads W4 W4.heap.size 2 A3 ro.length (pcells ro) := (own_reads ho4).2.2
            have hch := rcheck_any ⟨rk, rn, rf, rg, ro, ri, rc, rd, ⟨ra, rb, rx, ry⟩⟩ ro.length rfl A3 c3 W4 W4.heap.size (Nat.le_refl _) hr4 (by simp only at hol; omega) hov
            obtain ⟨X, hX⟩ : ∃ X, X = recE ⟨rk, rn, rf, rg, ro, ri, rc, rd, ⟨ra, rb, rx, ry⟩⟩ := ⟨_, rfl⟩
            rw [← hX] at hch
            obtain ⟨m3, hm3⟩ : ∃ m, m = ro.length := ⟨_, rfl⟩
            rw [← hm3] at hch ho4 k9 hW4
            rw [← hm3]
            have HCH := Lib.hid hch
            have HO4 := Lib.hid ho4
            have HM3 := Lib.hid hm3
            have HX := Lib.hid hX
            have HMADE := Lib.hid hmade
            have HW4 := Lib.hid hW4
            have K1 := Lib.hid k1
            have K9 := Lib.hid k9
            obtain ⟨a0, a1, a2, a3, a4, a5, a6, a7, a8, a9, a10, a11⟩ := blk12 k1
            obtain ⟨g0, g1, g2, g3, g4, g5, g6, g7, g8, g9, g10, g11⟩ := frozen12 k1
            obtain ⟨p0, p1, p2, p3, p4, p5, p6, p7, p8, p9, p10, p11⟩ := blk12 k9
            obtain ⟨q0, q1, q2, q3, q4, q5, q6, q7, q8, q9, q10, q11⟩ := frozen12 k9
            clear k1 k9 hW4 hX hm3 hch ho4 hr4 hown hr3 hmade HB2 hb3 e0 e1 hol hov
            go_upto_region 12 with (fail)
            rw [← HW4.out]
            by_cases hE0 : E = 0
            · have HP1 : Hid (P = if R = true then (if X = 0 then (⟨rk, rn, rf, rg, ro, ri, rc, rd, ⟨ra, rb, rx, ry⟩⟩, 3 + S, 0) else (Rc0, 0, 9)) else (Rc0, 0, 33)) := by show _ = _; rw [HP.out, if_pos hE0, HMADE.out, HX.out]; cases R <;> rfl
              clear HP
              subst hE0
              cases R with
              | false =>
                have HF : Hid (P = (Rc0, 0, 33)) := HP1.out.trans (if_neg (by decide))
                go_wp2_with fail
                refine bodyPost_ret (v := .tuple #[.agg #[.int .i64 0, .string ⟨#[]⟩, .int .i64 0, .int .i64 0, .slice none 0 0, .int .i64 0, .int .i64 0, .string ⟨#[]⟩, .int .u64 0, .int .u64 0, .int .u64 0, .int .u64 0], .int .i64 0, .int .i64 33]) (by simp [results, Try.results26, go_sem, a0, a1, a2, a3, a4, a5, a6, a7, a8, a9, a10, a11]) rfl ⟨.slice none 0 0, by rw [HF.out]; rfl, by rw [HF.out]; exact World.ownsRow_nil _ _ _ _, ?_⟩
                repeat (with_reducible refine Below.setCell ?_ (by dsimp only; omega) _)
                with_reducible exact HB4.out
              | true =>
                have HP2 : Hid (P = if X = 0 then (⟨rk, rn, rf, rg, ro, ri, rc, rd, ⟨ra, rb, rx, ry⟩⟩, 3 + S, 0) else (Rc0, 0, 9)) := HP1.out.trans (if_pos rfl)
                clear HP1
                go_wp2_with fail
                refine HCH.out.mono ?_
                clear HCH a0 a1 a2 a3 a4 a5 a6 a7 a8 a9 a10 a11 g0 g1 g2 g3 g4 g5 g6 g7 g8 g9 g10 g11 p0 p1 p2 p3 p4 p5 p6 p7 p8 p9 p10 p11 q0 q1 q2 q3 q4 q5 q6 q7 q8 q9 q10 q11
                rintro e w5 ⟨rfl, hb5⟩
                have HB5 := Lib.hid (HB4.out.trans (hb5.mono HB4.out.size))
                have HO5 := Lib.hid (own_below HO4.out hb5)
                have k1 := K1.out.below hb5 K1.out.lt
                have k9 := K9.out.below hb5 K9.out.lt
                obtain ⟨a0, a1, a2, a3, a4, a5, a6, a7, a8, a9, a10, a11⟩ := blk12 k1
                obtain ⟨g0, g1, g2, g3, g4, g5, g6, g7, g8, g9, g10, g11⟩ := frozen12 k1
                obtain ⟨p0, p1, p2, p3, p4, p5, p6, p7, p8, p9, p10, p11⟩ := blk12 k9
                obtain ⟨q0, q1, q2, q3, q4, q5, q6, q7, q8, q9, q10, q11⟩ := frozen12 k9
                clear hb5 k1 k9 HB4 HO4 K1 K9 HW4
                by_cases hX0 : X = 0
                · have HF : Hid (P = (⟨rk, rn, rf, rg, ro, ri, rc, rd, ⟨ra, rb, rx, ry⟩⟩, 3 + S, 0)) := HP2.out.trans (if_pos hX0)
                  clear HX HP2
                  subst hX0
                  go_wp2_with fail
                  refine bodyPost_ret (v := .tuple #[.agg #[.int .i64 rk, .string ⟨rn.toArray⟩, .int .i64 rf, .int .i64 rg, .slice A3 m3 c3, .int .i64 ri, .int .i64 rc, .string ⟨rd.toArray⟩, .int .u64 ra, .int .u64 rb, .int .u64 rx, .int .u64 ry], .int .i64 (3 + (S : Int)), .int .i64 0]) (by simp [results, Try.results26, go_sem, a0, a1, a2, a3, a4, a5, a6, a7, a8, a9, a10, a11]) rfl ⟨.slice A3 m3 c3, by rw [HF.out]; first | rfl | (simp only [rcV, rcCells, Int.natCast_add]; rfl), ?_, ?_⟩
                  · rw [HF.out]
                    show World.ownsRow _ _ _ _ _ ro.length _
                    rw [← HM3.out]
                    refine own_mono (base := w2.heap.size) ?_ (by omega)
                    repeat (with_reducible refine own_setCell_below ?_ (by dsimp only; omega) _)
                    with_reducible exact HO5.out
                  · repeat (with_reducible refine Below.setCell ?_ (by dsimp only; omega) _)
                    with_reducible exact HB5.out
                · have HF : Hid (P = (Rc0, 0, 9)) := HP2.out.trans (if_neg hX0)
                  have hXb : (X == 0) = false := by simp [hX0]
                  have hXc : (X != 0) = true := by simp [hX0]
                  go_wp2_with fail
                  refine bodyPost_ret (v := .tuple #[.agg #[.int .i64 0, .string ⟨#[]⟩, .int .i64 0, .int .i64 0, .slice none 0 0, .int .i64 0, .int .i64 0, .string ⟨#[]⟩, .int .u64 0, .int .u64 0, .int .u64 0, .int .u64 0], .int .i64 0, .int .i64 9]) (by simp [results, Try.results26, go_sem, a0, a1, a2, a3, a4, a5, a6, a7, a8, a9, a10, a11]) rfl ⟨.slice none 0 0, by rw [HF.out]; rfl, by rw [HF.out]; exact World.ownsRow_nil _ _ _ _, ?_⟩
                  repeat (with_reducible refine Below.setCell ?_ (by dsimp only; omega) _)
                  with_reducible exact HB5.out
            · have HF : Hid (P = (Rc0, 0, 33)) := by show _ = _; rw [HP.out, if_neg hE0]
              have hEb : (E == 0) = false := by simp [hE0]
              have hEc : (E != 0) = true := by simp [hE0]
              go_wp2_with fail
              refine bodyPost_ret (v := .tuple #[.agg #[.int .i64 0, .string ⟨#[]⟩, .int .i64 0, .int .i64 0, .slice none 0 0, .int .i64 0, .int .i64 0, .string ⟨#[]⟩, .int .u64 0, .int .u64 0, .int .u64 0, .int .u64 0], .int .i64 0, .int .i64 33]) (by simp [results, Try.results26, go_sem, a0, a1, a2, a3, a4, a5, a6, a7, a8, a9, a10, a11]) rfl ⟨.slice none 0 0, by rw [HF.out]; rfl, by rw [HF.out]; exact World.ownsRow_nil _ _ _ _, ?_⟩
              repeat (with_reducible refine Below.setCell ?_ (by dsimp only; omega) _)
              with_reducible exact HB4.out
end Go.Proofs.Ytcbeadldieeceaa

/-
  What stream.Records reads, in plain lists.
-/
namespace Go.Proofs.Ytcbeadldieeceaa
open Go.RowKit

structure RSt where
  at_ : Nat
  seen : Int
  next : Int
  sm : Sm
  out : List Rc
def RSt0 : RSt := ⟨0, 0, 0, Sm0, []⟩
def stepR (b : BS) (st : RSt) : Except (Nat × Int) RSt :=
  if b.length ≤ st.at_ then .error (b.length, 8)
  else if (parseL (b.drop st.at_)).2.2 ≠ 0 then .error (st.at_, (parseL (b.drop st.at_)).2.2)
  else if (afterL st.seen st.next (parseL (b.drop st.at_)).1).2.2 = false then .error (st.at_, 35)
  else if ((parseL (b.drop st.at_)).1.kind == 4 && !smB (parseL (b.drop st.at_)).1.sm st.sm) = true then .error (st.at_, 34)
  else .ok ⟨st.at_ + (parseL (b.drop st.at_)).2.1, (afterL st.seen st.next (parseL (b.drop st.at_)).1).1, (afterL st.seen st.next (parseL (b.drop st.at_)).1).2.1, feedL st.sm (words ((b.drop st.at_).take (parseL (b.drop st.at_)).2.1)), st.out ++ [(parseL (b.drop st.at_)).1]⟩
def recsGo (b : BS) : Nat → RSt → List Rc × Nat × Int
  | 0, _ => ([], 0, 0)
  | f + 1, st => if 2 ≤ st.seen then (if st.at_ = b.length then (st.out, st.at_, 0) else ([], st.at_, 35)) else
    match stepR b st with
    | .error (a, e) => ([], a, e)
    | .ok st' => recsGo b f st'
def recsL' (b : BS) : List Rc × Nat × Int := if 32768 < b.length then ([], 0, 5) else recsGo b (b.length + 1) RSt0
theorem recsGo_end (b : BS) (f : Nat) (st : RSt) (h : ¬ st.seen < 2) : recsGo b (f + 1) st = if st.at_ = b.length then (st.out, st.at_, 0) else ([], st.at_, 35) := by
  rw [recsGo, if_pos (by omega)]
theorem recsGo_bad (b : BS) (f : Nat) (st : RSt) (h : st.seen < 2) (a : Nat) (e : Int) (hs : stepR b st = .error (a, e)) : recsGo b (f + 1) st = ([], a, e) := by
  rw [recsGo, if_neg (by omega), hs]
theorem recsGo_ok (b : BS) (f : Nat) (st st' : RSt) (h : st.seen < 2) (hs : stepR b st = .ok st') : recsGo b (f + 1) st = recsGo b f st' := by
  rw [recsGo, if_neg (by omega), hs]
theorem afterL_in (s n : Int) (r : Rc) (hE : recE r = 0) (hn : 0 ≤ n ∧ n ≤ 1024) : (0 ≤ (afterL s n r).1 ∧ (afterL s n r).1 ≤ 2) ∧ (0 ≤ (afterL s n r).2.1 ∧ (afterL s n r).2.1 ≤ 1024) := by
  obtain ⟨hk, hm⟩ := recE_kind r hE
  unfold afterL
  rcases hk with h | h | h | h
  · rw [if_pos h]; simp
  · have := (mayB_2 r h hm).1
    rw [if_neg (by omega), if_pos h]
    simp only
    omega
  · have := (mayB_3 r h hm)
    rw [if_neg (by omega), if_neg (by omega), if_pos h]
    simp only
    omega
  · rw [if_neg (by omega), if_neg (by omega), if_neg (by omega)]
    simp only
    omega
theorem parse_len (b : BS) (r : Rc) (n : Nat) (h : parseL b = (r, n, 0)) : recE r = 0 ∧ 3 ≤ n ∧ n ≤ b.length := by
  obtain ⟨h1, _, h3, h4⟩ := parse_back b r n h
  have h5 := congrArg List.length h4
  rw [List.length_take] at h5
  have := (encL_len r h1).2
  exact ⟨h1, by omega, h3⟩
end Go.Proofs.Ytcbeadldieeceaa

/-
  stream.Records: its deferred call.
-/
namespace Go.Proofs.Ytcbeadldieeceaa
open Go.RowKit

set_option maxRecDepth 100000 in
set_option maxHeartbeats 2000000 in
theorem rec1_idle (pl pa pe : Addr) (w : World) :
    CallsD Try.prog 25 #[.pointer (some pl), .pointer (some pa), .pointer (some pe)] .returning w fun en u' w' =>
      en = .returned (.tuple #[]) ∧ u' = .returning ∧ w' = w.alloc (.cells #[.int .i64 0, .int .i64 0] 68) := by
  refine callsD_of_wpS Try.func25 rfl fun c₀ cs hu => ?_
  apply wpS_seq
  apply wpS_region
  simp [wpOpsS, go_sem, recoverD, hu, Try.ntmps25, Exit.thenS, assert_nil]
  apply wpS_seq
  apply wpS_region
  simp [wpOpsS, go_sem, Exit.thenS, Array.replicate]
  refine wpS_cond (t := false) (by simp [Act.eval]) ?_
  simp only [Bool.false_eq_true, if_false]
  refine wpS_of_wp (wp_skip ?_)
  cases c₀
  simp_all [bodyPostS, results, Try.results25]
set_option maxRecDepth 100000 in
set_option maxHeartbeats 2000000 in
theorem rec1_panicking (g : Nat) (vl : Value) (va ve : Int) (a e : Int) (older : List PanicEntry) (w : World) (hl : Blk w g 36 #[vl]) (ha : Blk w (g + 1) 3 #[.int .i64 va]) (he : Blk w (g + 1 + 1) 28 #[.int .i64 ve]) :
    CallsD Try.prog 25 #[.pointer (some ⟨g, 0, none⟩), .pointer (some ⟨g + 1, 0, none⟩), .pointer (some ⟨g + 1 + 1, 0, none⟩)] (.panicking ({ v := faultV a e, recovered := false } :: older)) w fun en u' w' =>
      en = .returned (.tuple #[]) ∧ u' = .panicking ({ v := faultV a e, recovered := true } :: older) ∧ Blk w' g 36 #[.slice none 0 0] ∧ Blk w' (g + 1) 3 #[.int .i64 a] ∧ Blk w' (g + 1 + 1) 28 #[.int .i64 e] ∧ Below g w w' := by
  refine callsD_of_wpS Try.func25 rfl fun c₀ cs hu => ?_
  apply wpS_seq
  apply wpS_region
  simp [wpOpsS, go_sem, recoverD, hu, Try.ntmps25, Exit.thenS, assert_fault]
  apply wpS_seq
  apply wpS_region
  simp [wpOpsS, go_sem, Exit.thenS, Array.replicate]
  refine wpS_cond (t := true) (by simp [Act.eval]) ?_
  simp only [if_true]
  have hb := (Below.refl w.heap.size w).alloc (Nat.le_refl _) (.cells #[.int .i64 a, .int .i64 e] 68)
  have hgl := hl.lt
  obtain ⟨q, hq⟩ : ∃ q, q = w.heap.size := ⟨_, rfl⟩
  obtain ⟨W1, hW1⟩ : ∃ W, W = w.alloc (.cells #[.int .i64 a, .int .i64 e] 68) := ⟨_, rfl⟩
  have kF : Blk W1 q 68 #[.int .i64 a, .int .i64 e] := by rw [hW1, hq]; exact Blk.new w _ _
  have kl : Blk W1 g 36 #[vl] := by rw [hW1]; exact hl.alloc _
  have ka : Blk W1 (g + 1) 3 #[.int .i64 va] := by rw [hW1]; exact ha.alloc _
  have ke : Blk W1 (g + 1 + 1) 28 #[.int .i64 ve] := by rw [hW1]; exact he.alloc _
  rw [← hW1] at hb
  rw [← hW1, ← hq]
  have hbg := hb.mono (Nat.le_of_lt hgl)
  have hlt : g + 1 + 1 < q := by rw [hq]; exact he.lt
  obtain ⟨p0, p1, _, _⟩ := blk2' kF
  have l0 : W1.cell? ⟨g, 0, none⟩ = some vl := kl.cell 0
  have l1 : W1.cell? ⟨g + 1, 0, none⟩ = some (.int .i64 va) := ka.cell 0
  have l2 : W1.cell? ⟨g + 1 + 1, 0, none⟩ = some (.int .i64 ve) := ke.cell 0
  have z0 := kl.frozen 0
  have z1 := ka.frozen 0
  have z2 := ke.frozen 0
  have kl2 := (((kl.set_ 0 (.slice none 0 0)).far (p := ⟨g + 1, 0, none⟩) (by simp) (.int .i64 a)).far (p := ⟨g + 1 + 1, 0, none⟩) (by simp only; omega) (.int .i64 e)).drew
  have ka2 := (((ka.far (p := ⟨g, 0, none⟩) (by simp) (.slice none 0 0)).set_ 0 (.int .i64 a)).far (p := ⟨g + 1 + 1, 0, none⟩) (by simp) (.int .i64 e)).drew
  have ke2 := (((ke.far (p := ⟨g, 0, none⟩) (by simp only; omega) (.slice none 0 0)).far (p := ⟨g + 1, 0, none⟩) (by simp) (.int .i64 a)).set_ 0 (.int .i64 e)).drew
  have hb2 := (((hbg.setCell (p := ⟨g, 0, none⟩) (Nat.le_refl _) (.slice none 0 0)).setCell (p := ⟨g + 1, 0, none⟩) (by simp) (.int .i64 a)).setCell (p := ⟨g + 1 + 1, 0, none⟩) (by simp only; omega) (.int .i64 e)).drew
  have HH := Lib.hid (show _ ∧ _ ∧ _ ∧ _ from ⟨kl2, ka2, ke2, hb2⟩)
  clear kl2 ka2 ke2 hb2 kF kl ka ke hbg hb hW1 hl ha he
  have n1 : ¬ q = g := by omega
  have n2 : ¬ q = g + 1 := by omega
  have n3 : ¬ q = g + 1 + 1 := by omega
  have n4 : ¬ g = q := by omega
  have n5 : ¬ g + 1 = q := by omega
  have n6 : ¬ g + 1 + 1 = q := by omega
  clear hq hlt hgl
  refine wpS_of_wp ?_
  go_region
  simp [bodyPostS, results, Try.results25]
  exact HH.out
end Go.Proofs.Ytcbeadldieeceaa

/-
  A drawn region whose operations read and make memory, and whose last one, behind all others, may do whatever it does.
-/
namespace Go.Proofs.Ytcbeadldieeceaa
open Go.RowKit

section
variable {P : Program} {ops : Array Oper}
def depsOf (ops : Array Oper) (i : Nat) : List Nat := match ops[i]? with
  | some o => (o.after.toList.filter fun e => Region.binds .any e).map (·.on)
  | none => []
def reachL (ops : Array Oper) : Nat → List Nat → List Nat
  | 0, l => l
  | f + 1, l => reachL ops f (l ++ (l.flatMap (depsOf ops)).filter fun i => !l.contains i).eraseDups
/-- all others stand ahead of the last one -/
def lastOk (ops : Array Oper) (L : Nat) : Bool := (List.range ops.size).all fun i => i == L || (reachL ops ops.size (depsOf ops L)).contains i
theorem reach_some {m : Nat → Option Value} (hcl : ∀ j o', ops[j]? = some o' → (m j).isSome = true → ∀ e ∈ o'.after, Region.binds .any e = true → (m e.on).isSome = true) (f : Nat) : ∀ l : List Nat, (∀ i ∈ l, (m i).isSome = true) → ∀ i ∈ reachL ops f l, (m i).isSome = true := by
  induction f with
  | zero => intro l h; exact h
  | succ f ih =>
    intro l h
    refine ih _ (fun i hi => ?_)
    rw [List.mem_eraseDups, List.mem_append] at hi
    rcases hi with hi | hi
    · exact h i hi
    · obtain ⟨hi, _⟩ := List.mem_filter.1 hi
      obtain ⟨j, hj, hij⟩ := List.mem_flatMap.1 hi
      unfold depsOf at hij
      cases ho : ops[j]? with
      | none => rw [ho] at hij; cases hij
      | some o =>
        rw [ho] at hij
        obtain ⟨e, he, rfl⟩ := List.mem_map.1 hij
        obtain ⟨he, hb⟩ := List.mem_filter.1 he
        exact hcl j o ho (h j hj) e (Array.mem_toList_iff.1 he) hb
theorem frameM_fill {a0 : Act} {m : Nat → Option Value} (h : regionOk ops a0.tmps.size = true) {i d : Nat} {o : Oper} (ho : ops[i]? = some o) (hd : o.dst = some d) (hm : m i = none) :
    frameM a0 ops m = frameM a0 ops (upd m i (a0.tmps[d]?.getD undef)) := by
  obtain ⟨h1, _⟩ := regionOk_spec h ho
  obtain ⟨hw, hlt⟩ := h1 d hd
  unfold frameM
  simp only [Act.mk.injEq, and_true]
  apply Array.ext
  · simp
  · intro k hk1 hk2
    simp only [Array.getElem_mapIdx]
    cases hw' : ownerOf ops k with
    | none => rfl
    | some j =>
      by_cases hji : j = i
      · subst hji
        obtain ⟨o', ho', hd'⟩ := ownerOf_spec hw'
        rw [ho] at ho'
        cases ho'
        rw [hd] at hd'
        cases hd'
        simp only [upd_self, hm, Option.getD_none, Option.getD_some]
        have hk : d < a0.tmps.size := hlt
        rw [Array.getElem?_eq_getElem hk]
        rfl
      · simp only [upd_ne m _ hji]
theorem wp_region_last {id : Nat} {a0 : Act} {w : World} {Q : Exit → Act → World → Prop} (L : Nat) (hm : P.follows .mixedOrders = true) (hok : regionOk ops a0.tmps.size = true) (hlo : lastOk ops L = true) (hLs : L < ops.size) (Gs : List (Value → World → Prop)) (hst : ∀ p ∈ Gs, Stays p)
    (hstep : ∀ i o, ops[i]? = some o → i ≠ L → ∀ (m : Nat → Option Value) (W : World), Below w.heap.size w W → m i = none → (∀ j o', ops[j]? = some o' → (m j).isSome = true → ∀ e ∈ o'.after, Region.binds .any e = true → (m e.on).isSome = true) → (∀ e ∈ o.after, Region.binds .any e = true → ∃ v, m e.on = some v ∧ Says Gs e.on v W) →
      ∀ (A : Act) (K : Act → World → Prop), A = frameM a0 ops m → (∀ v W', Below W.heap.size W W' → Says Gs i v W' → K (A.put o.dst v) W') → if Region.wanted o (yielded ops A.tmps) = true then o.wp P A W K Q else K (A.put o.dst undef) W)
    (hlast : ∀ o, ops[L]? = some o → ∀ (m : Nat → Option Value) (W : World), m L = none → Below w.heap.size w W → (∀ i, i < ops.size → i ≠ L → ∃ v, m i = some v ∧ Says Gs i v W) →
      ∀ (A : Act) (K : Act → World → Prop), A = frameM a0 ops m → (∀ d, o.dst = some d → A = frameM a0 ops (upd m L (a0.tmps[d]?.getD undef))) → (∀ v W', Q .normal (frameM a0 ops (upd m L v)) W' → K (A.put o.dst v) W') → if Region.wanted o (yielded ops A.tmps) = true then o.wp P A W K Q else K (A.put o.dst undef) W) :
    (Code.region id ops true).wp P Q a0 w := by
  have hsay : ∀ i v W W', Says Gs i v W → Below W.heap.size W W' → Says Gs i v W' := by
    intro i v W W' h hb
    unfold Says at h ⊢
    cases hG : Gs[i]? with
    | none => trivial
    | some p => rw [hG] at h; exact hst p (List.mem_of_getElem? hG) v W W' h hb
  refine wp_region_inv hm hok (fun m W => (m L = none ∧ Below w.heap.size w W ∧ (∀ i v, m i = some v → Says Gs i v W) ∧ (∀ j o', ops[j]? = some o' → (m j).isSome = true → ∀ e ∈ o'.after, Region.binds .any e = true → (m e.on).isSome = true)) ∨ ((∀ i, i < ops.size → (m i).isSome = true) ∧ Q .normal (frameM a0 ops m) W))
    (.inl ⟨rfl, (Below.refl _ _).drew, fun _ _ h => (by cases h), fun _ _ _ h => (by cases h)⟩) ?_ ?_
  · intro i o ho m W hJ hmi hdeps A K hA hK
    have his : i < ops.size := (Array.getElem?_eq_some_iff.1 ho).1
    rcases hJ with ⟨hL, hb, hs, hcl⟩ | ⟨hall, _⟩
    · by_cases hiL : i = L
      · subst hiL
        refine hlast o ho m W hmi hb (fun j hj hne => ?_) A K hA (fun d hd => hA.trans (frameM_fill hok ho hd hmi)) (fun v W' hQ => hK v W' (.inr ⟨fun j hj => ?_, hQ⟩))
        · have hr := reach_some hcl ops.size (depsOf ops i) (fun k hk => by
            unfold depsOf at hk
            rw [ho] at hk
            obtain ⟨e, he, rfl⟩ := List.mem_map.1 hk
            obtain ⟨he, hbi⟩ := List.mem_filter.1 he
            exact hdeps e (Array.mem_toList_iff.1 he) hbi)
          have h1 := List.all_eq_true.1 hlo j (List.mem_range.2 hj)
          simp only [Bool.or_eq_true, beq_iff_eq, List.contains_iff_mem] at h1
          rcases h1 with h1 | h1
          · exact absurd h1 hne
          · have h2 := hr j h1
            cases hmj : m j with
            | none => rw [hmj] at h2; cases h2
            | some v => exact ⟨v, rfl, hs j v hmj⟩
        · by_cases hji : j = i
          · subst hji; rw [upd_self]; rfl
          · rw [upd_ne m v hji]
            have hr := reach_some hcl ops.size (depsOf ops i) (fun k hk => by
              unfold depsOf at hk
              rw [ho] at hk
              obtain ⟨e, he, rfl⟩ := List.mem_map.1 hk
              obtain ⟨he, hbi⟩ := List.mem_filter.1 he
              exact hdeps e (Array.mem_toList_iff.1 he) hbi)
            have h1 := List.all_eq_true.1 hlo j (List.mem_range.2 hj)
            simp only [Bool.or_eq_true, beq_iff_eq, List.contains_iff_mem] at h1
            rcases h1 with h1 | h1
            · exact absurd h1 hji
            · exact hr j h1
      · refine hstep i o ho hiL m W hb hmi hcl (fun e he hbi => ?_) A K hA (fun v W' hbw hS => hK v W' (.inl ⟨by rw [upd_ne m v (Ne.symm hiL)]; exact hL, below_step hb hbw, fun j u hu => ?_, fun j o' ho' hj e he hbi => ?_⟩))
        · have := hdeps e he hbi
          cases hme : m e.on with
          | none => rw [hme] at this; cases this
          | some v => exact ⟨v, rfl, hs _ _ hme⟩
        · by_cases hji : j = i
          · subst hji; rw [upd_self] at hu; injection hu with hu; subst hu; exact hS
          · rw [upd_ne m v hji] at hu; exact hsay j u W W' (hs j u hu) hbw
        · by_cases hei : e.on = i
          · rw [hei, upd_self]; rfl
          · rw [upd_ne m v hei]
            by_cases hji : j = i
            · subst hji
              rw [ho] at ho'
              injection ho' with ho'
              subst ho'
              exact hdeps e he hbi
            · rw [upd_ne m v hji] at hj
              exact hcl j o' ho' hj e he hbi
    · have := hall i his
      rw [hmi] at this
      cases this
  · intro m W hJ hall
    rcases hJ with ⟨hL, _⟩ | ⟨_, hQ⟩
    · have := hall L hLs
      rw [hL] at this
      cases this
    · exact hQ
end
end Go.Proofs.Ytcbeadldieeceaa
