/-
  The page's Decode of an uberblock, by its contract.
-/
import Derived.Test.YtcchnoadclidcaaREnc
import Derived.Test.YtcchnoadclidcaaRNum
import Derived.Test.YtcchnoadclidcaaUDec
namespace Go.Proofs.Ytcchnoadclidcaa
open Go.RowKit

theorem numE_of_pos (b : List UInt8) (h : 1 ≤ numV b) : numE b = 0 := by
  unfold numV at h
  unfold numE
  split at h
  · omega
  · rename_i hn
    rw [if_neg (fun e => hn (.inl e)), if_neg (fun e => hn (.inr (.inl e))), if_neg (fun e => hn (.inr (.inr e)))]

set_option maxRecDepth 100000 in
set_option maxHeartbeats 1000000 in
theorem rdecode_any (b : List UInt8) (n : Nat) (hnb : n = b.length) (A : Option Addr) (c : Nat) (w : World) (B : Nat) (hr : Reads w B 1 A n (bts b)) (hB : B ≤ w.heap.size) (hc : n ≤ c) (hn : c ≤ 9223372036854775807) :
    Calls Try.prog 40 #[.slice A n c] w fun e w' => ((DecOk b ∧ e = .returned (.tuple #[(decU b).val, .int .i64 0])) ∨ (¬ DecOk b ∧ e = .returned (.tuple #[.agg #[.int .i64 0, .int .i64 0, .int .i64 0], .int .i64 21]))) ∧ Below w.heap.size w w' := by
  by_cases h64 : n = 64
  · subst h64
    have hdo := Lib.hid (fun (h1 : (decU b).ok) (h2 : encL (decU b) = b) => (⟨hnb.symm, h1, h2⟩ : DecOk b))
    obtain ⟨ad, rfl, _, _⟩ := hr.2 (by omega)
    have hcut : ∀ (f s : Nat), 0 < s → f + s ≤ 64 → ∀ W, Below w.heap.size w W → Reads W B 1 (some (ad.add f)) s (bts ((b.drop f).take s)) ∧ s = ((b.drop f).take s).length := by
      intro f s hs hfs W hb
      have hrW := hr.below (hb.mono hB)
      refine ⟨?_, by simp; omega⟩
      have h1 := hrW.cut (k := f) (cap := c) (by omega) hc
      rw [if_neg (by omega)] at h1
      simp only [Nat.mul_one, Option.map_some] at h1
      have h2 := h1.pre (k := s) (by omega)
      rw [Nat.mul_one, ← bts_drop, ← bts_take] at h2
      exact h2
    have k1 := fun W (hb : Below w.heap.size w W) => rnumber_any _ 8 (hcut 4 8 (by omega) (by omega) W hb).2 _ (c - 4) W B ((hcut 4 8 (by omega) (by omega) W hb).1) (by omega)
    have k2 := fun W (hb : Below w.heap.size w W) => rnumber_any _ 4 (hcut 12 4 (by omega) (by omega) W hb).2 _ (c - 12) W B ((hcut 12 4 (by omega) (by omega) W hb).1) (by omega)
    have k3 := fun W (hb : Below w.heap.size w W) => rnumber_any _ 4 (hcut 16 4 (by omega) (by omega) W hb).2 _ (c - 16) W B ((hcut 16 4 (by omega) (by omega) W hb).1) (by omega)
    have hE := Lib.hid (numE_of_pos ((b.drop 4).take 8))
    have HNB := Lib.hid hnb
    clear hnb hcut
    have hU := Lib.hid (show decU b = ⟨numV ((b.drop 4).take 8), numV ((b.drop 12).take 4), numV ((b.drop 16).take 4)⟩ from rfl)
    revert hdo k1 k2 k3 hE hU
    generalize numV ((b.drop 4).take 8) = t
    generalize numV ((b.drop 12).take 4) = f
    generalize numV ((b.drop 16).take 4) = o
    generalize numE ((b.drop 4).take 8) = t'
    generalize numE ((b.drop 12).take 4) = f'
    generalize numE ((b.drop 16).take 4) = o'
    intro hdo k1 k2 k3 hE hU
    have i4 : 4 < c := by omega
    have i12 : 12 < c := by omega
    have i16 : 16 < c := by omega
    have j12 : (12 : Int) ≤ (c : Int) := by omega
    have j16 : (16 : Int) ≤ (c : Int) := by omega
    have j20 : (20 : Int) ≤ (c : Int) := by omega
    go_enter Try.func40, Try.ntmps40
    go_wp2_with fail
    refine (k1 _ (by go_grown)).mono ?_
    rintro e w1 ⟨rfl, rfl⟩
    go_wp2_with fail
    refine (k2 _ (by go_grown)).mono ?_
    rintro e w1 ⟨rfl, rfl⟩
    go_wp2_with fail
    refine (k3 _ (by go_grown)).mono ?_
    rintro e w1 ⟨rfl, rfl⟩
    clear k1 k2 k3
    go_wp2_with fail
    by_cases hok : (⟨t, f, o⟩ : Ub).ok
    · obtain rfl : t' = 0 := hE.out hok.t.1
      clear hE
      refine (rencode_ok ⟨t, f, o⟩ hok _).mono ?_
      rintro e w1 ⟨v, rfl, hown, hb1⟩
      have kB0 : Blk w1 w.heap.size 56 #[.int .i64 0, .int .i64 0, .int .i64 0] := ((Blk.new w _ _).alloc _).below hb1 (by simp; omega)
      have kB1 : Blk w1 (w.heap.size + 1) 56 #[.int .i64 t, .int .i64 f, .int .i64 o] := by
        have := (Blk.new (w.alloc (.cells #[.int .i64 0, .int .i64 0, .int .i64 0] 56)) 56 #[.int .i64 t, .int .i64 f, .int .i64 o]).below hb1 (by simp)
        simpa using this
      have hbw : Below w.heap.size w w1 := (((Below.refl _ _).alloc (Nat.le_refl _) _).alloc (by simp) _).trans (hb1.mono (by simp; omega))
      obtain ⟨d0, d1, d2, f0, f1, f2⟩ := blk3 kB0
      obtain ⟨e0, e1, e2, x0, x1, x2⟩ := blk3 kB1
      clear kB0 kB1 hb1 x0 x1 x2
      obtain ⟨A2, c2, rfl, _, _, hr2⟩ := own_form hown
      have hs1 := str_of (P := Try.prog) (c := c2) hr2 (encL_length ⟨t, f, o⟩).symm Try.underlying25 Try.underlying5 Try.underlying9
      have hs2 := str_of (P := Try.prog) (c := c) (hr.below (hbw.mono hB)) HNB.out Try.underlying25 Try.underlying5 Try.underlying9
      clear hown hr2 hr
      by_cases heq : encL ⟨t, f, o⟩ = b
      · have hbq : (encL ⟨t, f, o⟩ == b) = true := by simpa using heq
        have hbq2 : (encL ⟨t, f, o⟩ != b) = false := by simpa using heq
        have HD := Lib.hid (hdo.out (by rw [hU.out]; exact hok) (by rw [hU.out]; exact heq))
        have HE := Lib.hid heq
        clear heq hdo hok
        go_wp2_with fail
        refine bodyPost_ret (v := .tuple #[.agg #[.int .i64 t, .int .i64 f, .int .i64 o], .int .i64 0]) (by simp [results, Try.results40, go_sem, d0, d1, d2]) rfl ⟨.inl ⟨HD.out, by rw [hU.out]; rfl⟩, ((hbw.setCell (Nat.le_refl _) _).setCell (Nat.le_refl _) _).setCell (Nat.le_refl _) _⟩
      · have hbq : (encL ⟨t, f, o⟩ == b) = false := by simpa using heq
        have hbq2 : (encL ⟨t, f, o⟩ != b) = true := by simpa using heq
        have HD := Lib.hid (show ¬ DecOk b from fun h => heq (by rw [← hU.out]; exact h.enc))
        clear heq hdo hok
        go_wp2_with fail
        refine bodyPost_ret (v := .tuple #[.agg #[.int .i64 0, .int .i64 0, .int .i64 0], .int .i64 21]) (by simp [results, Try.results40, go_sem, d0, d1, d2]) rfl ⟨.inr ⟨HD.out, rfl⟩, ((hbw.setCell (Nat.le_refl _) _).setCell (Nat.le_refl _) _).setCell (Nat.le_refl _) _⟩
    · refine (rencode_bad ⟨t, f, o⟩ hok _).mono ?_
      rintro e w1 ⟨rfl, hb1⟩
      have kB0 : Blk w1 w.heap.size 56 #[.int .i64 0, .int .i64 0, .int .i64 0] := ((Blk.new w _ _).alloc _).below hb1 (by simp; omega)
      have hbw : Below w.heap.size w w1 := (((Below.refl _ _).alloc (Nat.le_refl _) _).alloc (by simp) _).trans (hb1.mono (by simp; omega))
      obtain ⟨d0, d1, d2, f0, f1, f2⟩ := blk3 kB0
      have HD := Lib.hid (show ¬ DecOk b from fun h => hok (by rw [← hU.out]; exact h.ok))
      clear kB0 hb1 hok hdo hE
      by_cases h0 : t' = 0
      · subst h0
        go_wp2_with fail
        refine bodyPost_ret (v := .tuple #[.agg #[.int .i64 0, .int .i64 0, .int .i64 0], .int .i64 21]) (by simp [results, Try.results40, go_sem, d0, d1, d2]) rfl ⟨.inr ⟨HD.out, rfl⟩, ((hbw.setCell (Nat.le_refl _) _).setCell (Nat.le_refl _) _).setCell (Nat.le_refl _) _⟩
      · have h0' : (t' == 0) = false := by simp [h0]
        have h0'' : (t' != 0) = true := by simp [h0]
        go_wp2_with fail
        refine bodyPost_ret (v := .tuple #[.agg #[.int .i64 0, .int .i64 0, .int .i64 0], .int .i64 21]) (by simp [results, Try.results40, go_sem, d0, d1, d2]) rfl ⟨.inr ⟨HD.out, rfl⟩, ((hbw.setCell (Nat.le_refl _) _).setCell (Nat.le_refl _) _).setCell (Nat.le_refl _) _⟩
  · have e1 : ((n : Int) == 64) = false := by simp; omega
    have e2 : ((n : Int) != 64) = true := by simp; omega
    have e3 : ¬ (n : Int) = 64 := by omega
    have hno : ¬ DecOk b := fun h => h64 (hnb.trans h.len)
    clear hnb
    go_enter Try.func40, Try.ntmps40
    go_wp2_with fail
    refine bodyPost_ret (v := .tuple #[.agg #[.int .i64 0, .int .i64 0, .int .i64 0], .int .i64 21]) (by simp [results, Try.results40, go_sem]) rfl ⟨.inr ⟨hno, rfl⟩, (Below.refl _ _).alloc (Nat.le_refl _) _⟩
end Go.Proofs.Ytcchnoadclidcaa
