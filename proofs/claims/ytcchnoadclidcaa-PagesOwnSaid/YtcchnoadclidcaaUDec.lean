/-
  uber.Decode, by its contract.
-/
import Derived.Test.YtcchnoadclidcaaUEnc
import Derived.Test.YtcchnoadclidcaaUber2
namespace Go.Proofs.Ytcchnoadclidcaa
open Go.RowKit

def decU (b : List UInt8) : Ub := ⟨numV ((b.drop 4).take 8), numV ((b.drop 12).take 4), numV ((b.drop 16).take 4)⟩
structure DecOk (b : List UInt8) : Prop where
  len : b.length = 64
  ok : (decU b).ok
  enc : encL (decU b) = b

set_option maxRecDepth 100000 in
set_option maxHeartbeats 1000000 in
theorem decode_any (b : List UInt8) (n : Nat) (hnb : n = b.length) (A : Option Addr) (c : Nat) (w : World) (B : Nat) (hr : Reads w B 1 A n (bts b)) (hB : B ≤ w.heap.size) (hc : n ≤ c) (hn : c ≤ 9223372036854775807) :
    Calls Try.prog 39 #[.slice A n c] w fun e w' => ((DecOk b ∧ e = .returned (.tuple #[(decU b).val, .int .i64 0])) ∨ (¬ DecOk b ∧ e = .returned (.tuple #[.agg #[.int .i64 0, .int .i64 0, .int .i64 0], .int .i64 21]))) ∧ Below w.heap.size w w' := by
  by_cases h64 : n = 64
  · subst h64
    have hdo := Lib.hid (fun (h1 : (decU b).ok) (h2 : encL (decU b) = b) => (⟨hnb.symm, h1, h2⟩ : DecOk b))
    have k1 := fun W (hb : Below w.heap.size w W) => numberAt_any b 64 hnb A c 4 8 (by omega) (by omega) (by omega) hc hn W B (hr.below (hb.mono hB))
    have k2 := fun W (hb : Below w.heap.size w W) => numberAt_any b 64 hnb A c 12 4 (by omega) (by omega) (by omega) hc hn W B (hr.below (hb.mono hB))
    have k3 := fun W (hb : Below w.heap.size w W) => numberAt_any b 64 hnb A c 16 4 (by omega) (by omega) (by omega) hc hn W B (hr.below (hb.mono hB))
    have HNB := Lib.hid hnb
    clear hnb
    have hU := Lib.hid (show decU b = ⟨numV ((b.drop 4).take 8), numV ((b.drop 12).take 4), numV ((b.drop 16).take 4)⟩ from rfl)
    have hbd : Hid (∀ x ∈ [numV ((b.drop 4).take 8), numV ((b.drop 12).take 4), numV ((b.drop 16).take 4)], True) := fun _ _ => trivial
    clear hbd
    revert hdo k1 k2 k3 hU
    generalize numV ((b.drop 4).take 8) = t
    generalize numV ((b.drop 12).take 4) = f
    generalize numV ((b.drop 16).take 4) = o
    intro hdo k1 k2 k3 hU
    go_enter Try.func39, Try.ntmps39
    go_wp2_with fail
    refine (k1 _ (by go_grown)).mono ?_
    rintro e w1 ⟨rfl, rfl⟩
    go_wp2_with fail
    refine (k2 _ (by go_grown)).mono ?_
    rintro e w1 ⟨rfl, rfl⟩
    go_wp2_with fail
    refine (k3 _ (by go_grown)).mono ?_
    rintro e w1 ⟨rfl, rfl⟩
    clear k1 k2 k3
    go_wp2_with fail
    by_cases hok : (⟨t, f, o⟩ : Ub).ok
    · refine (encode_ok ⟨t, f, o⟩ hok _).mono ?_
      rintro e w1 ⟨v, rfl, hown, hb1⟩
      have kB0 : Blk w1 w.heap.size 56 #[.int .i64 0, .int .i64 0, .int .i64 0] := ((Blk.new w _ _).alloc _).below hb1 (by simp; omega)
      have kB1 : Blk w1 (w.heap.size + 1) 56 #[.int .i64 t, .int .i64 f, .int .i64 o] := by
        have := (Blk.new (w.alloc (.cells #[.int .i64 0, .int .i64 0, .int .i64 0] 56)) 56 #[.int .i64 t, .int .i64 f, .int .i64 o]).below hb1 (by simp)
        simpa using this
      have hbw : Below w.heap.size w w1 := (((Below.refl _ _).alloc (Nat.le_refl _) _).alloc (by simp) _).trans (hb1.mono (by simp; omega))
      obtain ⟨d0, d1, d2, f0, f1, f2⟩ := blk3 kB0
      obtain ⟨e0, e1, e2, x0, x1, x2⟩ := blk3 kB1
      clear kB0 kB1 hb1 x0 x1 x2
      obtain ⟨A2, c2, rfl, _, _, hr2⟩ := own_form hown
      have hq := equal_any b (encL ⟨t, f, o⟩) 64 64 HNB.out (encL_length _).symm A A2 c c2 w1 B _ (hr.below (hbw.mono hB)) hr2
      clear hown hr2 hr
      by_cases heq : b = encL ⟨t, f, o⟩
      · have hbq : (b == encL ⟨t, f, o⟩) = true := by simpa using heq
        rw [hbq] at hq
        have HD := Lib.hid (hdo.out (by rw [hU.out]; exact hok) (by rw [hU.out]; exact heq.symm))
        clear hbq heq hdo
        go_wp2_with fail
        refine hq.mono ?_
        clear hq
        rintro e w2 ⟨rfl, rfl⟩
        go_wp2_with fail
        refine bodyPost_ret (v := .tuple #[.agg #[.int .i64 t, .int .i64 f, .int .i64 o], .int .i64 0]) (by simp [results, Try.results39, go_sem, d0, d1, d2]) rfl ⟨.inl ⟨HD.out, by rw [hU.out]; rfl⟩, ((hbw.setCell (Nat.le_refl _) _).setCell (Nat.le_refl _) _).setCell (Nat.le_refl _) _⟩
      · have hbq : (b == encL ⟨t, f, o⟩) = false := by simpa using heq
        rw [hbq] at hq
        have HD := Lib.hid (show ¬ DecOk b from fun h => heq (by rw [← hU.out]; exact h.enc.symm))
        clear hbq heq hdo
        go_wp2_with fail
        refine hq.mono ?_
        clear hq
        rintro e w2 ⟨rfl, rfl⟩
        go_wp2_with fail
        refine bodyPost_ret (v := .tuple #[.agg #[.int .i64 0, .int .i64 0, .int .i64 0], .int .i64 21]) (by simp [results, Try.results39, go_sem, d0, d1, d2]) rfl ⟨.inr ⟨HD.out, rfl⟩, ((hbw.setCell (Nat.le_refl _) _).setCell (Nat.le_refl _) _).setCell (Nat.le_refl _) _⟩
    · refine (encode_bad ⟨t, f, o⟩ hok _).mono ?_
      rintro e w1 ⟨rfl, hb1⟩
      have kB0 : Blk w1 w.heap.size 56 #[.int .i64 0, .int .i64 0, .int .i64 0] := ((Blk.new w _ _).alloc _).below hb1 (by simp; omega)
      have hbw : Below w.heap.size w w1 := (((Below.refl _ _).alloc (Nat.le_refl _) _).alloc (by simp) _).trans (hb1.mono (by simp; omega))
      obtain ⟨d0, d1, d2, f0, f1, f2⟩ := blk3 kB0
      have HD := Lib.hid (show ¬ DecOk b from fun h => hok (by rw [← hU.out]; exact h.ok))
      clear kB0 hb1 hok hdo
      go_wp2_with fail
      refine bodyPost_ret (v := .tuple #[.agg #[.int .i64 0, .int .i64 0, .int .i64 0], .int .i64 21]) (by simp [results, Try.results39, go_sem, d0, d1, d2]) rfl ⟨.inr ⟨HD.out, rfl⟩, ((hbw.setCell (Nat.le_refl _) _).setCell (Nat.le_refl _) _).setCell (Nat.le_refl _) _⟩
  · have e1 : ((n : Int) == 64) = false := by simp; omega
    have e2 : ((n : Int) != 64) = true := by simp; omega
    have e3 : ¬ (n : Int) = 64 := by omega
    have hno : ¬ DecOk b := fun h => h64 (hnb.trans h.len)
    clear hnb
    go_enter Try.func39, Try.ntmps39
    go_wp2_with fail
    refine bodyPost_ret (v := .tuple #[.agg #[.int .i64 0, .int .i64 0, .int .i64 0], .int .i64 21]) (by simp [results, Try.results39, go_sem]) rfl ⟨.inr ⟨hno, rfl⟩, (Below.refl _ _).alloc (Nat.le_refl _) _⟩
end Go.Proofs.Ytcchnoadclidcaa
