/-
  The plain law of pages: a page is read back; one octet that is another one is told; the chunks of a text join to it.
-/
import Derived.Test.YtcchnoadclidcaaPgDec
import Derived.Test.YtcchnoadclidcaaUberLaw
namespace Go.Proofs.Ytcchnoadclidcaa
open Go.RowKit

theorem pageL_eq (b : List UInt8) (next : Int) : pageL b next = putL (b.length : Int) 2 ++ (putL next 2 ++ (b ++ (List.replicate (52 - b.length) 0 ++ sumA (pgBody b b.length (52 - b.length) next)))) := by
  simp [pageL, pgBody, pgLs]
theorem page_back (b : List UInt8) (next : Int) (hb : b.length ≤ 52) (h0 : 0 ≤ next) (h1 : next < 8192) : PDecOk (pageL b next) ∧ pay (pageL b next) = b ∧ pgX (pageL b next) = next ∧ pgN (pageL b next) = b.length := by
  have hl := pageL_length b next hb
  have e1 : (pageL b next).take 2 = putL (b.length : Int) 2 := by rw [pageL_eq, List.take_left' (putL_length _ _)]
  have e2 : ((pageL b next).drop 2).take 2 = putL next 2 := by rw [pageL_eq, List.drop_left' (putL_length _ _), List.take_left' (putL_length _ _)]
  have hn : pgN (pageL b next) = b.length := by
    unfold pgN
    rw [e1, numV2 _ (by omega)]
    omega
  have hx : pgX (pageL b next) = next := by unfold pgX; rw [e2, numV2 _ (by omega)]
  have hp : pay (pageL b next) = b := by
    unfold pay
    rw [hn, pageL_eq, ← List.append_assoc, List.drop_left' (by simp [putL_length]), List.take_left' rfl]
  exact ⟨⟨hl, by rw [hn]; exact hb, by rw [hx]; exact h1, by rw [hp, hx]⟩, hp, hx, hn⟩
theorem sumA_inj (p q : List UInt8) (h : sumA p = sumA q) : (feedL ⟨0, 0, 0, 0⟩ (words p)).a = (feedL ⟨0, 0, 0, 0⟩ (words q)).a := by
  have hs := (feed_ok ⟨0, 0, 0, 0⟩ zero_ok (words p)).a
  have ht := (feed_ok ⟨0, 0, 0, 0⟩ zero_ok (words q)).a
  unfold sumA at h
  generalize (feedL ⟨0, 0, 0, 0⟩ (words p)).a = sa at *
  generalize (feedL ⟨0, 0, 0, 0⟩ (words q)).a = ta at *
  have e1 := numN8e (IntKind.i64.wrap sa)
  have e2 := numN8e (IntKind.i64.wrap ta)
  rw [h] at e1
  generalize (numN (putL (IntKind.i64.wrap ta) 8) : Int) = N at e1 e2
  rw [IntKind.wrap_i64] at e1 e2
  omega
theorem page_spoilt (b : List UInt8) (next : Int) (hb : b.length ≤ 52) (q : Nat) (y : UInt8) (hq : q < 64) (hy : y ≠ (pageL b next).getD q 0) : ¬ PDecOk ((pageL b next).set q y) := by
  intro h
  have henc := h.enc
  have hp52 : (pay ((pageL b next).set q y)).length ≤ 52 := by
    unfold pay
    rw [List.length_take]
    have := h.n
    omega
  revert henc hp52
  generalize pay ((pageL b next).set q y) = b'
  generalize pgX ((pageL b next).set q y) = x'
  intro henc hp52
  have hl1 := pgBody_length b b.length (52 - b.length) next rfl (by omega)
  have hl2 := pgBody_length b' b'.length (52 - b'.length) x' rfl (by omega)
  have hbd : pgBody b' b'.length (52 - b'.length) x' = ((pageL b next).set q y).take 56 := by
    rw [← henc]; unfold pageL; rw [List.take_left' hl2]
  have hsum : sumA (pgBody b' b'.length (52 - b'.length) x') = ((pageL b next).set q y).drop 56 := by
    rw [← henc]; unfold pageL; rw [List.drop_left' hl2]
  have hlen := pageL_length b next hb
  by_cases h56 : 56 ≤ q
  · have hb2 : pgBody b' b'.length (52 - b'.length) x' = pgBody b b.length (52 - b.length) next := by
      rw [hbd, List.take_set_of_le h56]; unfold pageL; rw [List.take_left' hl1]
    have he : pageL b' x' = pageL b next := by
      show pgBody b' b'.length (52 - b'.length) x' ++ sumA (pgBody b' b'.length (52 - b'.length) x') = _
      rw [hb2]; rfl
    rw [he] at henc
    apply hy
    have := congrArg (fun l => l.getD q 0) henc
    simp only [setB_get _ _ _ _ (show q < (pageL b next).length by omega), if_pos] at this
    exact this.symm
  · have hb2 : pgBody b' b'.length (52 - b'.length) x' = (pgBody b b.length (52 - b.length) next).set q y := by
      rw [hbd]
      unfold pageL
      rw [List.set_append_left _ _ (by omega), List.take_left' (by rw [List.length_set]; exact hl1)]
    have hs2 : sumA (pgBody b' b'.length (52 - b'.length) x') = sumA (pgBody b b.length (52 - b.length) next) := by
      rw [hsum]
      unfold pageL
      rw [List.set_append_left _ _ (by omega), List.drop_left' (by rw [List.length_set]; exact hl1)]
    rw [hb2] at hs2
    have ha := sumA_inj _ _ hs2
    refine one_octet _ q y (by omega) ?_ ha
    intro e
    apply hy
    rw [e]
    unfold pageL
    simp only [List.getD_eq_getElem?_getD]
    rw [List.getElem?_append_left (by omega)]
end Go.Proofs.Ytcchnoadclidcaa
