/-
  The page's Page, by its contract.
-/
import Derived.Test.YtcchnoadclidcaaRPut2
import Derived.Test.YtcchnoadclidcaaPgEnc
import Derived.Test.YtcchnoadclidcaaSumO
import Derived.Test.YtcchnoadclidcaaRFeed
namespace Go.Proofs.Ytcchnoadclidcaa
open Go.RowKit

theorem rfeed_n3 (s : Sm) (b : List UInt8) (n : Nat) (hnb : n = b.length) (A : Option Addr) (c : Nat) (w : World) (B : Nat) (hr : Reads w B 1 A n (bts b)) (hB : B ≤ w.heap.size) (hn : n ≤ 140737488351232) :
    Calls Try.prog 30 #[s.val, .slice A n c] w fun e w' => e = .returned (feedL s (words b)).val ∧ Below w.heap.size w w' := by
  subst hnb
  exact rfeed_any s b A c w B hr hB hn

set_option maxRecDepth 100000 in
theorem rPage_long (n : Nat) (A : Option Addr) (c : Nat) (next : Int) (w : World) (h : 52 < n) : Calls Try.prog 47 #[.slice A n c, .int .i64 next] w (PgBad w 5) := by
  have h1 : (52 : Int) < (n : Int) := by omega
  go_enter Try.func47, Try.ntmps47
  go_wp2_with fail
  go_ret2
  exact ⟨rfl, rfl⟩
set_option maxRecDepth 100000 in
theorem rPage_range (n : Nat) (A : Option Addr) (c : Nat) (next : Int) (w : World) (h : n ≤ 52) (hx : next < 0 ∨ 8192 ≤ next) : Calls Try.prog 47 #[.slice A n c, .int .i64 next] w (PgBad w 4) := by
  have h1 : (n : Int) ≤ 52 := by omega
  rcases hx with hx | hx
  · go_enter Try.func47, Try.ntmps47
    go_wp2_with fail
    go_ret2
    exact ⟨rfl, rfl⟩
  · have h2 : ¬ next < 0 := by omega
    go_enter Try.func47, Try.ntmps47
    go_wp2_with fail
    go_ret2
    exact ⟨rfl, rfl⟩

theorem octL_sumA (p : List UInt8) (a b c d : Int) (h : (⟨a, b, c, d⟩ : Sm) = feedL ⟨0, 0, 0, 0⟩ (words p)) : (octL a b c d).take 8 = sumA p := by
  unfold sumA
  rw [← h]
  unfold octL
  have h8 := putL_length (IntKind.i64.wrap a) 8
  rw [List.take_append_of_le_length (by omega), List.take_of_length_le (by omega)]

set_option maxRecDepth 100000 in
set_option maxHeartbeats 1000000 in
theorem rPage_ok (b : List UInt8) (n : Nat) (hnb : n = b.length) (A : Option Addr) (c : Nat) (next : Int) (w : World) (B : Nat) (hr : Reads w B 1 A n (bts b)) (hB : B ≤ w.heap.size) (h52 : n ≤ 52) (h0 : 0 ≤ next) (h1 : next < 8192) :
    Calls Try.prog 47 #[.slice A n c, .int .i64 next] w fun e w' => ∃ v, e = .returned (.tuple #[v, .int .i64 0]) ∧ w'.ownsRow w.heap.size 5 1 v 64 (bts (pageL b next)) ∧ Below w.heap.size w w' := by
  obtain ⟨i0, hi0, hz0, hz1, hz2⟩ := info_parts Try.infoU8'
  obtain ⟨q, hq⟩ : ∃ q, q = 52 - n := ⟨_, rfl⟩
  have hnq : n + q = 52 := by omega
  have HL := Lib.hid (pgBody_length b n q next hnb hnq)
  have HP := Lib.hid (show pageL b next = pgBody b n q next ++ sumA (pgBody b n q next) by rw [hq, hnb]; rfl)
  have HN := Lib.hid hnb
  have hi : (n : Int) ≤ 52 := by omega
  clear hnb hq
  go_enter Try.func47, Try.ntmps47
  go_wp2_with fail
  refine (rput2_any (n : Int) _).mono ?_
  rintro e w1 ⟨v1, rfl, hown1, hb1⟩
  go_wp2_with fail
  refine (rput2_any next _).mono ?_
  rintro e w2 ⟨v2, rfl, hown2, hb2⟩
  have hown1' := own_below hown1 hb2
  have hb12 := below_step hb1 hb2
  obtain ⟨A2, c2, rfl, _, _, hr2⟩ := own_form hown2
  have hrb := hr.below (hb12.mono hB)
  clear hown1 hown2 hb1 hb2 hr
  go_wp2_with (first
    | (at_builtin; (refine wpList_append_any _ rfl (.tmp 19) (.tmp 21) _ rfl w.heap.size 5 i0 _ 1 1 Try.underlying25 hi0 hz0 hz1 hz2 rfl (by omega) v1 2 _ rfl hown1' w2.heap.size A2 2 c2 _ rfl hr2 (bts_one _) (by unfold maxLen; omega) (by omega) hb12.size ?_); intro v3 w3 hown3 hg3 _; have hrb3 := hrb.grown hg3 (Nat.le_trans hB hb12.size) (fun j hj => Nat.le_trans hB (hown1'.lt j hj).1); have hb3 := hb12.grown hg3 hb12.size (fun j hj => (hown1'.lt j hj).1); clear hg3 hrb hb12 hown1')
    | (at_builtin; (refine wpList_append_any _ rfl (.tmp 22) (.tmp 23) _ rfl w.heap.size 5 i0 _ 1 1 Try.underlying25 hi0 hz0 hz1 hz2 rfl (by omega) v3 4 _ rfl hown3 B A n c _ rfl hrb3 (bts_one _) (by unfold maxLen; omega) (by omega) hb3.size ?_); intro v4 w4 hown4 hg4 _; have hb4 := hb3.grown hg4 hb3.size (fun j hj => (hown3.lt j hj).1); clear hg4 hrb3 hb3 hown3))
  have hown4' : w4.ownsRow w.heap.size 5 1 v4 (4 + n) (bts (putL (n : Int) 2 ++ putL next 2 ++ b ++ List.replicate (4 + n - (4 + n)) 0)) := by simpa [bts_append] using hown4
  clear hown4 hr2
  go_loopw [6] (fun v wr => ∃ m : Nat, 4 + n ≤ m ∧ m ≤ 56 ∧ wr.ownsRow w.heap.size 5 1 v m (bts (putL (n : Int) 2 ++ putL next 2 ++ b ++ List.replicate (m - (4 + n)) 0)) ∧ Below w.heap.size w wr) (fun v _ => match v with | .slice _ n _ => 56 - n | _ => 0)
  case atStart => exact ⟨4 + n, by omega, by omega, hown4', hb4⟩
  case round =>
    obtain ⟨m, hm1, hm2, hown, hbr⟩ := hrel
    obtain ⟨A, c, rfl, hc1, hc2, hr⟩ := own_form hown
    by_cases hlt : m < 56
    · have hni : (m : Int) < 56 := by omega
      go_wp2_with (at_builtin; (refine wpList_push _ rfl (.tmp 28) (.tmp 29) _ rfl w.heap.size 5 i0 _ 1 1 Try.underlying25 hi0 hz0 hz1 hz2 rfl (by omega) _ m _ rfl hown 1 _ _ rfl rfl (by simp [Value.oneCell']) (by unfold maxLen; omega) (by omega) hbr.size ?_); intro v2 w2 hown2 hb2 _)
      obtain ⟨A2, c2, rfl, _, _, _⟩ := own_form hown2
      go_roundw
      case rel => exact ⟨m + 1, by omega, by omega, by
        have e : List.replicate (m + 1 - (4 + n)) (0 : UInt8) = List.replicate (m - (4 + n)) 0 ++ [0] := by rw [show m + 1 - (4 + n) = (m - (4 + n)) + 1 by omega, List.replicate_succ']
        rw [e, ← List.append_assoc, bts_append]
        exact hown2, hbr.trans hb2⟩
      case measure => simp only []; omega
    · obtain rfl : m = 56 := by omega
      have hbo : putL (n : Int) 2 ++ putL next 2 ++ b ++ List.replicate (56 - (4 + n)) 0 = pgBody b n q next := by
        rw [show 56 - (4 + n) = q by omega]
        simp [pgBody, pgLs]
      rw [hbo] at hown hr
      clear hbo hown4' hb4
      go_wp2_with fail
      refine (rfeed_n3 ⟨0, 0, 0, 0⟩ (pgBody b n q next) 56 HL.out.symm A c _ _ hr (Nat.le_refl _) (by omega)).mono ?_
      rintro e w4 ⟨rfl, hb4⟩
      have hfo := feed_ok ⟨0, 0, 0, 0⟩ zero_ok (words (pgBody b n q next))
      obtain ⟨⟨pa, pb, pc, pd⟩, hp⟩ : ∃ s, s = feedL ⟨0, 0, 0, 0⟩ (words (pgBody b n q next)) := ⟨_, rfl⟩
      have HS := Lib.hid (octL_sumA _ pa pb pc pd hp)
      rw [← hp] at hfo ⊢
      have hso := sumOctets_any ⟨pa, pb, pc, pd⟩ hfo w4
      simp only [Sm.val] at hso ⊢
      have hown4 := own_below hown hb4
      have hbr4 := hbr.trans (hb4.mono hbr.size)
      clear hp hfo hown hr hb4
      go_wp2_with fail
      refine hso.mono ?_
      clear hso
      rintro e w5 ⟨v5, rfl, hown5, hb5⟩
      obtain ⟨A5, c5, rfl, hc5, hcm5, hr5⟩ := own_form hown5
      have hown6 := own_below hown4 hb5
      have hbr5 := hbr4.trans (hb5.mono hbr4.size)
      have hr8 := hr5.pre (k := 8) (by omega)
      rw [Nat.mul_one, ← bts_take, HS.out] at hr8
      have i8 : (8 : Int) ≤ (c5 : Int) := by omega
      clear hown4 hown5 hbr4 hb5 hr5
      unfold maxLen at hcm5
      obtain ⟨ad5, rfl, _, _⟩ := hr8.2 (by omega)
      go_wp2_with (at_builtin; (refine wpList_append_any _ rfl (.tmp 35) (.tmp 37) _ rfl w.heap.size 5 i0 _ 1 1 Try.underlying25 hi0 hz0 hz1 hz2 rfl (by omega) _ 56 _ rfl hown6 w5.heap.size (some ad5) 8 c5 _ rfl hr8 (bts_one _) (by unfold maxLen; omega) (by omega) hbr5.size ?_); intro v7 w7 hown7 hg7 hat7)
      have hbr7 := hbr5.grown hg7 hbr5.size (fun j hj => (hown6.lt j hj).1)
      clear hown6 hg7 hat7 hr8
      go_ret2
      refine ⟨v7, rfl, ?_, hbr7⟩
      rw [HP.out, bts_append]
      exact hown7
end Go.Proofs.Ytcchnoadclidcaa
