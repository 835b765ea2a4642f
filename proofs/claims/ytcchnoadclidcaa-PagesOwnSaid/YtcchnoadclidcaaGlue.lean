/-
  pages.Glue at a text's pages, and at a sector that is no page, by its contract.
-/
import Derived.Test.YtcchnoadclidcaaPgCut
import Derived.Test.YtcchnoadclidcaaPgBoth
namespace Go.Proofs.Ytcchnoadclidcaa
open Go.RowKit

theorem take_chunk (b : List UInt8) (k : Nat) : b.take (52 * (k + 1)) = b.take (52 * k) ++ chunkL b k := by
  rw [show 52 * (k + 1) = 52 * k + 52 by omega, List.take_add]
  rfl

set_option maxRecDepth 100000 in
set_option maxHeartbeats 1000000 in
theorem glue_ok (b : List UInt8) (n : Nat) (hnb : n = b.length) (hn : n ≤ 140737488351232) (M : Nat) (hM : M = (n + 51) / 52) (A : Option Addr) (c : Nat) (w : World) (ys : List Value) (base : Nat) (hr : Reads w w.heap.size 1 A M ys) (hrows : PgRows w base b (List.range M) ys) :
    Calls Try.prog 55 #[.slice A M c] w fun e w' => ∃ v, e = .returned (.tuple #[v, .int .i64 0]) ∧ w'.ownsRow w.heap.size 5 1 v n (bts b) ∧ Below w.heap.size w w' := by
  obtain ⟨i0, hi0, hz0, hz1, hz2⟩ := info_parts Try.infoU8'
  have HN := Lib.hid hnb
  have HM := Lib.hid hM
  have hMb : M ≤ 140737488351232 := by omega
  clear hnb hM
  go_enter Try.func55, Try.ntmps55
  go_wp2_with fail
  go_loopw [4, 12] (fun o i wr => ∃ k m : Nat, k ≤ M ∧ i = .int .i64 (k : Int) ∧ Hid (m = (b.take (52 * k)).length) ∧ wr.ownsRow w.heap.size 5 1 o m (bts (b.take (52 * k))) ∧ Below w.heap.size w wr) (fun _ i _ => M - (intOf i).toNat)
  case atStart => exact ⟨0, 0, Nat.zero_le _, rfl, (show _ = _ by simp), World.ownsRow_nil _ _ _ _, Below.refl _ _⟩
  case round =>
    obtain ⟨k, m, hk, rfl, hm, hown, hbw⟩ := hrel
    by_cases hlt : k < M
    · obtain ⟨ad, u, rfl, _, hu, hcu⟩ := (hr.below hbw).at_ hlt
      have hpg := hrows.2 k u k hu (by rw [List.getElem?_range hlt])
      obtain ⟨A1, c1, rfl, hc1, hm1, hr1⟩ := own_form hpg
      have hch : (chunkL b k).length ≤ 52 := by rw [chunkL_length]; omega
      obtain ⟨hok, hpay, hpx, hpn⟩ := page_back (chunkL b k) 0 hch (by omega) (by omega)
      have hde := pgDecode_any (pageL (chunkL b k) 0) 64 (pageL_length _ _ hch).symm A1 c1 wr w.heap.size (hr1.below hbw) hbw.size hc1 (by unfold maxLen at hm1; exact hm1)
      have hki : (k : Int) < (M : Int) := by omega
      have hcl := chunkL_length b k
      rw [← HN.out] at hcl
      have hml : m = min (52 * k) n := by rw [hm.out, List.length_take, ← HN.out]
      have hsum : m + (chunkL b k).length ≤ 140737488351232 := by omega
      have HTC := Lib.hid (take_chunk b k)
      have HOK := Lib.hid hok
      have HPAY := Lib.hid hpay
      have HPX := Lib.hid hpx
      have HPN := Lib.hid hpn
      clear hu hpg hr1 hr hok hpay hpx hpn hch hcl hml
      obtain ⟨q, hq⟩ : ∃ q, q = (chunkL b k).length := ⟨_, rfl⟩
      rw [← hq] at hsum
      have HQ := Lib.hid hq
      clear hq
      go_wp2_with fail
      refine hde.mono ?_
      clear hde
      rintro e w2 ⟨⟨_, v2, rfl, hown2⟩ | ⟨hno, _⟩, hb2⟩
      · rw [HPX.out]
        rw [HPN.out, HPAY.out, ← HQ.out] at hown2
        obtain ⟨A2, c2, rfl, _, _, hr2⟩ := own_form hown2
        have hown3 := own_below hown hb2
        have hbw2 := hbw.trans (hb2.mono hbw.size)
        clear hown2 hown hbw hb2
        go_wp2_with (at_builtin; (refine wpList_append_any _ rfl (.tmp 28) (.tmp 29) _ rfl w.heap.size 5 i0 _ 1 1 Try.underlying25 hi0 hz0 hz1 hz2 rfl (by omega) _ m _ rfl hown3 w2.heap.size A2 q c2 _ rfl hr2 (bts_one _) (by unfold maxLen; omega) (by omega) hbw2.size ?_); intro v4 w4 hown4 hg4 _; have hb4 := hbw2.grown hg4 hbw2.size (fun j hj => (hown3.lt j hj).1); clear hg4 hown3)
        go_roundw
        case rel => exact ⟨k + 1, m + q, by omega, by go_num, (show _ = _ by rw [HTC.out, List.length_append, ← hm.out, ← HQ.out]), by rw [HTC.out, bts_append]; exact hown4, hb4⟩
        case measure => simp [intOf]; omega
      · exact absurd HOK.out hno
    · obtain rfl : k = M := by omega
      have hall : b.take (52 * k) = b := List.take_of_length_le (by rw [← HN.out]; have := HM.out; omega)
      rw [hall] at hown hm
      have HMM := Lib.hid (show m = n by rw [hm.out, HN.out])
      rw [HMM.out] at hown
      clear hr hrows hall
      go_wp2_with fail
      go_ret2
      exact ⟨_, rfl, hown, hbw⟩

set_option maxRecDepth 100000 in
set_option maxHeartbeats 1000000 in
theorem glue_bad (s : List UInt8) (hno : ¬ PDecOk s) (n : Nat) (hns : n = s.length) (A1 : Option Addr) (c1 : Nat) (w : World) (g : Nat) (hg : Blk w g 25 #[.slice A1 n c1]) (hr : Reads w w.heap.size 1 A1 n (bts s)) (hc : n ≤ c1) (hcm : c1 ≤ 9223372036854775807) :
    Calls Try.prog 55 #[.slice (some ⟨g, 0, none⟩) 1 1] w fun e w' => e = .returned (.tuple #[.slice none 0 0, .int .i64 21]) ∧ Below w.heap.size w w' := by
  have hde := pgDecode_any s n hns A1 c1 w w.heap.size hr (Nat.le_refl _) hc hcm
  obtain ⟨c0, _⟩ := blk1 hg
  clear hns hr hg
  go_enter Try.func55, Try.ntmps55
  go_wp2_with fail
  refine wp_loop_rounds 1 ?_
  rw [rounds_succ]
  go_wp2_with fail
  refine hde.mono ?_
  clear hde
  rintro e w2 ⟨⟨hok, _⟩ | ⟨_, rfl⟩, hb2⟩
  · exact absurd hok hno
  · go_wp2_with fail
    go_ret2
    exact ⟨rfl, hb2⟩
end Go.Proofs.Ytcchnoadclidcaa
