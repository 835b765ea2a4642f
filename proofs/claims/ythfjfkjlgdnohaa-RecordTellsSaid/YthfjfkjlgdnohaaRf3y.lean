/-
  The page's Read of fields, by its contract. (mkrf3.py)
-/
import Derived.Test.YthfjfkjlgdnohaaZ7
import Derived.Test.YthfjfkjlgdnohaaRf1y
namespace Go.Proofs.Ythfjfkjlgdnohaa
open Go.RowKit

set_option maxRecDepth 100000 in
set_option maxHeartbeats 4000000 in
theorem pread_any (b : BS) (n : Nat) (hnb : n = b.length) (A : Option Addr) (c : Nat) (w : World) (B : Nat) (hr : Reads w B 1 A n (bts b)) (hB : B ≤ w.heap.size) (hc : n ≤ c) (hcm : c ≤ 9223372036854775807) (hn : n ≤ 140737488351232) :
    Calls Try.prog 62 #[.slice A n c] w (ReadPost w (fread b)) := by
  obtain ⟨i0, hi0, hz0, hz1, hz2⟩ := info_parts Try.infoS
  obtain ⟨R, hR⟩ : ∃ R, R = fread b := ⟨_, rfl⟩
  rw [← hR]
  have HR := Lib.hid hR
  have HNB := Lib.hid hnb
  obtain ⟨N, hN⟩ : ∃ N, N = numN (b.take 2) := ⟨_, rfl⟩
  have hN6 : N < 65536 := by rw [hN]; exact numN_take2 b
  have HNN := Lib.hid hN
  by_cases h2 : n < 2
  · have HF : Hid (R = .error 8) := by show _ = _; rw [HR.out]; unfold fread; rw [if_pos (by have := HNB.out; omega)]
    have h2i : (n : Int) < 2 := by omega
    clear hR hnb hr hN
    go_enter Try.func62, Try.ntmps62
    go_wp2_with fail
    go_ret2
    exact ⟨by rw [HF.out]; rfl, Below.refl _ _⟩
  · have hl2 : (b.take 2).length = 2 := by rw [List.length_take]; omega
    have hnum0 := pnumber_any (b.take 2) 2 hl2.symm A c w B (bpre2 hr hnb (by omega)) (by omega)
    have hVE := numVE_small (b.take 2) (by omega) (by omega)
    rw [hVE.1, hVE.2, ← hN] at hnum0
    have HNUM0 := Lib.hid hnum0
    have h2i : ¬ (n : Int) < 2 := by omega
    have h2c : (2 : Int) ≤ (c : Int) := by omega
    obtain ⟨ad, rfl, hadB, hcell⟩ := hr.2 (by omega)
    have HRR := Lib.hid hr
    clear hnum0 hVE hl2 hR hnb hN hr hcell
    by_cases h3 : 1024 < N
    · have HF : Hid (R = .error 3) := by show _ = _; rw [HR.out]; unfold fread; rw [if_neg (by have := HNB.out; omega), if_pos (by rw [← HNN.out]; exact h3)]
      have hi3 : (1024 : Int) < (N : Int) := by omega
      go_enter Try.func62, Try.ntmps62
      go_wp2_with fail
      refine HNUM0.out.mono ?_
      rintro e w2 ⟨rfl, hw⟩
      rw [← hw]
      clear hw w2 HNUM0
      go_wp2_with fail
      go_ret2
      exact ⟨by rw [HF.out]; rfl, Below.refl _ _⟩
    · have HF : Hid (R = fbody N (b.drop 2)) := by show _ = _; rw [HR.out]; unfold fread; rw [if_neg (by have := HNB.out; omega), if_neg (by rw [← HNN.out]; exact h3), ← HNN.out]
      have hi3 : ¬ (1024 : Int) < (N : Int) := by omega
      clear HR HNN
      go_enter Try.func62, Try.ntmps62
      go_wp2_with fail
      refine HNUM0.out.mono ?_
      rintro e w2 ⟨rfl, hw⟩
      rw [← hw]
      clear hw w2 HNUM0
      go_wp2_with fail
      go_loopw [6, 7, 8] (fun av ov iv wr => ∃ (k at_ : Nat) (A3 : Option Addr) (c3 : Nat) (out : List BS), k ≤ N ∧ at_ ≤ n ∧ iv = .int .i64 (k : Int) ∧ av = .int .i64 (at_ : Int) ∧ ov = .slice A3 k c3 ∧ Hid (R = combR out (fbody (N - k) (b.drop at_))) ∧ Hid (k = out.length) ∧
        Hid (wr.ownsRow w.heap.size 9 1 (.slice A3 k c3) k (scells out)) ∧ Below w.heap.size w wr) (fun _ _ iv _ => N - (intOf iv).toNat)
      case atStart => exact ⟨0, 2, none, 0, [], Nat.zero_le _, by omega, rfl, rfl, rfl, (show R = _ by rw [HF.out]; cases fbody N (b.drop 2) <;> rfl), rfl, ⟨rfl, .inl ⟨rfl, rfl⟩⟩, Below.refl _ _⟩
      case round =>
        obtain ⟨k, at_, A3, c3, out, hk, hat, rfl, rfl, rfl, hRk, hko, HOWN, hbw⟩ := hrel
        by_cases hlt : k < N
        · have hki : (k : Int) < (N : Int) := by omega
          obtain ⟨m, hm⟩ : ∃ m, N - k = m + 1 := ⟨N - k - 1, by omega⟩
          have hfb : fbody (N - k) (b.drop at_) = if (b.drop at_).length < 3 then .error 8 else if 65536 < numN ((b.drop at_).take 3) then .error 5 else if (b.drop at_).length < 3 + numN ((b.drop at_).take 3) then .error 8 else
              match fbody m ((b.drop at_).drop (3 + numN ((b.drop at_).take 3))) with
              | .ok l => .ok (((b.drop at_).drop 3).take (numN ((b.drop at_).take 3)) :: l)
              | .error e => .error e := by rw [hm]; rfl
          have HQL : Hid ((b.drop at_).length = n - at_) := by show _ = _; rw [List.length_drop, ← HNB.out]
          have hw3 : IntKind.i64.wrap ((at_ : Int) + 3) = (at_ : Int) + 3 := IntWalk.i64_in _ (by omega)
          clear hw3
          by_cases hq3 : n < at_ + 3
          · have HE : Hid (R = .error 8) := by show _ = _; rw [hRk.out, hfb, if_pos (by rw [HQL.out]; omega)]; rfl
            have hq3i : (n : Int) < (at_ : Int) + 3 := by omega
            clear hfb hRk HF
            go_wp2_with fail
            go_ret2
            exact ⟨by rw [HE.out]; rfl, hbw⟩
          · obtain ⟨K, hK⟩ : ∃ K, K = numN ((b.drop at_).take 3) := ⟨_, rfl⟩
            rw [← hK] at hfb
            have HFB := Lib.hid hfb
            have hK6 : K < 16777216 := by rw [hK]; exact numN_take3 _
            have h3l : ((b.drop at_).take 3).length = 3 := by rw [List.length_take, HQL.out]; omega
            have hrw := HRR.out.below (hbw.mono hB)
            have hd0 := hrw.cut (k := at_) (cap := c) (by omega) hc
            rw [if_neg (by omega)] at hd0
            simp only [Nat.mul_one, ← bts_drop] at hd0
            have hd0 : Reads wr B 1 (some (ad.add at_)) (n - at_) (bts (b.drop at_)) := hd0
            have hnum := fun cc => pnumber_any ((b.drop at_).take 3) 3 h3l.symm (some (ad.add at_)) cc wr _ (bpre2 hd0 HQL.out.symm (by omega)) (by omega)
            have hVE := numVE_small ((b.drop at_).take 3) (by omega) (by omega)
            rw [hVE.1, hVE.2, ← hK] at hnum
            have HNUM := Lib.hid hnum
            have HD0 := Lib.hid hd0
            clear hfb hK h3l hVE hnum hrw hd0 HF
            have hq3i : ¬ (n : Int) < (at_ : Int) + 3 := by omega
            have hq3c : (at_ : Int) + 3 ≤ (c : Int) := by omega
            by_cases h65 : 65536 < K
            · have HE : Hid (R = .error 5) := by show _ = _; rw [hRk.out, HFB.out, if_neg (by rw [HQL.out]; omega), if_pos h65]; rfl
              have h65i : (65536 : Int) < (K : Int) := by omega
              clear hRk
              go_wp2_with fail
              refine (HNUM.out _).mono ?_
              rintro e w2 ⟨rfl, hw⟩
              rw [← hw]
              clear hw w2 HNUM
              go_wp2_with fail
              go_ret2
              exact ⟨by rw [HE.out]; rfl, hbw⟩
            · by_cases hqS : n < at_ + 3 + K
              · have HE : Hid (R = .error 8) := by show _ = _; rw [hRk.out, HFB.out, if_neg (by rw [HQL.out]; omega), if_neg h65, if_pos (by rw [HQL.out]; omega)]; rfl
                have h65i : ¬ (65536 : Int) < (K : Int) := by omega
                have hqi : (n : Int) < (at_ : Int) + 3 + (K : Int) := by omega
                clear hRk
                go_wp2_with fail
                refine (HNUM.out _).mono ?_
                rintro e w2 ⟨rfl, hw⟩
                rw [← hw]
                clear hw w2 HNUM
                go_wp2_with fail
                go_ret2
                exact ⟨by rw [HE.out]; rfl, hbw⟩
              · by_cases hce : c = at_ + 3
                · obtain rfl : K = 0 := by omega
                  obtain ⟨tx, htx⟩ : ∃ tx : BS, tx = ((b.drop at_).drop 3).take 0 := ⟨_, rfl⟩
                  have hst := str_of (P := Try.prog) (w := wr) (B := B) (A := some ad) (c := 0) (n := 0) (b := tx) ⟨by rw [htx]; rfl, fun h => absurd h (by omega)⟩ (by rw [htx]; rfl) Try.underlying28 Try.underlying5 Try.underlying9
                  subst hce
                  have HR2 : Hid (R = combR (out ++ [tx]) (fbody (N - (k + 1)) (b.drop (at_ + 3 + 0)))) := by
                    show _ = _
                    have e1 : (b.drop at_).drop (3 + 0) = b.drop (at_ + 3 + 0) := by rw [List.drop_drop, Nat.add_assoc]
                    rw [hRk.out, HFB.out, if_neg (by rw [HQL.out]; omega), if_neg h65, if_neg (by rw [HQL.out]; omega), show N - (k + 1) = m by omega, htx, e1]
                    cases fbody m (b.drop (at_ + 3 + 0)) <;> simp [combR]
                  have HOUT : Hid (scells (out ++ [tx]) = scells out ++ [.string ⟨tx.toArray⟩]) := by show _ = _; rw [scells_append]; rfl
                  have hown := HOWN.out
                  have hsz := hbw.size
                  have hKi0 : (0 : Int) ≤ ((0 : Nat) : Int) := by omega
                  have hSK : (at_ : Int) + 3 + ((0 : Nat) : Int) ≤ (n : Int) := by omega
                  have hSKc : (at_ : Int) + 3 + ((0 : Nat) : Int) ≤ ((at_ + 3 : Nat) : Int) := by omega
                  have hSKn : ¬ (n : Int) < (at_ : Int) + 3 + ((0 : Nat) : Int) := by omega
                  have h65i : ¬ (65536 : Int) < ((0 : Nat) : Int) := by omega
                  clear HFB hRk htx HD0
                  go_wp2_with fail
                  refine (HNUM.out _).mono ?_
                  rintro e w2 ⟨rfl, hw⟩
                  rw [← hw]
                  clear hw w2 HNUM
                  go_wp2_with (at_builtin; (refine wpList_push _ rfl (.tmp 50) (.tmp 60) 69 rfl w.heap.size 9 i0 (.string ByteArray.empty) 1 16 Try.underlying69 hi0 hz0 hz1 hz2 rfl (by decide) (.slice A3 k c3) k _ rfl hown 1 #[.string ⟨tx.toArray⟩] 9 (by simp [Act.eval]) rfl (by simp [Value.oneCell']) (by unfold maxLen; omega) (by omega) hsz ?_); intro v4 w4 hown4 hb4 _)
                  obtain ⟨A4, c4, rfl, _, _, _⟩ := own_form hown4
                  have HB4 := Lib.hid (hbw.trans hb4)
                  have HO4 : Hid (w4.ownsRow w.heap.size 9 1 (.slice A4 (k + 1) c4) (k + 1) (scells (out ++ [tx]))) := by show World.ownsRow _ _ _ _ _ _ _; rw [HOUT.out]; exact hown4
                  clear hown4 hb4 hown hst HOUT
                  go_wp2_with fail
                  go_roundw
                  case rel => exact ⟨k + 1, at_ + 3 + 0, A4, c4, out ++ [tx], by omega, by omega, by go_num, by go_num, rfl, HR2.out, (by show _ = _; rw [List.length_append, ← hko.out]; rfl), HO4.out, HB4.out⟩
                  case measure => simp [intOf]; omega
                · obtain ⟨tx, htx⟩ : ∃ tx : BS, tx = ((b.drop at_).drop 3).take K := ⟨_, rfl⟩
                  have hd3 := HD0.out.cut (k := 3) (cap := c - at_) (by omega) (by omega)
                  rw [if_neg (by omega)] at hd3
                  simp only [Nat.mul_one, ← bts_drop, Option.map_some, add_of_add] at hd3
                  have hst := str_of (P := Try.prog) (c := c - (at_ + 3)) (bpre2 hd3 (by rw [List.length_drop, HQL.out]) (k := K) (by omega)) (show K = (((b.drop at_).drop 3).take K).length by rw [List.length_take, List.length_drop, HQL.out]; omega) Try.underlying28 Try.underlying5 Try.underlying9
                  rw [← htx, show ad.add (at_ + 3) = ⟨ad.block, ad.off + (at_ + 2 + 1), none⟩ by unfold Addr.add; rw [if_neg (by omega)]] at hst
                  clear hd3
                  have HR2 : Hid (R = combR (out ++ [tx]) (fbody (N - (k + 1)) (b.drop (at_ + 3 + K)))) := by
                    show _ = _
                    have e1 : (b.drop at_).drop (3 + K) = b.drop (at_ + 3 + K) := by rw [List.drop_drop, Nat.add_assoc]
                    rw [hRk.out, HFB.out, if_neg (by rw [HQL.out]; omega), if_neg h65, if_neg (by rw [HQL.out]; omega), show N - (k + 1) = m by omega, htx, e1]
                    cases fbody m (b.drop (at_ + 3 + K)) <;> simp [combR]
                  have HOUT : Hid (scells (out ++ [tx]) = scells out ++ [.string ⟨tx.toArray⟩]) := by show _ = _; rw [scells_append]; rfl
                  have hown := HOWN.out
                  have hsz := hbw.size
                  have hKi0 : (0 : Int) ≤ (K : Int) := by omega
                  have hSK : (at_ : Int) + 3 + (K : Int) ≤ (n : Int) := by omega
                  have hSKc : (at_ : Int) + 3 + (K : Int) ≤ (c : Int) := by omega
                  have hSKn : ¬ (n : Int) < (at_ : Int) + 3 + (K : Int) := by omega
                  have h65i : ¬ (65536 : Int) < (K : Int) := by omega
                  clear HFB hRk htx HD0
                  go_wp2_with fail
                  refine (HNUM.out _).mono ?_
                  rintro e w2 ⟨rfl, hw⟩
                  rw [← hw]
                  clear hw w2 HNUM
                  go_wp2_with (at_builtin; (refine wpList_push _ rfl (.tmp 50) (.tmp 60) 69 rfl w.heap.size 9 i0 (.string ByteArray.empty) 1 16 Try.underlying69 hi0 hz0 hz1 hz2 rfl (by decide) (.slice A3 k c3) k _ rfl hown 1 #[.string ⟨tx.toArray⟩] 9 (by simp [Act.eval]) rfl (by simp [Value.oneCell']) (by unfold maxLen; omega) (by omega) hsz ?_); intro v4 w4 hown4 hb4 _)
                  obtain ⟨A4, c4, rfl, _, _, _⟩ := own_form hown4
                  have HB4 := Lib.hid (hbw.trans hb4)
                  have HO4 : Hid (w4.ownsRow w.heap.size 9 1 (.slice A4 (k + 1) c4) (k + 1) (scells (out ++ [tx]))) := by show World.ownsRow _ _ _ _ _ _ _; rw [HOUT.out]; exact hown4
                  clear hown4 hb4 hown hst HOUT
                  go_wp2_with fail
                  go_roundw
                  case rel => exact ⟨k + 1, at_ + 3 + K, A4, c4, out ++ [tx], by omega, by omega, by go_num, by go_num, rfl, HR2.out, (by show _ = _; rw [List.length_append, ← hko.out]; rfl), HO4.out, HB4.out⟩
                  case measure => simp [intOf]; omega
        · have hkn : k = N := by omega
          have hfin : fbody (N - k) (b.drop at_) = if (b.drop at_).length = 0 then .ok [] else .error 9 := by rw [show N - k = 0 by omega]; rfl
          have hki : ¬ (k : Int) < (N : Int) := by omega
          by_cases hq0 : at_ = n
          · have HE : Hid (R = .ok out) := by show _ = _; rw [hRk.out, hfin, if_pos (by rw [List.length_drop, ← HNB.out]; omega)]; simp [combR]
            have hne : ((at_ : Int) != (n : Int)) = false := by simp; omega
            have hne2 : ((at_ : Int) == (n : Int)) = true := by simp; omega
            clear hfin hRk hkn HF hlt
            subst hq0
            go_wp2_with fail
            go_ret2
            refine ⟨?_, hbw⟩
            rw [HE.out]
            exact ⟨_, rfl, by rw [← hko.out]; exact HOWN.out⟩
          · have HE : Hid (R = .error 9) := by show _ = _; rw [hRk.out, hfin, if_neg (by rw [List.length_drop, ← HNB.out]; omega)]; rfl
            have hne : ((at_ : Int) != (n : Int)) = true := by simp; omega
            have hne2 : ((at_ : Int) == (n : Int)) = false := by simp; omega
            clear hfin hRk hkn HF hlt hq0
            go_wp2_with fail
            go_ret2
            exact ⟨by rw [HE.out]; rfl, hbw⟩
end Go.Proofs.Ythfjfkjlgdnohaa
