/-
  slices.Clone at bytes, by its contract (at a seat whose Clone is tplb/XClone).
-/
import Derived.Deep.RegionHeld3
import Derived.Test.YtcbeadldieeceaaZ2
import Derived.Test.YtcbeadldieeceaaZ7
import Derived.Test.YtcbeadldieeceaaZ8
namespace Go.Proofs.Ytcbeadldieeceaa
open Go.RowKit

set_option maxRecDepth 100000 in
theorem clone_any (xs : List Value) (n : Nat) (A : Option Addr) (c : Nat) (w : World) (B : Nat) (hr : Reads w B 1 A n xs) (hB : B ≤ w.heap.size) (h1 : ∀ u ∈ xs, u.oneCell' = true) (hn : n ≤ 140737488351232) :
    Calls Try.prog 100 #[.slice A n c] w fun e w' => ∃ v, e = .returned v ∧ w'.ownsRow w.heap.size 5 1 v n xs ∧ Below w.heap.size w w' := by
  obtain ⟨i0, hi0, hz0, hz1, hz2⟩ := info_parts Try.infoU8c
  rcases A with _ | ad
  · obtain rfl : n = 0 := by
      rcases Nat.eq_zero_or_pos n with h | h
      · exact h
      · obtain ⟨_, h, _⟩ := hr.2 h; cases h
    obtain rfl : xs = [] := List.eq_nil_of_length_eq_zero (by simpa using hr.1)
    have heq := fun W => Lib.run_eql_slice_nil (P := Try.prog) W 27 5 none 0 c 0 0 Try.underlying27
    go_enter Try.func100, Try.ntmps100
    go_wp2_with fail
    go_ret
    exact ⟨_, rfl, World.ownsRow_nil _ _ _ _, Below.refl _ _⟩
  · have heq := fun W => Lib.run_eql_slice_nil (P := Try.prog) W 27 5 (some ad) n c 0 0 Try.underlying27
    have hown : (w.alloc (.cells #[] 5)).ownsRow w.heap.size 5 1 (.slice (some ⟨w.heap.size, 0, none⟩) 0 0) 0 [] := World.ownsRow_made w #[] 0 (Nat.le_refl _) (by simp [maxLen]) rfl
    have hra := hr.alloc hB (.cells #[] 5)
    go_enter Try.func100, Try.ntmps100
    go_wp2_with (at_builtin; (refine wpList_append_any _ rfl (.tmp 5) (.tmp 6) _ rfl w.heap.size 5 i0 _ 1 1 Try.underlying27 hi0 hz0 hz1 hz2 rfl (by omega) (.slice (some ⟨w.heap.size, 0, none⟩) 0 0) 0 [] rfl hown B (some ad) n c xs rfl hra h1 (by unfold maxLen; omega) (by omega) (by simp) ?_); intro v1 w2 hown1 hg1 hat1)
    go_ret
    refine ⟨v1, rfl, by simpa using hown1, ((Below.refl _ _).alloc (Nat.le_refl _) _).grown hg1 (by simp) (fun k hk => ?_)⟩
    simp [Value.ownBlock] at hk
    omega
end Go.Proofs.Ytcbeadldieeceaa

/-
  octets.Cut, by its contract.
-/
namespace Go.Proofs.Ytcbeadldieeceaa
open Go.RowKit

/-- what Cut leaves where it cuts -/
def CutPost (w : World) (b : List UInt8) (k : Nat) (e : Ending) (w' : World) : Prop :=
  ∃ v1 v2, e = .returned (.tuple #[v1, v2, .int .i64 0]) ∧ w'.ownsRow w.heap.size 5 1 v1 k (bts (b.take k)) ∧ w'.ownsRow w.heap.size 5 1 v2 (b.length - k) (bts (b.drop k)) ∧ Below w.heap.size w w'

set_option maxRecDepth 100000 in
theorem cut_any (b : List UInt8) (n : Nat) (hnb : n = b.length) (A : Option Addr) (c : Nat) (k : Nat) (hk : k ≤ n) (w : World) (B : Nat) (hr : Reads w B 1 A n (bts b)) (hB : B ≤ w.heap.size) (hc : n ≤ c) (hcm : c ≤ 9223372036854775807) (hn : n ≤ 140737488351232) :
    Calls Try.prog 86 #[.slice A n c, .int .i64 (k : Int)] w (CutPost w b k) := by
  subst hnb
  have hp := hr.bpre hk
  have hkc : k ≤ c := by omega
  have hk0 : (0 : Int) ≤ (k : Int) := by omega
  have hki : (k : Int) ≤ (b.length : Int) := by omega
  have hkl : (k : Int) ≤ (c : Int) := by omega
  have hd : Reads w B 1 (if c = k then A else A.map (·.add k)) (b.length - k) (bts (b.drop k)) := by
    have := hr.cut hk hc
    simp only [Nat.mul_one] at this
    rwa [← bts_drop] at this
  have hss := (Below.refl w.heap.size w).drew
  rcases A with _ | ad
  · obtain rfl : b = [] := by
      rcases Nat.eq_zero_or_pos b.length with h | h
      · exact List.eq_nil_of_length_eq_zero h
      · obtain ⟨_, h, _⟩ := hr.2 h; cases h
    obtain rfl : k = 0 := by simpa using hk
    have hp1 := Lib.hid (show Reads w B 1 none 0 (bts []) from Reads.none_)
    have hd1 := hp1
    clear hp hd hr
    simp only [List.length_nil] at hk hki hn hc ⊢
    · go_enter Try.func86, Try.ntmps86
      go_wp2_with fail
      go_region_held3 (fun w' => Below w.heap.size w w')
        (first | (with_reducible exact hss) | (with_reducible exact hbs.out))
        (first
          | (go_at_call 100; have tok1 := hp1; (with_reducible refine (clone_any (bts []) 0 none c _ B ?_ ?_ (bts_one _) ?_).mono ?_); (exact tok1.out.below (Below.mono (by assumption) hB)); (exact below_size (w := w) (by assumption) hB); (omega); clear tok1; rintro e w1 ⟨v1, rfl, hown1, hb1⟩; have hbs := Lib.hid (below_step (w := w) (by assumption) hb1); have hO1 := Lib.hid (own_mono hown1 (Below.size (by assumption : Below w.heap.size w _))); clear hp1 hown1 hb1)
          | (go_at_call 100; (with_reducible refine (clone_any (bts []) 0 none c _ B ?_ ?_ (bts_one _) ?_).mono ?_); (exact hd1.out.below (Below.mono (by assumption) hB)); (exact below_size (w := w) (by assumption) hB); (omega); rintro e w2 ⟨v2, rfl, hown2, hb2⟩; have hO1' := Lib.hid (own_below hO1.out hb2); have hO2 := Lib.hid (own_mono hown2 (Below.size (by assumption : Below w.heap.size w _))); have hbs := Lib.hid (below_step (w := w) (by assumption) hb2); clear hown2 hb2))
      go_wp2_with fail
      go_ret3
      exact ⟨v1, v2, rfl, hO1'.out, hO2.out, by assumption⟩
  · by_cases hck : c = k
    · rw [if_pos hck] at hd
      have h00 : b.length - k = 0 := by omega
      rw [h00] at hd
      have H00 := Lib.hid h00
      clear h00
      have hp1 := Lib.hid hp
      have hd1 := Lib.hid hd
      clear hp hd hr
      subst hck
      go_enter Try.func86, Try.ntmps86
      go_wp2_with fail
      go_region_held3 (fun w' => Below w.heap.size w w')
        (first | (with_reducible exact hss) | (with_reducible exact hbs.out))
        (first
          | (go_at_call 100; have tok1 := hp1; (with_reducible refine (clone_any (bts (b.take c)) c (some ad) c _ B ?_ ?_ (bts_one _) ?_).mono ?_); (exact tok1.out.below (Below.mono (by assumption) hB)); (exact below_size (w := w) (by assumption) hB); (omega); clear tok1; rintro e w1 ⟨v1, rfl, hown1, hb1⟩; have hbs := Lib.hid (below_step (w := w) (by assumption) hb1); have hO1 := Lib.hid (own_mono hown1 (Below.size (by assumption : Below w.heap.size w _))); clear hp1 hown1 hb1)
          | (go_at_call 100; (with_reducible refine (clone_any (bts (b.drop c)) 0 (some ad) 0 _ B ?_ ?_ (bts_one _) ?_).mono ?_); (exact hd1.out.below (Below.mono (by assumption) hB)); (exact below_size (w := w) (by assumption) hB); (omega); rintro e w2 ⟨v2, rfl, hown2, hb2⟩; have hO1' := Lib.hid (own_below hO1.out hb2); have hO2 := Lib.hid (own_mono hown2 (Below.size (by assumption : Below w.heap.size w _))); have hbs := Lib.hid (below_step (w := w) (by assumption) hb2); clear hown2 hb2))
      go_wp2_with fail
      go_ret3
      exact ⟨v1, v2, rfl, hO1'.out, (by rw [H00.out]; exact hO2.out), by assumption⟩
    · rw [if_neg hck] at hd
      simp only [Option.map_some] at hd
      have hp1 := Lib.hid hp
      have hd1 := Lib.hid hd
      clear hp hd hr
      go_enter Try.func86, Try.ntmps86
      go_wp2_with fail
      go_region_held3 (fun w' => Below w.heap.size w w')
        (first | (with_reducible exact hss) | (with_reducible exact hbs.out))
        (first
          | (go_at_call 100; have tok1 := hp1; (with_reducible refine (clone_any (bts (b.take k)) k (some ad) c _ B ?_ ?_ (bts_one _) ?_).mono ?_); (exact tok1.out.below (Below.mono (by assumption) hB)); (exact below_size (w := w) (by assumption) hB); (omega); clear tok1; rintro e w1 ⟨v1, rfl, hown1, hb1⟩; have hbs := Lib.hid (below_step (w := w) (by assumption) hb1); have hO1 := Lib.hid (own_mono hown1 (Below.size (by assumption : Below w.heap.size w _))); clear hp1 hown1 hb1)
          | (go_at_call 100; (with_reducible refine (clone_any (bts (b.drop k)) (b.length - k) (some (ad.add k)) (c - k) _ B ?_ ?_ (bts_one _) ?_).mono ?_); (exact hd1.out.below (Below.mono (by assumption) hB)); (exact below_size (w := w) (by assumption) hB); (omega); rintro e w2 ⟨v2, rfl, hown2, hb2⟩; have hO1' := Lib.hid (own_below hO1.out hb2); have hO2 := Lib.hid (own_mono hown2 (Below.size (by assumption : Below w.heap.size w _))); have hbs := Lib.hid (below_step (w := w) (by assumption) hb2); clear hown2 hb2))
      go_wp2_with fail
      go_ret3
      exact ⟨v1, v2, rfl, hO1'.out, hO2.out, by assumption⟩
end Go.Proofs.Ytcbeadldieeceaa

/-
  fields.taken, fields.Read: by their contracts.
-/
namespace Go.Proofs.Ytcbeadldieeceaa
open Go.RowKit

set_option maxRecDepth 100000 in
theorem cut_short (n k : Nat) (A : Option Addr) (c : Nat) (h : n < k) (w : World) :
    Calls Try.prog 86 #[.slice A n c, .int .i64 (k : Int)] w fun e w' => e = .returned (.tuple #[.slice none 0 0, .slice none 0 0, .int .i64 8]) ∧ w' = w := by
  have hk0 : ¬ (k : Int) < 0 := by omega
  have hki : (n : Int) < (k : Int) := by omega
  go_enter Try.func86, Try.ntmps86
  go_wp2_with fail
  go_ret3
  exact ⟨rfl, by trivial⟩
theorem add_off (b o k : Nat) : (⟨b, o, none⟩ : Addr).add k = ⟨b, o + k, none⟩ := by
  unfold Addr.add
  split <;> simp_all
theorem bpre2 {w : World} {B n : Nat} {A : Option Addr} {b : List UInt8} (h : Reads w B 1 A n (bts b)) (hn : n = b.length) {k : Nat} (hk : k ≤ n) : Reads w B 1 A k (bts (b.take k)) := by
  subst hn
  exact h.bpre hk
theorem numN_take2 (b : BS) : numN (b.take 2) < 65536 := by
  have := numN_lt (b.take 2)
  have h2 : (b.take 2).length ≤ 2 := by simp; omega
  have h3 : 256 ^ (b.take 2).length ≤ 256 ^ 2 := Nat.pow_le_pow_right (by decide) h2
  omega
theorem numN_take3 (b : BS) : numN (b.take 3) < 16777216 := by
  have := numN_lt (b.take 3)
  have h2 : (b.take 3).length ≤ 3 := by simp; omega
  have h3 : 256 ^ (b.take 3).length ≤ 256 ^ 3 := Nat.pow_le_pow_right (by decide) h2
  omega
theorem numVE_small (b : BS) (h0 : b.length ≠ 0) (h : b.length ≤ 7) : numV b = numN b ∧ numE b = 0 := by
  have h1 := numN_lt b
  have h3 : 256 ^ b.length ≤ 72057594037927936 := pow_le8 h
  unfold numV numE
  rw [if_neg (by omega), if_neg h0, if_neg (by omega), if_neg (by omega)]
  exact ⟨rfl, rfl⟩
set_option maxRecDepth 100000 in
set_option maxHeartbeats 1000000 in
theorem taken_any (b : BS) (n : Nat) (hnb : n = b.length) (A : Option Addr) (c : Nat) (w : World) (B : Nat) (hr : Reads w B 1 A n (bts b)) (hB : B ≤ w.heap.size) (hc : n ≤ c) (hcm : c ≤ 9223372036854775807) (hn : n ≤ 140737488351232) :
    Calls Try.prog 64 #[.slice A n c, .int .i64 2] w fun e w' => ((n < 2 ∧ e = .returned (.tuple #[.int .i64 0, .slice none 0 0, .int .i64 8])) ∨
      (2 ≤ n ∧ ∃ v, e = .returned (.tuple #[.int .i64 (numN (b.take 2) : Int), v, .int .i64 0]) ∧ w'.ownsRow w.heap.size 5 1 v (n - 2) (bts (b.drop 2)))) ∧ Below w.heap.size w w' := by
  by_cases h2 : n < 2
  · have hcut0 := cut_short n 2 A c h2 w
    rw [show ((2 : Nat) : Int) = 2 from rfl] at hcut0
    have hcut := Lib.hid hcut0
    clear hcut0 hnb
    clear hr
    go_enter Try.func64, Try.ntmps64
    go_wp2_with fail
    refine hcut.out.mono ?_
    rintro e w1 ⟨rfl, hw⟩
    rw [hw]
    clear hw w1
    go_wp2_with fail
    go_ret3
    exact ⟨.inl ⟨h2, rfl⟩, Below.refl _ _⟩
  · have hcut := cut_any b n hnb A c 2 (by omega) w B hr hB hc hcm hn
    unfold CutPost at hcut
    rw [← hnb, show ((2 : Nat) : Int) = 2 from rfl] at hcut
    have HV := Lib.hid (numVE_small (b.take 2) (by rw [List.length_take]; omega) (by rw [List.length_take]; omega))
    have hl2 : (b.take 2).length = 2 := by rw [List.length_take]; omega
    have HL2 := Lib.hid hl2
    have HN := Lib.hid h2
    clear hr hnb h2 hl2
    go_enter Try.func64, Try.ntmps64
    go_wp2_with fail
    refine hcut.mono ?_
    clear hcut
    rintro e w1 ⟨v1, v2, rfl, hown1, hown2, hb1⟩
    obtain ⟨A1, c1, rfl, _, _, hr1⟩ := own_form hown1
    have hnum := number_any (b.take 2) 2 HL2.out.symm A1 c1 w1 _ hr1 (by omega)
    rw [HV.out.1, HV.out.2] at hnum
    have HO2 := Lib.hid hown2
    clear hr1 hown1 hown2
    go_wp2_with fail
    refine hnum.mono ?_
    clear hnum
    rintro e w2 ⟨rfl, hw⟩
    rw [← hw]
    clear hw w2
    go_wp2_with fail
    go_ret3
    exact ⟨.inr ⟨by have := HN.out; omega, v2, rfl, HO2.out⟩, hb1⟩

def combR (out : List BS) : Except Int (List BS) → Except Int (List BS)
  | .ok l => .ok (out ++ l)
  | .error e => .error e
def ReadPost (w : World) (r : Except Int (List BS)) (e : Ending) (w' : World) : Prop :=
  (match r with
    | .ok l => ∃ v, e = .returned (.tuple #[v, .int .i64 0]) ∧ w'.ownsRow w.heap.size 9 1 v l.length (scells l)
    | .error x => e = .returned (.tuple #[.slice none 0 0, .int .i64 x])) ∧ Below w.heap.size w w'
set_option maxRecDepth 100000 in
set_option maxHeartbeats 2000000 in
theorem fread_any (b : BS) (n : Nat) (hnb : n = b.length) (A : Option Addr) (c : Nat) (w : World) (B : Nat) (hr : Reads w B 1 A n (bts b)) (hB : B ≤ w.heap.size) (hc : n ≤ c) (hcm : c ≤ 9223372036854775807) (hn : n ≤ 140737488351232) :
    Calls Try.prog 48 #[.slice A n c] w (ReadPost w (fread b)) := by
  obtain ⟨i0, hi0, hz0, hz1, hz2⟩ := info_parts Try.infoS
  have htk := taken_any b n hnb A c w B hr hB hc hcm hn
  obtain ⟨R, hR⟩ : ∃ R, R = fread b := ⟨_, rfl⟩
  rw [← hR]
  have HR := Lib.hid hR
  have HNB := Lib.hid hnb
  obtain ⟨N, hN⟩ : ∃ N, N = numN (b.take 2) := ⟨_, rfl⟩
  rw [← hN] at htk
  have HNN := Lib.hid hN
  have hN6 : N < 65536 := by rw [hN]; exact numN_take2 b
  clear hR hnb hr hN
  go_enter Try.func48, Try.ntmps48
  go_wp2_with fail
  refine htk.mono ?_
  clear htk
  rintro e w1 ⟨⟨h2, rfl⟩ | ⟨h2, v, rfl, hown⟩, hb1⟩
  · have HF : Hid (R = .error 8) := by show _ = _; rw [HR.out]; unfold fread; rw [if_pos (by have := HNB.out; omega)]
    go_wp2_with fail
    go_ret2
    exact ⟨by rw [HF.out]; rfl, hb1⟩
  · by_cases h3 : 1024 < N
    · have HF : Hid (R = .error 3) := by show _ = _; rw [HR.out]; unfold fread; rw [if_neg (by have := HNB.out; omega), if_pos (by rw [← HNN.out]; exact h3)]
      have hi3 : (1024 : Int) < (N : Int) := by omega
      go_wp2_with fail
      go_ret2
      exact ⟨by rw [HF.out]; rfl, hb1⟩
    · have HF : Hid (R = fbody N (b.drop 2)) := by show _ = _; rw [HR.out]; unfold fread; rw [if_neg (by have := HNB.out; omega), if_neg (by rw [← HNN.out]; exact h3), ← HNN.out]
      have hi3 : ¬ (1024 : Int) < (N : Int) := by omega
      obtain ⟨A1, c1, rfl, hq1, hq2, hr1⟩ := own_form hown
      have HQ : Hid (n - 2 = (b.drop 2).length) := by show _ = _; rw [List.length_drop, HNB.out]
      obtain ⟨q0, hq0⟩ : ∃ q, q = n - 2 := ⟨_, rfl⟩
      rw [← hq0] at hr1 hq1 HQ ⊢
      have hqn : q0 ≤ 140737488351232 := by omega
      obtain ⟨rem0, hrem⟩ : ∃ r, r = b.drop 2 := ⟨_, rfl⟩
      rw [← hrem] at hr1 HQ HF
      clear hown HR HNN HNB hq0 hrem h2 h3
      go_wp2_with fail
      go_loopw [0, 6, 23] (fun bv ov iv wr => ∃ (k q : Nat) (A2 : Option Addr) (c2 : Nat) (A3 : Option Addr) (c3 : Nat) (rem : BS) (out : List BS), k ≤ N ∧ iv = .int .i64 (k : Int) ∧ bv = .slice A2 q c2 ∧ q ≤ q0 ∧ q ≤ c2 ∧ c2 ≤ maxLen ∧ Hid (q = rem.length) ∧ Reads wr w1.heap.size 1 A2 q (bts rem) ∧
        Hid (R = combR out (fbody (N - k) rem)) ∧ Hid (k = out.length) ∧ ov = .slice A3 k c3 ∧ wr.ownsRow w1.heap.size 9 1 (.slice A3 k c3) k (scells out) ∧ Below w1.heap.size w1 wr) (fun _ _ iv _ => N - (intOf iv).toNat)
      case atStart => exact ⟨0, q0, A1, c1, none, 0, rem0, [], Nat.zero_le _, rfl, rfl, Nat.le_refl _, hq1, hq2, HQ, hr1, (show R = _ by rw [HF.out]; cases fbody N rem0 <;> rfl), rfl, rfl, ⟨rfl, .inl ⟨rfl, rfl⟩⟩, Below.refl _ _⟩
      case round =>
        obtain ⟨k, q, A2, c2, A3, c3, rem, out, hk, rfl, rfl, hqq, hqc, hcm2, hql, hrd, hRk, hko, rfl, hown, hbw⟩ := hrel
        by_cases hlt : k < N
        · have hki : (k : Int) < (N : Int) := by omega
          obtain ⟨m, hm⟩ : ∃ m, N - k = m + 1 := ⟨N - k - 1, by omega⟩
          have hfb : fbody (N - k) rem = if rem.length < 3 then .error 8 else if 65536 < numN (rem.take 3) then .error 5 else if rem.length < 3 + numN (rem.take 3) then .error 8 else
              match fbody m (rem.drop (3 + numN (rem.take 3))) with
              | .ok l => .ok ((rem.drop 3).take (numN (rem.take 3)) :: l)
              | .error e => .error e := by rw [hm]; rfl
          by_cases hq3 : q < 3
          · have HE : Hid (R = .error 8) := by show _ = _; rw [hRk.out, hfb, if_pos (by rw [← hql.out]; exact hq3)]; rfl
            clear hfb hrd hown hRk
            go_wp2_with fail
            go_ret2
            exact ⟨by rw [HE.out]; rfl, hb1.trans (hbw.mono hb1.size)⟩
          · obtain ⟨S, hS⟩ : ∃ S, S = numN (rem.take 3) := ⟨_, rfl⟩
            rw [← hS] at hfb
            have HFB := Lib.hid hfb
            have hS6 : S < 16777216 := by rw [hS]; exact numN_take3 rem
            have h3l : (rem.take 3).length = 3 := by rw [List.length_take, ← hql.out]; omega
            have hnum := number_any (rem.take 3) 3 h3l.symm A2 c2 wr _ (bpre2 hrd hql.out (by omega)) (by omega)
            have hVE := numVE_small (rem.take 3) (by omega) (by omega)
            rw [hVE.1, hVE.2, ← hS] at hnum
            have HNUM := Lib.hid hnum
            obtain ⟨ad, rfl, hadB, _⟩ := hrd.2 (by omega)
            have hd0 := hrd.cut (k := 3) (cap := c2) (by omega) hqc
            simp only [Nat.mul_one, ← bts_drop] at hd0
            have HOWN := Lib.hid hown
            clear hfb hS h3l hVE hnum hrd hown
            have hq3i : ¬ (q : Int) < 3 := by omega
            have hq3j : (3 : Int) ≤ (q : Int) := by omega
            have hq3k : (3 : Int) ≤ (c2 : Int) := by omega
            by_cases hc3 : c2 = 3
            · subst hc3
              obtain rfl : q = 3 := by omega
              have hrl : rem.length = 3 := hql.out.symm
              have hdr : rem.drop 3 = [] := List.drop_eq_nil_of_le (by omega)
              rw [hdr] at hd0
              simp only [if_true, Nat.sub_self] at hd0
              have HDR := Lib.hid hdr
              have HRL := Lib.hid hrl
              clear hdr hrl hq3i hq3j hq3k
              go_wp2_with fail
              refine HNUM.out.mono ?_
              rintro e w2 ⟨rfl, hw⟩
              rw [← hw]
              clear hw w2 HNUM
              by_cases h65 : 65536 < S
              · have HE : Hid (R = .error 5) := by show _ = _; rw [hRk.out, HFB.out, if_neg (by rw [HRL.out]; omega), if_pos h65]; rfl
                clear hd0
                go_wp2_with fail
                go_ret2
                exact ⟨by rw [HE.out]; rfl, hb1.trans (hbw.mono hb1.size)⟩
              · by_cases hqS : 0 < S
                · have HE : Hid (R = .error 8) := by show _ = _; rw [hRk.out, HFB.out, if_neg (by rw [HRL.out]; omega), if_neg h65, if_pos (by rw [HRL.out]; omega)]; rfl
                  clear hd0
                  go_wp2_with fail
                  go_ret2
                  exact ⟨by rw [HE.out]; rfl, hb1.trans (hbw.mono hb1.size)⟩
                · obtain rfl : S = 0 := by omega
                  have hst := str_of (P := Try.prog) (c := 0) (b := []) hd0 rfl Try.underlying27 Try.underlying5 Try.underlying9
                  obtain ⟨tx, htx⟩ : ∃ tx : BS, tx = [] := ⟨_, rfl⟩
                  have HR2 : Hid (R = combR (out ++ [tx]) (fbody (N - (k + 1)) (rem.drop (3 + 0)))) := by
                    show _ = _
                    rw [hRk.out, HFB.out, if_neg (by rw [HRL.out]; omega), if_neg h65, if_neg (by rw [HRL.out]; omega), show N - (k + 1) = m by omega, htx]
                    cases fbody m (rem.drop (3 + 0)) <;> simp [combR]
                  have HOUT : Hid (scells (out ++ [tx]) = scells out ++ [.string ⟨tx.toArray⟩]) := by show _ = _; rw [scells_append]; rfl
                  rw [← htx] at hst
                  have HC5 : Hid (Reads wr w1.heap.size 1 (some ad) 0 (bts (rem.drop (3 + 0)))) := by show Reads _ _ _ _ _ _; rw [Nat.add_zero, HDR.out]; exact hd0
                  have hown := HOWN.out
                  have hsz := hbw.size
                  clear hd0 HFB hRk htx
                  go_wp2_with (at_builtin; (refine wpList_push _ rfl (.tmp 44) (.tmp 49) 23 rfl w1.heap.size 9 i0 (.string ByteArray.empty) 1 16 Try.underlying23 hi0 hz0 hz1 hz2 rfl (by decide) (.slice A3 k c3) k _ rfl hown 1 #[.string ⟨tx.toArray⟩] 9 (by simp [Act.eval]) rfl (by simp [Value.oneCell']) (by unfold maxLen; omega) (by omega) hsz ?_); intro v4 w4 hown4 hb4 _)
                  obtain ⟨A4, c4, rfl, _, _, _⟩ := own_form hown4
                  have HB4 := Lib.hid (hbw.trans hb4)
                  have HRD := Lib.hid (HC5.out.below hb4)
                  have HO4 : Hid (w4.ownsRow w1.heap.size 9 1 (.slice A4 (k + 1) c4) (k + 1) (scells (out ++ [tx]))) := by show World.ownsRow _ _ _ _ _ _ _; rw [HOUT.out]; exact hown4
                  clear hown4 hb4 hown hst
                  go_wp2_with fail
                  go_roundw
                  case rel => exact ⟨k + 1, _, _, _, A4, c4, rem.drop (3 + 0), out ++ [tx], by omega, by go_num, rfl, by omega, by omega, by omega, (by show _ = _; rw [List.length_drop, ← hql.out] <;> omega), (by have := HRD.out; first | exact this | (simp only [Option.map_some, add_off] at this; exact this) | simpa [Addr.add, Nat.sub_sub] using this), HR2.out, (by show _ = _; rw [List.length_append, ← hko.out]; rfl), rfl, HO4.out, HB4.out⟩
                  case measure => simp [intOf]; omega
            · rw [if_neg hc3] at hd0
              have HD := Lib.hid hd0
              clear hd0
              go_wp2_with fail
              refine HNUM.out.mono ?_
              rintro e w2 ⟨rfl, hw⟩
              rw [← hw]
              clear hw w2 HNUM
              by_cases h65 : 65536 < S
              · have HE : Hid (R = .error 5) := by show _ = _; rw [hRk.out, HFB.out, if_neg (by rw [← hql.out]; exact hq3), if_pos h65]; rfl
                go_wp2_with fail
                go_ret2
                exact ⟨by rw [HE.out]; rfl, hb1.trans (hbw.mono hb1.size)⟩
              · by_cases hqS : q - 3 < S
                · have HE : Hid (R = .error 8) := by show _ = _; rw [hRk.out, HFB.out, if_neg (by rw [← hql.out]; exact hq3), if_neg h65, if_pos (by rw [← hql.out]; omega)]; rfl
                  go_wp2_with fail
                  go_ret2
                  exact ⟨by rw [HE.out]; rfl, hb1.trans (hbw.mono hb1.size)⟩
                · have hd5 : Reads wr w1.heap.size 1 (some ⟨ad.block, ad.off + 3, none⟩) (q - 3) (bts (rem.drop 3)) := HD.out
                  have hq5 : q - 3 = (rem.drop 3).length := by rw [List.length_drop, ← hql.out]
                  have hst := str_of (P := Try.prog) (c := c2 - 3) (bpre2 hd5 hq5 (k := S) (by omega)) (show S = ((rem.drop 3).take S).length by rw [List.length_take, ← hq5]; omega) Try.underlying27 Try.underlying5 Try.underlying9
                  have hc5 := hd5.cut (k := S) (cap := c2 - 3) (by omega) (by omega)
                  simp only [Nat.mul_one, ← bts_drop, List.drop_drop] at hc5
                  have HR2 : Hid (R = combR (out ++ [(rem.drop 3).take S]) (fbody (N - (k + 1)) (rem.drop (3 + S)))) := by
                    show _ = _
                    rw [hRk.out, HFB.out, if_neg (by rw [← hql.out]; exact hq3), if_neg h65, if_neg (by rw [← hql.out]; omega), show N - (k + 1) = m by omega]
                    cases fbody m (rem.drop (3 + S)) <;> simp [combR]
                  have hS0 : (0 : Int) ≤ (S : Int) := by omega
                  have hS1 : (S : Int) ≤ ((q - 3 : Nat) : Int) := by omega
                  have hS2 : (S : Int) ≤ ((c2 - 3 : Nat) : Int) := by omega
                  have HQ5 := Lib.hid hq5
                  have HOUT : Hid (scells (out ++ [(rem.drop 3).take S]) = scells out ++ [.string ⟨((rem.drop 3).take S).toArray⟩]) := by show _ = _; rw [scells_append]; rfl
                  have hown := HOWN.out
                  have hsz := hbw.size
                  generalize (rem.drop 3).take S = tx at hst HOUT HR2
                  clear hd5 hq5 HFB hRk HD
                  by_cases hcs : c2 - 3 = S
                  · rw [if_pos hcs] at hc5
                    rw [hcs] at hst hS2
                    have HC5 := Lib.hid hc5
                    clear hc5
                    go_wp2_with (at_builtin; (refine wpList_push _ rfl (.tmp 44) (.tmp 49) 23 rfl w1.heap.size 9 i0 (.string ByteArray.empty) 1 16 Try.underlying23 hi0 hz0 hz1 hz2 rfl (by decide) (.slice A3 k c3) k _ rfl hown 1 #[.string ⟨tx.toArray⟩] 9 (by simp [Act.eval]) rfl (by simp [Value.oneCell']) (by unfold maxLen; omega) (by omega) hsz ?_); intro v4 w4 hown4 hb4 _)
                    obtain ⟨A4, c4, rfl, _, _, _⟩ := own_form hown4
                    have HB4 := Lib.hid (hbw.trans hb4)
                    have HRD := Lib.hid (HC5.out.below hb4)
                    have HO4 : Hid (w4.ownsRow w1.heap.size 9 1 (.slice A4 (k + 1) c4) (k + 1) (scells (out ++ [tx]))) := by show World.ownsRow _ _ _ _ _ _ _; rw [HOUT.out]; exact hown4
                    clear hown4 hb4 hown hst
                    go_wp2_with fail
                    go_roundw
                    case rel => exact ⟨k + 1, _, _, _, A4, c4, rem.drop (3 + S), out ++ [tx], by omega, by go_num, rfl, by omega, by omega, by omega, (by show _ = _; rw [List.length_drop, ← hql.out] <;> omega), (by have := HRD.out; first | exact this | (simp only [Option.map_some, add_off] at this; exact this) | simpa [Addr.add, Nat.sub_sub] using this), HR2.out, (by show _ = _; rw [List.length_append, ← hko.out]; rfl), rfl, HO4.out, HB4.out⟩
                    case measure => simp [intOf]; omega
                  · rw [if_neg hcs] at hc5
                    have HC5 := Lib.hid hc5
                    clear hc5
                    go_wp2_with (at_builtin; (refine wpList_push _ rfl (.tmp 44) (.tmp 49) 23 rfl w1.heap.size 9 i0 (.string ByteArray.empty) 1 16 Try.underlying23 hi0 hz0 hz1 hz2 rfl (by decide) (.slice A3 k c3) k _ rfl hown 1 #[.string ⟨tx.toArray⟩] 9 (by simp [Act.eval]) rfl (by simp [Value.oneCell']) (by unfold maxLen; omega) (by omega) hsz ?_); intro v4 w4 hown4 hb4 _)
                    obtain ⟨A4, c4, rfl, _, _, _⟩ := own_form hown4
                    have HB4 := Lib.hid (hbw.trans hb4)
                    have HRD := Lib.hid (HC5.out.below hb4)
                    have HO4 : Hid (w4.ownsRow w1.heap.size 9 1 (.slice A4 (k + 1) c4) (k + 1) (scells (out ++ [tx]))) := by show World.ownsRow _ _ _ _ _ _ _; rw [HOUT.out]; exact hown4
                    clear hown4 hb4 hown hst
                    go_wp2_with fail
                    go_roundw
                    case rel => exact ⟨k + 1, _, _, _, A4, c4, rem.drop (3 + S), out ++ [tx], by omega, by go_num, rfl, by omega, by omega, by omega, (by show _ = _; rw [List.length_drop, ← hql.out] <;> omega), (by have := HRD.out; first | exact this | (simp only [Option.map_some, add_off] at this; exact this) | simpa [Addr.add, Nat.sub_sub] using this), HR2.out, (by show _ = _; rw [List.length_append, ← hko.out]; rfl), rfl, HO4.out, HB4.out⟩
                    case measure => simp [intOf]; omega
        · have hkN : k = N := by omega
          have hfin : fbody (N - k) rem = if rem.length = 0 then .ok [] else .error 9 := by rw [show N - k = 0 by omega]; rfl
          by_cases hq0 : q = 0
          · have HE : Hid (R = .ok out) := by show _ = _; rw [hRk.out, hfin, if_pos (by rw [← hql.out]; exact hq0)]; simp [combR]
            have HO := Lib.hid hown
            have HK : Hid (k = out.length) := hko
            subst hq0
            clear hfin hrd hown hRk hql
            go_wp2_with fail
            go_ret2
            refine ⟨?_, hb1.trans (hbw.mono hb1.size)⟩
            rw [HE.out]
            exact ⟨_, rfl, by rw [← HK.out]; exact own_mono HO.out hb1.size⟩
          · have HE : Hid (R = .error 9) := by show _ = _; rw [hRk.out, hfin, if_neg (by rw [← hql.out]; exact hq0)]; rfl
            have hqp : (0 : Int) < (q : Int) := by omega
            clear hfin hrd hown hRk
            go_wp2_with fail
            go_ret2
            exact ⟨by rw [HE.out]; rfl, hb1.trans (hbw.mono hb1.size)⟩
end Go.Proofs.Ytcbeadldieeceaa

/-
  The reader of a record's texts: text, number, by their contracts.
-/
namespace Go.Proofs.Ytcbeadldieeceaa
open Go.RowKit

theorem grown_of_below {w w' : World} (h : Below w.heap.size w w') (row : Option Nat) : w.grownBy w' row := ⟨h.os, h.tape, h.output, h.size, fun k hk _ => h.block k hk⟩
theorem grown_set (w : World) (g : Nat) (i : Nat) (u : Value) : w.grownBy (w.setCell ⟨g, i, none⟩ u) (some g) := ⟨rfl, rfl, rfl, by simp [World.setCell], fun k _ hne => Below.heap_setCell _ _ _ _ (fun e => hne (by rw [e]))⟩
theorem grown_trans {a b c : World} {row : Option Nat} (h : a.grownBy b row) (k : b.grownBy c row) : a.grownBy c row :=
  ⟨k.os.trans h.os, k.tape.trans h.tape, k.output.trans h.output, Nat.le_trans h.size k.size, fun i hi hne => (k.block i (Nat.lt_of_lt_of_le hi h.size) hne).trans (h.block i hi hne)⟩
/-- a reader at block g: what is left, and whether all went well -/
def RdIn (B g : Nat) (l : List BS) (ok : Bool) (W : World) : Prop := ∃ A n c, Blk W g 129 #[.slice A n c, .bool ok] ∧ n = l.length ∧ Reads W B 1 A n (scells l) ∧ n ≤ c ∧ c ≤ maxLen
theorem reads_at {W W' : World} {B size n g : Nat} {A : Option Addr} {xs : List Value} (h : Reads W B size A n xs) (hg : W.grownBy W' (some g)) (hB : B ≤ g) (hW : B ≤ W.heap.size) : Reads W' B size A n xs :=
  h.below ⟨hg.os, hg.tape, hg.output, hg.size, fun k hk => hg.block k (by omega) (fun e => by cases e; omega)⟩
def txtV (l : List BS) : BS := l.headD []
def txtOk (l : List BS) (ok : Bool) : Bool := if l = [] then false else ok
set_option maxRecDepth 100000 in
set_option maxHeartbeats 1000000 in
theorem rtext_any (l : List BS) (ok : Bool) (B g : Nat) (hB : B ≤ g) (w : World) (h : RdIn B g l ok w) (hn1 : l.length ≤ 100000) :
    Calls Try.prog 65 #[.pointer (some ⟨g, 0, none⟩)] w fun e w' => e = .returned (.string ⟨(txtV l).toArray⟩) ∧ RdIn B g l.tail (txtOk l ok) w' ∧ w.grownBy w' (some g) := by
  obtain ⟨A, n, c, hk, hnl, hr, hc, hcm⟩ := h
  have hBW : B ≤ w.heap.size := by have := hk.lt; omega
  obtain ⟨c0, c1, f0, f1⟩ := blk2 hk
  cases l with
  | nil =>
    obtain rfl : n = 0 := hnl
    have hr2 := reads_at hr (grown_set w g 1 (.bool false)) hB hBW
    have hk2 := hk.set_ 1 (.bool false)
    have HK := Lib.hid hk2
    have HR := Lib.hid hr2
    clear hr hr2 hk2 hk
    go_enter Try.func65, Try.ntmps65
    go_wp2_with fail
    go_ret
    refine ⟨rfl, ⟨A, 0, c, ?_, rfl, HR.out, hc, hcm⟩, grown_set _ _ _ _⟩
    simpa [txtOk] using HK.out
  | cons x l =>
    obtain ⟨m, rfl⟩ : ∃ m, n = m + 1 := ⟨n - 1, by simp only [List.length_cons] at hnl; omega⟩
    have hml : m = l.length := by simp only [List.length_cons] at hnl; omega
    obtain ⟨ad, rfl, hadB, hcell⟩ := strs_at hr hnl (k := 0) (by omega)
    simp only [strV, List.getElem_cons_zero, add_zero] at hcell
    have hcut := hr.cut (k := 1) (cap := c) (by omega) hc
    simp only [Nat.mul_one, Nat.add_sub_cancel] at hcut
    have hdr : (scells (x :: l)).drop 1 = scells l := rfl
    rw [hdr] at hcut
    have hi1 : (1 : Int) ≤ ((m + 1 : Nat) : Int) := by omega
    have hi2 : (1 : Int) ≤ (c : Int) := by omega
    have hne : (((m + 1 : Nat) : Int) == 0) = false := by simp; omega
    have HML := Lib.hid hml
    have hc1l : m + 1 ≤ c := hc
    by_cases hc1 : c = 1
    · subst hc1
      obtain rfl : m = 0 := by omega
      simp only [if_true] at hcut
      have hr2 := reads_at hcut (grown_set w g 0 (.slice (some ad) 0 0)) hB hBW
      have HK := Lib.hid (hk.set_ 0 (.slice (some ad) 0 0))
      have HR := Lib.hid hr2
      clear hr hr2 hcut hk hnl hml hdr
      go_enter Try.func65, Try.ntmps65
      go_wp2_with fail
      go_ret
      refine ⟨rfl, ⟨some ad, 0, 0, ?_, HML.out, HR.out, by omega, by omega⟩, grown_set _ _ _ _⟩
      simpa [txtOk] using HK.out
    · rw [if_neg hc1] at hcut
      have hcut2 : Reads w B 1 (some ⟨ad.block, ad.off + 1, none⟩) m (scells l) := hcut
      have hr2 := reads_at hcut2 (grown_set w g 0 (.slice (some ⟨ad.block, ad.off + 1, none⟩) m (c - 1))) hB hBW
      have HK := Lib.hid (hk.set_ 0 (.slice (some ⟨ad.block, ad.off + 1, none⟩) m (c - 1)))
      have HR := Lib.hid hr2
      clear hr hr2 hcut hcut2 hk hnl hml hdr
      go_enter Try.func65, Try.ntmps65
      go_wp2_with fail
      go_ret
      refine ⟨rfl, ⟨_, m, c - 1, ?_, HML.out, HR.out, by omega, by omega⟩, grown_set _ _ _ _⟩
      simpa [txtOk] using HK.out
def numOk (l : List BS) (ok : Bool) : Bool := txtOk l ok && (fnE (txtV l) == 0)
set_option maxRecDepth 100000 in
set_option maxHeartbeats 1000000 in
theorem rnumber_any (l : List BS) (ok : Bool) (B g : Nat) (hB : B ≤ g) (w : World) (h : RdIn B g l ok w) (hn1 : l.length ≤ 100000) :
    Calls Try.prog 66 #[.pointer (some ⟨g, 0, none⟩)] w fun e w' => e = .returned (.int .i64 (fnV (txtV l))) ∧ RdIn B g l.tail (numOk l ok) w' ∧ w.grownBy w' (some g) := by
  have ht := Lib.hid (rtext_any l ok B g hB w h hn1)
  obtain ⟨A0, n0, c0, hk0, _⟩ := h
  have hgw : g < w.heap.size := hk0.lt
  obtain ⟨E, hE⟩ : ∃ E, E = fnE (txtV l) := ⟨_, rfl⟩
  obtain ⟨V, hV⟩ : ∃ V, V = fnV (txtV l) := ⟨_, rfl⟩
  have hf := fun W => fnumber_any (txtV l) W
  rw [← hE, ← hV] at hf
  rw [← hV]
  obtain ⟨o1, ho1⟩ : ∃ o, o = txtOk l ok := ⟨_, rfl⟩
  have hno : numOk l ok = (o1 && (E == 0)) := by rw [ho1, hE]; rfl
  rw [← ho1] at ht
  rw [hno]
  have HF := Lib.hid hf
  clear hf hE hV ho1 hno hk0
  go_enter Try.func66, Try.ntmps66
  go_wp2_with fail
  refine ht.out.mono ?_
  clear ht
  rintro e w1 ⟨rfl, ⟨A, n, c, hk, hnl, hr, hc, hcm⟩, hg1⟩
  have HG1 := Lib.hid hg1
  have hsz1 := hg1.size
  clear hg1
  go_wp2_with fail
  refine (HF.out w1).mono ?_
  rintro e w2 ⟨rfl, hb2⟩
  have hk := hk.below hb2 (by omega)
  have hr := hr.below (hb2.mono (by omega))
  have HG2 := Lib.hid (grown_trans HG1.out (grown_of_below hb2 (some g)))
  have hBW : B ≤ w2.heap.size := by have := hb2.size; omega
  obtain ⟨c0, c1, f0, f1⟩ := blk2 hk
  have HNL := Lib.hid hnl
  have HR := Lib.hid hr
  have HK := Lib.hid hk
  clear hk hr hb2 HG1 HF hnl
  have hfin : ∀ b : Bool, RdIn B g l.tail b (w2.setCell ⟨g, 1, none⟩ (.bool b)) ∧ w.grownBy (w2.setCell ⟨g, 1, none⟩ (.bool b)) (some g) := by
    intro b
    refine ⟨⟨A, n, c, by simpa using HK.out.set_ 1 (.bool b), HNL.out, reads_at HR.out (grown_set _ _ _ _) hB hBW, hc, hcm⟩, grown_trans HG2.out (grown_set _ _ _ _)⟩
  have HFIN := Lib.hid hfin
  clear hfin
  cases o1 with
  | false =>
    go_wp2_with fail
    go_ret
    exact ⟨rfl, HFIN.out false⟩
  | true =>
    by_cases h0 : E = 0
    · subst h0
      go_wp2_with fail
      go_ret
      exact ⟨rfl, HFIN.out true⟩
    · have hd : (E == 0) = false := by simp [h0]
      go_wp2_with fail
      go_ret
      refine ⟨rfl, ?_⟩
      rw [show (true && E == 0) = false by simp [h0]]
      exact HFIN.out false
end Go.Proofs.Ytcbeadldieeceaa

/-
  record.read, by its contract. (mkrcread.py)
-/
namespace Go.Proofs.Ytcbeadldieeceaa
open Go.RowKit

/-- three boxes: the result's, the reader's, the record's -/
theorem three_boxes (w : World) (C1 C2 C3 : Array Value) (t1 t2 t3 : TypeId) : Blk (((w.alloc (.cells C1 t1)).alloc (.cells C2 t2)).alloc (.cells C3 t3)) w.heap.size t1 C1 ∧ Blk (((w.alloc (.cells C1 t1)).alloc (.cells C2 t2)).alloc (.cells C3 t3)) (w.heap.size + 1) t2 C2 ∧
    Blk (((w.alloc (.cells C1 t1)).alloc (.cells C2 t2)).alloc (.cells C3 t3)) (w.heap.size + 1 + 1) t3 C3 ∧ Below w.heap.size w (((w.alloc (.cells C1 t1)).alloc (.cells C2 t2)).alloc (.cells C3 t3)) := by
  have hz1 : (w.alloc (.cells C1 t1)).heap.size = w.heap.size + 1 := by simp
  have hz2 : ((w.alloc (.cells C1 t1)).alloc (.cells C2 t2)).heap.size = w.heap.size + 1 + 1 := by simp
  have k2 := Blk.new (w.alloc (.cells C1 t1)) t2 C2
  have k3 := Blk.new ((w.alloc (.cells C1 t1)).alloc (.cells C2 t2)) t3 C3
  rw [hz1] at k2
  rw [hz2] at k3
  exact ⟨((Blk.new w t1 C1).alloc _).alloc _, k2.alloc _, k3, (((Below.refl _ w).alloc (Nat.le_refl _) _).alloc (by omega) _).alloc (by omega) _⟩
theorem frozen12 {w : World} {g : Nat} {t : TypeId} {cs : Array Value} (h : Blk w g t cs) :
    w.frozen? ⟨g, 0, none⟩ = false ∧ w.frozen? ⟨g, 1, none⟩ = false ∧ w.frozen? ⟨g, 2, none⟩ = false ∧ w.frozen? ⟨g, 3, none⟩ = false ∧ w.frozen? ⟨g, 4, none⟩ = false ∧ w.frozen? ⟨g, 5, none⟩ = false ∧ w.frozen? ⟨g, 6, none⟩ = false ∧ w.frozen? ⟨g, 7, none⟩ = false ∧
      w.frozen? ⟨g, 8, none⟩ = false ∧ w.frozen? ⟨g, 9, none⟩ = false ∧ w.frozen? ⟨g, 10, none⟩ = false ∧ w.frozen? ⟨g, 11, none⟩ = false :=
  ⟨h.frozen 0, h.frozen 1, h.frozen 2, h.frozen 3, h.frozen 4, h.frozen 5, h.frozen 6, h.frozen 7, h.frozen 8, h.frozen 9, h.frozen 10, h.frozen 11⟩

set_option maxRecDepth 100000 in
set_option maxHeartbeats 4000000 in
theorem rread2_any (l : List BS) (n : Nat) (hnl : n = l.length) (A : Option Addr) (c : Nat) (w : World) (B : Nat) (hr : Reads w B 1 A n (scells l)) (hB : B ≤ w.heap.size) (hc : n ≤ c) (hcm : c ≤ maxLen) (hn : n ≤ 100000) :
    Calls Try.prog 49 #[.int .i64 2, .slice A n c] w fun e w' => e = .returned (.tuple #[rcV { Rc0 with kind := 2, ix := fnV (txtV l), dt := txtV l.tail } (.slice none 0 0), .bool (txtOk l.tail (numOk l true) && decide (l.tail.tail = []))]) ∧ Below w.heap.size w w' := by
  have h3 := three_boxes w #[.int .i64 0, .string ⟨#[]⟩, .int .i64 0, .int .i64 0, .slice none 0 0, .int .i64 0, .int .i64 0, .string ⟨#[]⟩, .int .u64 0, .int .u64 0, .int .u64 0, .int .u64 0] #[.slice A n c, .bool true] #[.int .i64 2, .string ⟨#[]⟩, .int .i64 0, .int .i64 0, .slice none 0 0, .int .i64 0, .int .i64 0, .string ⟨#[]⟩, .int .u64 0, .int .u64 0, .int .u64 0, .int .u64 0] 47 129 47
  obtain ⟨W0, hW0⟩ : ∃ W0, W0 = ((w.alloc (.cells #[.int .i64 0, .string ⟨#[]⟩, .int .i64 0, .int .i64 0, .slice none 0 0, .int .i64 0, .int .i64 0, .string ⟨#[]⟩, .int .u64 0, .int .u64 0, .int .u64 0, .int .u64 0] 47)).alloc (.cells #[.slice A n c, .bool true] 129)).alloc (.cells #[.int .i64 2, .string ⟨#[]⟩, .int .i64 0, .int .i64 0, .slice none 0 0, .int .i64 0, .int .i64 0, .string ⟨#[]⟩, .int .u64 0, .int .u64 0, .int .u64 0, .int .u64 0] 47) := ⟨_, rfl⟩
  rw [← hW0] at h3
  obtain ⟨k1, k2, k3, hb0⟩ := h3
  have hrd : RdIn w.heap.size (w.heap.size + 1) l true W0 := ⟨A, n, c, k2, hnl, (hr.below (hb0.mono hB)).more hB, hc, hcm⟩
  have hnum := Lib.hid (rnumber_any l true w.heap.size (w.heap.size + 1) (by omega) W0 hrd (by omega))
  have HW0 := Lib.hid hW0
  have K1 := Lib.hid k1
  have K3 := Lib.hid k3
  have HB0 := Lib.hid hb0
  have hlen : l.tail.length ≤ 100000 := by rw [List.length_tail]; omega
  have HLEN := Lib.hid hlen
  obtain ⟨V, hV⟩ : ∃ V, V = fnV (txtV l) := ⟨_, rfl⟩
  obtain ⟨o1, ho1⟩ : ∃ o, o = numOk l true := ⟨_, rfl⟩
  obtain ⟨l1, hl1⟩ : ∃ x, x = l.tail := ⟨_, rfl⟩
  rw [← hV, ← ho1, ← hl1] at hnum
  rw [← hl1] at HLEN
  rw [← hV, ← ho1, ← hl1]
  obtain ⟨s, hs⟩ : ∃ s, s = txtV l1 := ⟨_, rfl⟩
  obtain ⟨o2, ho2⟩ : ∃ o, o = txtOk l1 o1 := ⟨_, rfl⟩
  obtain ⟨l2, hl2⟩ : ∃ x, x = l1.tail := ⟨_, rfl⟩
  rw [← hs, ← ho2, ← hl2]
  obtain ⟨R, hR⟩ : ∃ R, R = (o2 && decide (l2 = [])) := ⟨_, rfl⟩
  rw [← hR]
  have HR := Lib.hid hR
  clear hR
  have HS : Hid (txtV l1 = s ∧ txtOk l1 o1 = o2 ∧ l1.tail = l2) := ⟨hs.symm, ho2.symm, hl2.symm⟩
  clear hW0 k1 k2 k3 hb0 hrd hr hnl hlen hV ho1 hl1 hs ho2 hl2
  go_enter Try.func49, Try.ntmps49
  go_wp2_with fail
  rw [← HW0.out]
  refine hnum.out.mono ?_
  clear hnum
  rintro e w1 ⟨rfl, hrd1, hg1⟩
  have htx := (rtext_any l1 o1 w.heap.size (w.heap.size + 1) (by omega) w1 hrd1 HLEN.out)
  rw [HS.out.1, HS.out.2.1, HS.out.2.2] at htx
  have htx := Lib.hid htx
  have K1 := Lib.hid (K1.out.grown hg1 (fun e => by injection e; omega))
  have K3 := Lib.hid (K3.out.grown hg1 (fun e => by injection e; omega))
  have HB1 := Lib.hid (HB0.out.grown hg1 HB0.out.size (fun k hk => by injection hk; omega))
  clear hrd1 hg1 HB0 HW0
  go_wp2_with fail
  refine htx.out.mono ?_
  clear htx
  rintro e w2 ⟨rfl, ⟨A2, n2, c2, hk2, hn2, _, _, _⟩, hg2⟩
  have k1 := K1.out.grown hg2 (fun e => by injection e; omega)
  have k3 := K3.out.grown hg2 (fun e => by injection e; omega)
  have HB2 := Lib.hid (HB1.out.grown hg2 HB1.out.size (fun k hk => by injection hk; omega))
  clear K1 K3 HB1 hg2
  obtain ⟨a0, a1, a2, a3, a4, a5, a6, a7, a8, a9, a10, a11⟩ := blk12 k1
  obtain ⟨g0, g1, g2, g3, g4, g5, g6, g7, g8, g9, g10, g11⟩ := frozen12 k1
  obtain ⟨b0, b1, b2, b3, b4, b5, b6, b7, b8, b9, b10, b11⟩ := blk12 k3
  obtain ⟨f0, f1, f2, f3, f4, f5, f6, f7, f8, f9, f10, f11⟩ := frozen12 k3
  obtain ⟨r0, r1, rf0, rf1⟩ := blk2 hk2
  have HN2 := Lib.hid hn2
  clear k1 k3 hk2 hn2
  cases o2 with
  | false =>
    have HF : Hid (R = false) := by show _ = _; rw [HR.out]; rfl
    go_wp2_with fail
    go_region
    go_wp2_with fail
    refine bodyPost_ret (v := .tuple #[.agg #[.int .i64 2, .string ⟨#[]⟩, .int .i64 0, .int .i64 0, .slice none 0 0, .int .i64 V, .int .i64 0, .string ⟨s.toArray⟩, .int .u64 0, .int .u64 0, .int .u64 0, .int .u64 0], .bool false]) (by simp [results, Try.results49, go_sem, a0, a1, a2, a3, a4, a5, a6, a7, a8, a9, a10, a11]) rfl ⟨by rw [HF.out]; rfl, ?_⟩
    with_reducible refine Below.drew ?_
    repeat (with_reducible refine Below.setCell ?_ (by dsimp only; omega) _)
    with_reducible exact HB2.out
  | true =>
    by_cases h0 : n2 = 0
    · have HF : Hid (R = true) := by
        show _ = _
        rw [HR.out, decide_eq_true (List.eq_nil_of_length_eq_zero (by rw [← HN2.out]; exact h0))]
        rfl
      subst h0
      go_wp2_with fail
      go_region
      go_wp2_with fail
      refine bodyPost_ret (v := .tuple #[.agg #[.int .i64 2, .string ⟨#[]⟩, .int .i64 0, .int .i64 0, .slice none 0 0, .int .i64 V, .int .i64 0, .string ⟨s.toArray⟩, .int .u64 0, .int .u64 0, .int .u64 0, .int .u64 0], .bool true]) (by simp [results, Try.results49, go_sem, a0, a1, a2, a3, a4, a5, a6, a7, a8, a9, a10, a11]) rfl ⟨by rw [HF.out]; rfl, ?_⟩
      with_reducible refine Below.drew ?_
      repeat (with_reducible refine Below.setCell ?_ (by dsimp only; omega) _)
      with_reducible exact HB2.out
    · have HF : Hid (R = false) := by
        show _ = _
        rw [HR.out, decide_eq_false (fun e => h0 (by rw [HN2.out, e]; rfl))]
        rfl
      have hd : ((n2 : Int) == 0) = false := by simp; omega
      go_wp2_with fail
      go_region
      go_wp2_with fail
      refine bodyPost_ret (v := .tuple #[.agg #[.int .i64 2, .string ⟨#[]⟩, .int .i64 0, .int .i64 0, .slice none 0 0, .int .i64 V, .int .i64 0, .string ⟨s.toArray⟩, .int .u64 0, .int .u64 0, .int .u64 0, .int .u64 0], .bool false]) (by simp [results, Try.results49, go_sem, a0, a1, a2, a3, a4, a5, a6, a7, a8, a9, a10, a11]) rfl ⟨by rw [HF.out]; rfl, ?_⟩
      with_reducible refine Below.drew ?_
      repeat (with_reducible refine Below.setCell ?_ (by dsimp only; omega) _)
      with_reducible exact HB2.out

set_option maxRecDepth 100000 in
set_option maxHeartbeats 4000000 in
theorem rread3_any (l : List BS) (n : Nat) (hnl : n = l.length) (A : Option Addr) (c : Nat) (w : World) (B : Nat) (hr : Reads w B 1 A n (scells l)) (hB : B ≤ w.heap.size) (hc : n ≤ c) (hcm : c ≤ maxLen) (hn : n ≤ 100000) :
    Calls Try.prog 49 #[.int .i64 3, .slice A n c] w fun e w' => e = .returned (.tuple #[rcV { Rc0 with kind := 3, ix := fnV (txtV l), ct := fnV (txtV l.tail) } (.slice none 0 0), .bool (numOk l.tail (numOk l true) && decide (l.tail.tail = []))]) ∧ Below w.heap.size w w' := by
  have h3 := three_boxes w #[.int .i64 0, .string ⟨#[]⟩, .int .i64 0, .int .i64 0, .slice none 0 0, .int .i64 0, .int .i64 0, .string ⟨#[]⟩, .int .u64 0, .int .u64 0, .int .u64 0, .int .u64 0] #[.slice A n c, .bool true] #[.int .i64 3, .string ⟨#[]⟩, .int .i64 0, .int .i64 0, .slice none 0 0, .int .i64 0, .int .i64 0, .string ⟨#[]⟩, .int .u64 0, .int .u64 0, .int .u64 0, .int .u64 0] 47 129 47
  obtain ⟨W0, hW0⟩ : ∃ W0, W0 = ((w.alloc (.cells #[.int .i64 0, .string ⟨#[]⟩, .int .i64 0, .int .i64 0, .slice none 0 0, .int .i64 0, .int .i64 0, .string ⟨#[]⟩, .int .u64 0, .int .u64 0, .int .u64 0, .int .u64 0] 47)).alloc (.cells #[.slice A n c, .bool true] 129)).alloc (.cells #[.int .i64 3, .string ⟨#[]⟩, .int .i64 0, .int .i64 0, .slice none 0 0, .int .i64 0, .int .i64 0, .string ⟨#[]⟩, .int .u64 0, .int .u64 0, .int .u64 0, .int .u64 0] 47) := ⟨_, rfl⟩
  rw [← hW0] at h3
  obtain ⟨k1, k2, k3, hb0⟩ := h3
  have hrd : RdIn w.heap.size (w.heap.size + 1) l true W0 := ⟨A, n, c, k2, hnl, (hr.below (hb0.mono hB)).more hB, hc, hcm⟩
  have hnum := Lib.hid (rnumber_any l true w.heap.size (w.heap.size + 1) (by omega) W0 hrd (by omega))
  have HW0 := Lib.hid hW0
  have K1 := Lib.hid k1
  have K3 := Lib.hid k3
  have HB0 := Lib.hid hb0
  have hlen : l.tail.length ≤ 100000 := by rw [List.length_tail]; omega
  have HLEN := Lib.hid hlen
  obtain ⟨V, hV⟩ : ∃ V, V = fnV (txtV l) := ⟨_, rfl⟩
  obtain ⟨o1, ho1⟩ : ∃ o, o = numOk l true := ⟨_, rfl⟩
  obtain ⟨l1, hl1⟩ : ∃ x, x = l.tail := ⟨_, rfl⟩
  rw [← hV, ← ho1, ← hl1] at hnum
  rw [← hl1] at HLEN
  rw [← hV, ← ho1, ← hl1]
  obtain ⟨s, hs⟩ : ∃ s, s = fnV (txtV l1) := ⟨_, rfl⟩
  obtain ⟨o2, ho2⟩ : ∃ o, o = numOk l1 o1 := ⟨_, rfl⟩
  obtain ⟨l2, hl2⟩ : ∃ x, x = l1.tail := ⟨_, rfl⟩
  rw [← hs, ← ho2, ← hl2]
  obtain ⟨R, hR⟩ : ∃ R, R = (o2 && decide (l2 = [])) := ⟨_, rfl⟩
  rw [← hR]
  have HR := Lib.hid hR
  clear hR
  have HS : Hid (fnV (txtV l1) = s ∧ numOk l1 o1 = o2 ∧ l1.tail = l2) := ⟨hs.symm, ho2.symm, hl2.symm⟩
  clear hW0 k1 k2 k3 hb0 hrd hr hnl hlen hV ho1 hl1 hs ho2 hl2
  go_enter Try.func49, Try.ntmps49
  go_wp2_with fail
  rw [← HW0.out]
  refine hnum.out.mono ?_
  clear hnum
  rintro e w1 ⟨rfl, hrd1, hg1⟩
  have htx := (rnumber_any l1 o1 w.heap.size (w.heap.size + 1) (by omega) w1 hrd1 HLEN.out)
  rw [HS.out.1, HS.out.2.1, HS.out.2.2] at htx
  have htx := Lib.hid htx
  have K1 := Lib.hid (K1.out.grown hg1 (fun e => by injection e; omega))
  have K3 := Lib.hid (K3.out.grown hg1 (fun e => by injection e; omega))
  have HB1 := Lib.hid (HB0.out.grown hg1 HB0.out.size (fun k hk => by injection hk; omega))
  clear hrd1 hg1 HB0 HW0
  go_wp2_with fail
  refine htx.out.mono ?_
  clear htx
  rintro e w2 ⟨rfl, ⟨A2, n2, c2, hk2, hn2, _, _, _⟩, hg2⟩
  have k1 := K1.out.grown hg2 (fun e => by injection e; omega)
  have k3 := K3.out.grown hg2 (fun e => by injection e; omega)
  have HB2 := Lib.hid (HB1.out.grown hg2 HB1.out.size (fun k hk => by injection hk; omega))
  clear K1 K3 HB1 hg2
  obtain ⟨a0, a1, a2, a3, a4, a5, a6, a7, a8, a9, a10, a11⟩ := blk12 k1
  obtain ⟨g0, g1, g2, g3, g4, g5, g6, g7, g8, g9, g10, g11⟩ := frozen12 k1
  obtain ⟨b0, b1, b2, b3, b4, b5, b6, b7, b8, b9, b10, b11⟩ := blk12 k3
  obtain ⟨f0, f1, f2, f3, f4, f5, f6, f7, f8, f9, f10, f11⟩ := frozen12 k3
  obtain ⟨r0, r1, rf0, rf1⟩ := blk2 hk2
  have HN2 := Lib.hid hn2
  clear k1 k3 hk2 hn2
  cases o2 with
  | false =>
    have HF : Hid (R = false) := by show _ = _; rw [HR.out]; rfl
    go_wp2_with fail
    go_region
    go_wp2_with fail
    refine bodyPost_ret (v := .tuple #[.agg #[.int .i64 3, .string ⟨#[]⟩, .int .i64 0, .int .i64 0, .slice none 0 0, .int .i64 V, .int .i64 s, .string ⟨#[]⟩, .int .u64 0, .int .u64 0, .int .u64 0, .int .u64 0], .bool false]) (by simp [results, Try.results49, go_sem, a0, a1, a2, a3, a4, a5, a6, a7, a8, a9, a10, a11]) rfl ⟨by rw [HF.out]; rfl, ?_⟩
    with_reducible refine Below.drew ?_
    repeat (with_reducible refine Below.setCell ?_ (by dsimp only; omega) _)
    with_reducible exact HB2.out
  | true =>
    by_cases h0 : n2 = 0
    · have HF : Hid (R = true) := by
        show _ = _
        rw [HR.out, decide_eq_true (List.eq_nil_of_length_eq_zero (by rw [← HN2.out]; exact h0))]
        rfl
      subst h0
      go_wp2_with fail
      go_region
      go_wp2_with fail
      refine bodyPost_ret (v := .tuple #[.agg #[.int .i64 3, .string ⟨#[]⟩, .int .i64 0, .int .i64 0, .slice none 0 0, .int .i64 V, .int .i64 s, .string ⟨#[]⟩, .int .u64 0, .int .u64 0, .int .u64 0, .int .u64 0], .bool true]) (by simp [results, Try.results49, go_sem, a0, a1, a2, a3, a4, a5, a6, a7, a8, a9, a10, a11]) rfl ⟨by rw [HF.out]; rfl, ?_⟩
      with_reducible refine Below.drew ?_
      repeat (with_reducible refine Below.setCell ?_ (by dsimp only; omega) _)
      with_reducible exact HB2.out
    · have HF : Hid (R = false) := by
        show _ = _
        rw [HR.out, decide_eq_false (fun e => h0 (by rw [HN2.out, e]; rfl))]
        rfl
      have hd : ((n2 : Int) == 0) = false := by simp; omega
      go_wp2_with fail
      go_region
      go_wp2_with fail
      refine bodyPost_ret (v := .tuple #[.agg #[.int .i64 3, .string ⟨#[]⟩, .int .i64 0, .int .i64 0, .slice none 0 0, .int .i64 V, .int .i64 s, .string ⟨#[]⟩, .int .u64 0, .int .u64 0, .int .u64 0, .int .u64 0], .bool false]) (by simp [results, Try.results49, go_sem, a0, a1, a2, a3, a4, a5, a6, a7, a8, a9, a10, a11]) rfl ⟨by rw [HF.out]; rfl, ?_⟩
      with_reducible refine Below.drew ?_
      repeat (with_reducible refine Below.setCell ?_ (by dsimp only; omega) _)
      with_reducible exact HB2.out
end Go.Proofs.Ytcbeadldieeceaa

/-
  What record.read gives, by the plain law's 'madeL' (kinds 2, 3, 4).
-/
namespace Go.Proofs.Ytcbeadldieeceaa
open Go.RowKit

theorem made2 (l : List BS) : madeL 2 l = if (txtOk l.tail (numOk l true) && decide (l.tail.tail = [])) = true then some { Rc0 with kind := 2, ix := fnV (txtV l), dt := txtV l.tail } else none := by
  unfold madeL
  rw [if_neg (by decide), if_pos rfl]
  match l with
  | [] => rfl
  | [a] => rfl
  | [a, d] =>
    simp only [List.tail_cons, txtOk, numOk, txtV, List.headD_cons, fnE_num8]
    by_cases h : fnE a = 0 <;> simp [h]
  | a :: d :: e :: r => simp [txtOk]
theorem made3 (l : List BS) : madeL 3 l = if (numOk l.tail (numOk l true) && decide (l.tail.tail = [])) = true then some { Rc0 with kind := 3, ix := fnV (txtV l), ct := fnV (txtV l.tail) } else none := by
  unfold madeL
  rw [if_neg (by decide), if_neg (by decide), if_pos rfl]
  match l with
  | [] => rfl
  | [a] => rfl
  | [a, d] =>
    simp only [List.tail_cons, txtOk, numOk, txtV, List.headD_cons, fnE_num8]
    by_cases h : fnE a = 0 <;> by_cases h2 : fnE d = 0 <;> simp [h, h2]
  | a :: d :: e :: r => simp [numOk, txtOk]
theorem made4 (l : List BS) : madeL 4 l = if ((txtOk l true && (readE (txtV l) == 0)) && decide (l.tail = [])) = true then some { Rc0 with kind := 4, sm := readS (txtV l) } else none := by
  unfold madeL
  rw [if_neg (by decide), if_neg (by decide), if_neg (by decide)]
  match l with
  | [] => rfl
  | [s] =>
    simp only [List.tail_cons, txtOk, txtV, List.headD_cons]
    unfold readE
    by_cases h : s.length = 32
    · simp [h]
    · by_cases h2 : s.length < 32
      · simp [h, h2]
      · have h3 : 32 < s.length := by omega
        simp [h, h2, h3]
  | a :: d :: r => simp
/-- what the loop over the properties of a begin gives -/
def loopR : List BS → PL × Bool
  | [] => ([], true)
  | [a] => ([(a, [])], false)
  | a :: b :: l => ((a, b) :: (loopR l).1, (loopR l).2)
theorem pairs_loop : ∀ l : List BS, pairsL l = if (loopR l).2 = true then some (loopR l).1 else none
  | [] => rfl
  | [a] => rfl
  | a :: b :: l => by
    show (pairsL l).map ((a, b) :: ·) = _
    rw [pairs_loop l]
    show _ = if (loopR l).2 = true then some ((a, b) :: (loopR l).1) else none
    cases (loopR l).2 <;> rfl
theorem made1 (l : List BS) : madeL 1 l = if (numOk l.tail.tail (numOk l.tail (txtOk l true)) && (loopR l.tail.tail.tail).2) = true then some { Rc0 with kind := 1, nm := txtV l, frm := fnV (txtV l.tail), gd := fnV (txtV l.tail.tail), own := (loopR l.tail.tail.tail).1 } else none := by
  unfold madeL
  rw [if_pos rfl]
  match l with
  | [] => rfl
  | [a] => rfl
  | [a, d] => simp [numOk, txtOk]
  | nm :: a :: b :: rest =>
    simp only [List.tail_cons, txtOk, numOk, txtV, List.headD_cons, fnE_num8, pairs_loop]
    by_cases h : fnE a = 0 <;> by_cases h2 : fnE b = 0 <;> by_cases h3 : (loopR rest).2 = true <;> simp [h, h2, h3]
end Go.Proofs.Ytcbeadldieeceaa
