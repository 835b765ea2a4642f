/-
  octets.Cut, by its contract.
-/
import Derived.Test.YtcchnoadclidcaaClone
import Derived.Deep.RegionHeld3
namespace Go.Proofs.Ytcchnoadclidcaa
open Go.RowKit

/-- what Cut leaves where it cuts -/
def CutPost (w : World) (b : List UInt8) (k : Nat) (e : Ending) (w' : World) : Prop :=
  ∃ v1 v2, e = .returned (.tuple #[v1, v2, .int .i64 0]) ∧ w'.ownsRow w.heap.size 5 1 v1 k (bts (b.take k)) ∧ w'.ownsRow w.heap.size 5 1 v2 (b.length - k) (bts (b.drop k)) ∧ Below w.heap.size w w'

set_option maxRecDepth 100000 in
theorem cut_any (b : List UInt8) (n : Nat) (hnb : n = b.length) (A : Option Addr) (c : Nat) (k : Nat) (hk : k ≤ n) (w : World) (B : Nat) (hr : Reads w B 1 A n (bts b)) (hB : B ≤ w.heap.size) (hc : n ≤ c) (hcm : c ≤ 9223372036854775807) (hn : n ≤ 140737488351232) :
    Calls Try.prog 35 #[.slice A n c, .int .i64 (k : Int)] w (CutPost w b k) := by
  subst hnb
  have hp := hr.bpre hk
  have hkc : k ≤ c := by omega
  have hk0 : (0 : Int) ≤ (k : Int) := by omega
  have hki : (k : Int) ≤ (b.length : Int) := by omega
  have hkl : (k : Int) ≤ (c : Int) := by omega
  have hd : Reads w B 1 (if c = k then A else A.map (·.add k)) (b.length - k) (bts (b.drop k)) := by
    have := hr.cut hk hc
    simp only [Nat.mul_one] at this
    rwa [← bts_drop] at this
  have hss := (Below.refl w.heap.size w).drew
  rcases A with _ | ad
  · obtain rfl : b = [] := by
      rcases Nat.eq_zero_or_pos b.length with h | h
      · exact List.eq_nil_of_length_eq_zero h
      · obtain ⟨_, h, _⟩ := hr.2 h; cases h
    obtain rfl : k = 0 := by simpa using hk
    have hp1 := Lib.hid (show Reads w B 1 none 0 (bts []) from Reads.none_)
    have hd1 := hp1
    clear hp hd hr
    simp only [List.length_nil] at hk hki hn hc ⊢
    · go_enter Try.func35, Try.ntmps35
      go_wp2_with fail
      go_region_held3 (fun w' => Below w.heap.size w w')
        (first | (with_reducible exact hss) | (with_reducible exact hbs.out))
        (first
          | (go_at_call 63; have tok1 := hp1; (with_reducible refine (clone_any (bts []) 0 none c _ B ?_ ?_ (bts_one _) ?_).mono ?_); (exact tok1.out.below (Below.mono (by assumption) hB)); (exact below_size (w := w) (by assumption) hB); (omega); clear tok1; rintro e w1 ⟨v1, rfl, hown1, hb1⟩; have hbs := Lib.hid (below_step (w := w) (by assumption) hb1); have hO1 := Lib.hid (own_mono hown1 (Below.size (by assumption : Below w.heap.size w _))); clear hp1 hown1 hb1)
          | (go_at_call 63; (with_reducible refine (clone_any (bts []) 0 none c _ B ?_ ?_ (bts_one _) ?_).mono ?_); (exact hd1.out.below (Below.mono (by assumption) hB)); (exact below_size (w := w) (by assumption) hB); (omega); rintro e w2 ⟨v2, rfl, hown2, hb2⟩; have hO1' := Lib.hid (own_below hO1.out hb2); have hO2 := Lib.hid (own_mono hown2 (Below.size (by assumption : Below w.heap.size w _))); have hbs := Lib.hid (below_step (w := w) (by assumption) hb2); clear hown2 hb2))
      go_wp2_with fail
      go_ret3
      exact ⟨v1, v2, rfl, hO1'.out, hO2.out, by assumption⟩
  · by_cases hck : c = k
    · rw [if_pos hck] at hd
      have h00 : b.length - k = 0 := by omega
      rw [h00] at hd
      have H00 := Lib.hid h00
      clear h00
      have hp1 := Lib.hid hp
      have hd1 := Lib.hid hd
      clear hp hd hr
      subst hck
      go_enter Try.func35, Try.ntmps35
      go_wp2_with fail
      go_region_held3 (fun w' => Below w.heap.size w w')
        (first | (with_reducible exact hss) | (with_reducible exact hbs.out))
        (first
          | (go_at_call 63; have tok1 := hp1; (with_reducible refine (clone_any (bts (b.take c)) c (some ad) c _ B ?_ ?_ (bts_one _) ?_).mono ?_); (exact tok1.out.below (Below.mono (by assumption) hB)); (exact below_size (w := w) (by assumption) hB); (omega); clear tok1; rintro e w1 ⟨v1, rfl, hown1, hb1⟩; have hbs := Lib.hid (below_step (w := w) (by assumption) hb1); have hO1 := Lib.hid (own_mono hown1 (Below.size (by assumption : Below w.heap.size w _))); clear hp1 hown1 hb1)
          | (go_at_call 63; (with_reducible refine (clone_any (bts (b.drop c)) 0 (some ad) 0 _ B ?_ ?_ (bts_one _) ?_).mono ?_); (exact hd1.out.below (Below.mono (by assumption) hB)); (exact below_size (w := w) (by assumption) hB); (omega); rintro e w2 ⟨v2, rfl, hown2, hb2⟩; have hO1' := Lib.hid (own_below hO1.out hb2); have hO2 := Lib.hid (own_mono hown2 (Below.size (by assumption : Below w.heap.size w _))); have hbs := Lib.hid (below_step (w := w) (by assumption) hb2); clear hown2 hb2))
      go_wp2_with fail
      go_ret3
      exact ⟨v1, v2, rfl, hO1'.out, (by rw [H00.out]; exact hO2.out), by assumption⟩
    · rw [if_neg hck] at hd
      simp only [Option.map_some] at hd
      have hp1 := Lib.hid hp
      have hd1 := Lib.hid hd
      clear hp hd hr
      go_enter Try.func35, Try.ntmps35
      go_wp2_with fail
      go_region_held3 (fun w' => Below w.heap.size w w')
        (first | (with_reducible exact hss) | (with_reducible exact hbs.out))
        (first
          | (go_at_call 63; have tok1 := hp1; (with_reducible refine (clone_any (bts (b.take k)) k (some ad) c _ B ?_ ?_ (bts_one _) ?_).mono ?_); (exact tok1.out.below (Below.mono (by assumption) hB)); (exact below_size (w := w) (by assumption) hB); (omega); clear tok1; rintro e w1 ⟨v1, rfl, hown1, hb1⟩; have hbs := Lib.hid (below_step (w := w) (by assumption) hb1); have hO1 := Lib.hid (own_mono hown1 (Below.size (by assumption : Below w.heap.size w _))); clear hp1 hown1 hb1)
          | (go_at_call 63; (with_reducible refine (clone_any (bts (b.drop k)) (b.length - k) (some (ad.add k)) (c - k) _ B ?_ ?_ (bts_one _) ?_).mono ?_); (exact hd1.out.below (Below.mono (by assumption) hB)); (exact below_size (w := w) (by assumption) hB); (omega); rintro e w2 ⟨v2, rfl, hown2, hb2⟩; have hO1' := Lib.hid (own_below hO1.out hb2); have hO2 := Lib.hid (own_mono hown2 (Below.size (by assumption : Below w.heap.size w _))); have hbs := Lib.hid (below_step (w := w) (by assumption) hb2); clear hown2 hb2))
      go_wp2_with fail
      go_ret3
      exact ⟨v1, v2, rfl, hO1'.out, hO2.out, by assumption⟩
end Go.Proofs.Ytcchnoadclidcaa
