/-
  alive (layer 11): a block put into no content, and read.
-/
import Derived.Test.YtfknlijbphoceaaBkLaw
import Derived.Test.YtfknlijbphoceaaRows
namespace Go.Proofs.Ytfknlijbphoceaa
open Go.RowKit

set_option maxRecDepth 100000 in
theorem search_nil (i : Int) (f : Value) (w : World) :
    Calls Try.prog 27 #[.slice none 0 0, .int .i64 i, f] w fun e w' => e = .returned (.tuple #[.int .i64 0, .bool false]) ∧ ∃ q, w' = w.drewN q := by
  go_enter Try.func27, Try.ntmps27
  go_wp2_with fail
  refine wp_loop_rounds 1 ?_
  rw [rounds_succ]
  go_wp2_with fail
  go_ret2
  exact ⟨rfl, 0, rfl⟩
set_option maxRecDepth 100000 in
theorem cloneB_any (xs : List Value) (n : Nat) (A : Option Addr) (c : Nat) (w : World) (B : Nat) (hr : Reads w B 2 A n xs) (hB : B ≤ w.heap.size) (h1 : ∀ u ∈ xs, u.oneCell' = true) (hn : n ≤ 5000000000000) :
    Calls Try.prog 29 #[.slice A n c] w fun e w' => ∃ v, e = .returned v ∧ w'.ownsRow w.heap.size 30 2 v n xs ∧ Below w.heap.size w w' := by
  obtain ⟨i0, hi0, hz0, hz1, hz2⟩ := info_parts Try.infoB
  rcases A with _ | ad
  · obtain rfl : n = 0 := by
      rcases Nat.eq_zero_or_pos n with h | h
      · exact h
      · obtain ⟨_, h, _⟩ := hr.2 h; cases h
    obtain rfl : xs = [] := List.eq_nil_of_length_eq_zero (by simpa using hr.1)
    have heq := fun W => Lib.run_eql_slice_nil (P := Try.prog) W 22 30 none 0 c 0 0 Try.underlying22
    go_enter Try.func29, Try.ntmps29
    go_wp2_with fail
    go_ret
    exact ⟨_, rfl, World.ownsRow_nil _ _ _ _, Below.refl _ _⟩
  · have heq := fun W => Lib.run_eql_slice_nil (P := Try.prog) W 22 30 (some ad) n c 0 0 Try.underlying22
    have hown : (w.alloc (.cells #[] 30)).ownsRow w.heap.size 30 2 (.slice (some ⟨w.heap.size, 0, none⟩) 0 0) 0 [] := World.ownsRow_made w #[] 0 (Nat.le_refl _) (by simp [maxLen]) rfl
    have hra := hr.alloc hB (.cells #[] 30)
    go_enter Try.func29, Try.ntmps29
    go_wp2_with (at_builtin; (refine wpList_append_any _ rfl (.tmp 5) (.tmp 6) _ rfl w.heap.size 30 i0 _ 2 24 Try.underlying22 hi0 hz0 hz1 hz2 rfl (by omega) (.slice (some ⟨w.heap.size, 0, none⟩) 0 0) 0 [] rfl hown B (some ad) n c xs rfl hra h1 (by unfold maxLen; omega) (by omega) (by simp) ?_); intro v1 w2 hown1 hg1 hat1)
    go_ret
    refine ⟨v1, rfl, by simpa using hown1, ((Below.refl _ _).alloc (Nat.le_refl _) _).grown hg1 (by simp) (fun k hk => ?_)⟩
    simp [Value.ownBlock] at hk
    omega
set_option maxRecDepth 100000 in
theorem insB_end (x : Int) (s : ByteArray) (g c : Nat) (w : World) (base n : Nat) (A0 : Option Addr) (c0 : Nat) (xs : List Value) (hown : w.ownsRow base 30 2 (.slice A0 n c0) n xs) (hb : base ≤ w.heap.size) (hn : n ≤ 5000000000000)
    (h0 : w.cell? ⟨g, 0, none⟩ = some (.int .i64 x)) (h1 : w.cell? ⟨g, 1, none⟩ = some (.string s)) :
    Calls Try.prog 30 #[.slice A0 n c0, .int .i64 n, .slice (some ⟨g, 0, none⟩) 1 c] w fun e w' => ∃ v, e = .returned v ∧ w'.ownsRow base 30 2 v (n + 1) (xs ++ [.int .i64 x, .string s]) ∧ w.grownBy w' (Value.slice A0 n c0).ownBlock := by
  obtain ⟨i0, hi0, hz0, hz1, hz2⟩ := info_parts Try.infoB
  obtain ⟨hc, hm, _⟩ := own_reads hown
  unfold maxLen at hm
  have hnew : ∀ (j : Nat) (u : Value), ([.int .i64 x, .string s] : List Value)[j]? = some u → w.cell? ((⟨g, 0, none⟩ : Addr).add j) = some u := by
    intro j u hu
    rcases j with _ | _ | j
    · cases hu; exact h0
    · cases hu; exact h1
    · simp at hu
  by_cases hcn : c0 = n
  · subst hcn
    go_enter Try.func30, Try.ntmps30
    go_wp2_with (at_builtin; refine wpList_append_own _ rfl _ _ 22 rfl base 30 i0 (.agg #[.int .i64 0, .string ByteArray.empty]) 2 24 Try.underlying22 hi0 hz0 hz1 hz2 rfl (by decide) (.slice A0 c0 c0) c0 xs rfl hown ⟨g, 0, none⟩ 1 c [.int .i64 x, .string s] rfl rfl hnew (by simp [Value.oneCell']) (by unfold maxLen; omega) (by omega) hb ?_)
    intro v1 w1 hown1 hg1 _
    go_wp2_with fail
    go_ret
    exact ⟨v1, rfl, hown1, hg1⟩
  · go_enter Try.func30, Try.ntmps30
    go_wp2_with (at_builtin; refine wpList_append_own _ rfl _ _ 22 rfl base 30 i0 (.agg #[.int .i64 0, .string ByteArray.empty]) 2 24 Try.underlying22 hi0 hz0 hz1 hz2 rfl (by decide) (.slice A0 n c0) n xs rfl hown ⟨g, 0, none⟩ 1 c [.int .i64 x, .string s] rfl rfl hnew (by simp [Value.oneCell']) (by unfold maxLen; omega) (by omega) hb ?_)
    intro v1 w1 hown1 hg1 _
    go_wp2_with fail
    go_ret
    exact ⟨v1, rfl, hown1, hg1⟩
def S16 : List UInt8 := [48, 49, 50, 51, 52, 53, 54, 55, 56, 57, 97, 98, 99, 100, 101, 102]
def Put11 (w : World) (e : Ending) (w' : World) : Prop := ∃ v, e = .returned (.tuple #[v, .int .i64 0]) ∧ w'.ownsRow w.heap.size 30 2 v 1 (bcells [(3, S16)]) ∧ Below w.heap.size w w'
set_option maxRecDepth 100000 in
set_option maxHeartbeats 1000000 in
theorem putB_nil (w : World) :
    Calls Try.prog 10 #[.slice none 0 0, .int .i64 3, .string ⟨#[48, 49, 50, 51, 52, 53, 54, 55, 56, 57, 97, 98, 99, 100, 101, 102]⟩] w (Put11 w) := by
  have hck := checkBk_any [] 0 rfl none 0 w w.heap.size Reads.none_ (Nat.le_refl _) (by omega)
  rw [show okE [] = 0 from rfl] at hck
  go_enter Try.func10, Try.ntmps10
  go_wp2_with fail
  refine hck.mono ?_
  clear hck
  rintro e w1 ⟨rfl, hb1⟩
  go_wp2_with fail
  refine (search_nil _ _ _).mono ?_
  rintro e w2 ⟨rfl, q, rfl⟩
  go_wp2_with fail
  refine (cloneB_any [] 0 none 0 _ _ Reads.none_ (Nat.le_refl _) (by simp) (by omega)).mono ?_
  rintro e w3 ⟨v3, rfl, hown3, hb3⟩
  obtain ⟨A3, c3, rfl, _, _, _⟩ := own_form hown3
  have hs1 := hb1.size
  have hs3 : w1.heap.size ≤ w3.heap.size := hb3.size
  have hown4 := hown3.alloc (.cells #[.int .i64 3, .string ⟨#[48, 49, 50, 51, 52, 53, 54, 55, 56, 57, 97, 98, 99, 100, 101, 102]⟩] 30)
  have hnew := (Blk.new w3 30 #[.int .i64 3, .string ⟨#[48, 49, 50, 51, 52, 53, 54, 55, 56, 57, 97, 98, 99, 100, 101, 102]⟩]).cell
  have hbb := (hb1.trans (below_drewN (Below.refl _ w1) q)).trans (hb3.mono hs1)
  go_wp2_with fail
  refine (insB_end 3 _ w3.heap.size 1 _ _ 0 A3 c3 [] hown4 (by show w1.heap.size ≤ _; simp; omega) (by omega) (hnew 0) (hnew 1)).mono ?_
  rintro e w4 ⟨v4, rfl, hown5, hg⟩
  go_wp2_with fail
  go_ret2
  exact ⟨v4, rfl, own_mono hown5 hs1, (hbb.alloc (by omega) _).grown hg (by simp; omega) (fun k hk => by have := (hown4.lt k hk).1; have h2 : (w1.drewN q).heap.size = w1.heap.size := rfl; omega)⟩

set_option maxRecDepth 100000 in
theorem num11 (x : Int) (w : World) : Calls Try.prog 13 #[.int .i64 x] w fun e w' => e = .returned (.int .i64 x) ∧ w = w' := by
  go_enter Try.func13, Try.ntmps13
  go_wp2_with fail
  go_ret
  exact ⟨rfl, rfl⟩
set_option maxRecDepth 100000 in
set_option maxHeartbeats 1000000 in
theorem alive11_any (w : World) : Calls Try.prog 8 #[] w fun e w' => e = .returned (.bool true) ∧ Below w.heap.size w w' := by
  go_enter Try.func8, Try.ntmps8
  go_wp2_with fail
  refine (putB_nil w).mono ?_
  rintro e w1 ⟨v1, rfl, hown1, hb1⟩
  obtain ⟨A1, c1, rfl, _, _, hr1⟩ := own_form hown1
  have hget := fun q => get_any [(3, S16)] 1 rfl A1 c1 3 (w1.drewN q) w1.heap.size (hr1.drewN q) (Nat.le_refl _) (by omega)
  go_wp2_with fail
  refine (hget 0).mono ?_
  rw [show getL [(3, S16)] 3 = S16 from rfl, show hasL [(3, S16)] 3 = true from rfl]
  rintro e w2 ⟨rfl, hb2⟩
  have hbb := hb1.trans ((below_drewN (Below.refl _ w1) 0).trans (hb2.mono hb1.size))
  have hstr : (⟨S16.toArray⟩ : ByteArray) = ⟨#[48, 49, 50, 51, 52, 53, 54, 55, 56, 57, 97, 98, 99, 100, 101, 102]⟩ := rfl
  rw [hstr]
  clear hget hr1 hown1 hb1 hb2
  go_wp2_with fail
  refine (num11 _ _).mono ?_
  rintro e w3 ⟨rfl, rfl⟩
  go_wp2_with fail
  go_ret
  exact ⟨rfl, hbb⟩
end Go.Proofs.Ytfknlijbphoceaa
