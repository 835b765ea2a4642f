/-
  slices.Chunk over strings, two by two: its contract.
-/
import Derived.RangeFuncBox
import Derived.RangeFuncLeaves
import Derived.Shelf.Abstract
import Derived.WalkKit
import Derived.OwnWalkIn
import Derived.TacticsInMore
import Derived.LoopNIn
import Derived.LoopIn
import Derived.BigRegionIn
import Derived.Test.YthfjfkjlgdnohaaBase
import Derived.Test.YthfjfkjlgdnohaaRows
namespace Go.Proofs.Ythfjfkjlgdnohaa
open Go.RowKit Go.Shelf
attribute [local go_sem] Oper.semAt_some

/-- the iterator's own boxes are as they were -/
def KpP (Bs Bn : Nat) (W W' : World) : Prop := W'.heap[Bs]? = W.heap[Bs]? ∧ W'.heap[Bn]? = W.heap[Bn]?
theorem KpP.refl (Bs Bn : Nat) (W : World) : KpP Bs Bn W W := ⟨rfl, rfl⟩
theorem KpP.trans {Bs Bn : Nat} {A B C : World} (h : KpP Bs Bn A B) (k : KpP Bs Bn B C) : KpP Bs Bn A C := ⟨k.1.trans h.1, k.2.trans h.2⟩
abbrev Cp (M : Nat) := { j : Nat // j < M }
def cpEnc (ad : Addr) (L : Nat) {M : Nat} (x : Cp M) : Array Value := #[.slice (some (ad.add (2 * x.1))) (min 2 (L - 2 * x.1)) (min 2 (L - 2 * x.1))]

set_option maxRecDepth 100000 in
set_option maxHeartbeats 2000000 in
theorem chunkP1_in (F : Fence) (m : Nat) (hf : F.fn 108) (hro : F.round = none) (hm : 1 ≤ m) (l Bs Bn c L : Nat) (ad : Addr) (hL : L ≤ c) (hc : c ≤ 9223372036854775807) (hL2 : L ≤ 140737488351232) (M : Nat) (hM : M = (L + 1) / 2) (J Jx : List (Cp M) → World → Prop) (hJd : ∀ s W, J s W → J s (World.drew W))
    (hY : ∀ pre x W, J pre W → pre.length < M → YieldAt F (m - 1) Try.prog l (cpEnc ad L x) W fun e W' =>
      (e = .returned (.bool true) ∧ J (pre ++ [x]) W' ∧ KpP Bs Bn W W') ∨ (e = .returned (.bool false) ∧ Jx (pre ++ [x]) W'))
    (W : World) (hBs : W.cell? ⟨Bs, 0, none⟩ = some (.slice (some ad) L c)) (hBn : W.cell? ⟨Bn, 0, none⟩ = some (.int .i64 2)) (h0 : J [] W) :
    CallsIn F m Try.prog 108 #[.func (.yield l) #[] #[], .pointer (some ⟨Bs, 0, none⟩), .pointer (some ⟨Bn, 0, none⟩)] W fun e W' => (∃ v, e = .returned v) ∧
      ((∃ ys : List (Cp M), ys.map (·.1) = List.range M ∧ J ys W') ∨ (∃ pre : List (Cp M), (∃ k, k ≤ M ∧ pre.map (·.1) = List.range k) ∧ Jx pre W')) := by
  have HM := Lib.hid hM
  clear hM
  refine callsIn_of_wp Try.func108 rfl hf ?_ hro
  simp only [Try.ntmps108, List.size_toArray, List.length_cons, List.length_nil, Nat.reduceAdd, Nat.reduceSub, Array.replicate_succ, Array.replicate_zero, List.push_toArray, List.append_toArray, List.nil_append, List.cons_append]
  gi_wp2
  gi_loopw [4] (fun i wr => ∃ (k : Nat) (j : Nat) (ys : List (Cp M)), k ≤ M ∧ Hid (j = 2 * k) ∧ i = .int .i64 (j : Int) ∧ Hid (ys.map (·.1) = List.range k) ∧ J ys wr ∧ KpP Bs Bn W wr)
    (fun i _ => L + 2 - (intOf i).toNat)
  case atStart => exact ⟨0, 0, [], Nat.zero_le _, rfl, rfl, rfl, h0, KpP.refl _ _ _⟩
  case round =>
    obtain ⟨k, j, ys, hk, hj, rfl, hys, hJ, hKp⟩ := hrel
    have hcB : wr.cell? ⟨Bs, 0, none⟩ = some (.slice (some ad) L c) := (World.cell?_of_block (w := W) (a := ⟨Bs, 0, none⟩) hKp.1).trans hBs
    have hcN : wr.cell? ⟨Bn, 0, none⟩ = some (.int .i64 2) := (World.cell?_of_block (w := W) (a := ⟨Bn, 0, none⟩) hKp.2).trans hBn
    have hjk := hj.out
    have hMM := HM.out
    by_cases hlt : j < L
    · have hkM : k < M := by omega
      have hli : (j : Int) < (L : Int) := by omega
      have hle : (j : Int) ≤ (L : Int) := by omega
      have hjc : j < c := by omega
      have hne : ¬ c = j := by omega
      have hLc : (L : Int) ≤ (c : Int) := by omega
      have hcm : (c : Int) ≤ 9223372036854775807 := by omega
      have hsub : L - j ≤ 140737488351232 := by omega
      obtain ⟨q, hq⟩ : ∃ q, q = min 2 (L - j) := ⟨_, rfl⟩
      have hif : (if ((L - j : Nat) : Int) < 2 then ((L - j : Nat) : Int) else 2) = (q : Int) := by split <;> omega
      have HIF := Lib.hid hif
      have hq1 : 1 ≤ q := by omega
      have hq2 : (j : Int) + (q : Int) ≤ (c : Int) := by omega
      have hq3 : q ≤ 2 := by omega
      have hq4 : ¬ j + q - j = 0 := by omega
      have hnext : 2 < L - j → q = 2 := by omega
      have hqs : j + q - j = q := by omega
      have HNX := Lib.hid hnext
      obtain ⟨fn, tmps, assign, body, hy, hR⟩ := hY ys ⟨k, hkM⟩ wr.drew (hJd _ _ hJ) (by have := congrArg List.length hys.out; simp at this; omega)
      simp only [cpEnc] at hy
      rw [← hjk, ← hq] at hy
      clear hjk hMM hBs hBn hq hif hnext
      gi_wp2
      gi_region
      all_goals simp only [HIF.out]
      all_goals gi_wp2
      all_goals
        refine hR.mono ?_
        rintro e W3 (⟨rfl, hJ3, hk3⟩ | ⟨rfl, hJx3⟩)
        · have hcN3 : W3.cell? ⟨Bn, 0, none⟩ = some (.int .i64 2) := (World.cell?_of_block (w := World.drew wr) (a := ⟨Bn, 0, none⟩) hk3.2).trans hcN
          have hk4 : KpP Bs Bn W W3 := KpP.trans (C := W3) hKp hk3
          have hj2 : (j : Int) + 2 ≤ 9223372036854775807 := by omega
          clear hk3 hR hy hqs
          gi_wp2
          go_roundw
          case rel => exact ⟨k + 1, j + 2, ys ++ [⟨k, hkM⟩], by omega, (show _ = _ by have := hj.out; omega), by go_num, (show _ = _ by rw [List.map_append, hys.out, List.range_succ]; rfl), hJ3, hk4⟩
          case measure => simp [intOf]; omega
        · clear hR hy hqs
          gi_wp2
          refine bodyPost_ret (results_none rfl _ _ _) rfl ?_
          exact ⟨⟨_, rfl⟩, .inr ⟨_, ⟨k + 1, by omega, by rw [List.map_append, hys.out, List.range_succ]; rfl⟩, hJx3⟩⟩
    · obtain rfl : k = M := by omega
      have hge : (L : Int) ≤ (j : Int) := by omega
      clear hjk hMM hBs hBn
      gi_wp2
      go_end0
      exact ⟨⟨_, rfl⟩, .inl ⟨ys, hys.out, hJ⟩⟩

set_option maxRecDepth 100000 in
set_option maxHeartbeats 1000000 in
theorem chunkP0_in (F : Fence) (m : Nat) (hf : F.fn 108) (hro : F.round = none) (l Bs Bn c : Nat) (A : Option Addr) (W : World) (hBs : W.cell? ⟨Bs, 0, none⟩ = some (.slice A 0 c)) :
    CallsIn F m Try.prog 108 #[.func (.yield l) #[] #[], .pointer (some ⟨Bs, 0, none⟩), .pointer (some ⟨Bn, 0, none⟩)] W fun e W' => (∃ v, e = .returned v) ∧ W = W' := by
  refine callsIn_of_wp Try.func108 rfl hf ?_ hro
  simp only [Try.ntmps108, List.size_toArray, List.length_cons, List.length_nil, Nat.reduceAdd, Nat.reduceSub, Array.replicate_succ, Array.replicate_zero, List.push_toArray, List.append_toArray, List.nil_append, List.cons_append]
  gi_wp2
  gi_loopw [4] (fun i wr => i = .int .i64 0 ∧ W = wr) (fun _ _ => 0)
  case atStart => exact ⟨rfl, rfl⟩
  case round =>
    obtain ⟨rfl, rfl⟩ := hrel
    gi_wp2
    go_end0
    exact ⟨⟨_, rfl⟩, rfl⟩

theorem chunkP_in (F : Fence) (m : Nat) (hf : F.fn 75) (hro : F.round = none) (a : Option Addr) (len cap : Nat) (w : World) :
    CallsIn F m Try.prog 75 #[.slice a len cap, .int .i64 2] w fun e w' => e = .returned (.func (.func 108) #[] #[.pointer (some ⟨w.heap.size, 0, none⟩), .pointer (some ⟨w.heap.size + 1, 0, none⟩)]) ∧ w' = (w.alloc (.cells #[.slice a len cap] 69)).alloc (.cells #[.int .i64 2] 3) := by
  refine callsIn_of_wp Try.func75 rfl hf ?_ hro
  simp only [Try.ntmps75, List.size_toArray, List.length_cons, List.length_nil, Nat.reduceAdd, Nat.reduceSub, Array.replicate_succ, Array.replicate_zero, List.push_toArray, List.append_toArray, List.nil_append, List.cons_append]
  gi_wp2
  go_ret
  exact ⟨rfl, rfl⟩

abbrev cpEncO (A : Option Addr) (L : Nat) {M : Nat} (x : Cp M) : Array Value := #[.slice (A.map (·.add (2 * x.1))) (min 2 (L - 2 * x.1)) (min 2 (L - 2 * x.1))]
theorem chunkP_stops (F : Fence) (m : Nat) (hf : F.fn 108) (hro : F.round = none) (hm : 1 ≤ m) (Bs Bn c L : Nat) (A : Option Addr) (hA : 0 < L → ∃ ad, A = some ad) (hL : L ≤ c) (hc : c ≤ 9223372036854775807) (hL2 : L ≤ 140737488351232) (M : Nat) (hM : M = (L + 1) / 2) (w : World) (hb : Bs < w.heap.size) (hn : Bn < w.heap.size)
    (hBs : w.cell? ⟨Bs, 0, none⟩ = some (.slice A L c)) (hBn : w.cell? ⟨Bn, 0, none⟩ = some (.int .i64 2)) :
    SeqStopsK F m Try.prog 108 #[.pointer (some ⟨Bs, 0, none⟩), .pointer (some ⟨Bn, 0, none⟩)] (cpEncO A L (M := M)) (KpP Bs Bn) (fun ys => ys.map (·.1) = List.range M) (fun pre => ∃ k, k ≤ M ∧ pre.map (·.1) = List.range k) M w := fun l J Jx W hW hJ _ hY h0 => by
  have h1 := (hW.cell (p := ⟨Bs, 0, none⟩) hb).trans hBs
  have h2 := (hW.cell (p := ⟨Bn, 0, none⟩) hn).trans hBn
  have hJd : ∀ s (W1 : World), J s W1 → J s W1.drew := fun s W1 hs => hJ s W1 W1.drew none hs ⟨rfl, rfl, rfl, Nat.le_refl _, fun _ _ _ => rfl⟩ (fun r e => by cases e)
  rcases Nat.eq_zero_or_pos L with h | h
  · subst h
    have hM0 : M = 0 := by omega
    subst hM0
    refine (chunkP0_in F m hf hro l Bs Bn c A W h1).mono ?_
    rintro e W' ⟨hv, rfl⟩
    exact ⟨hv, .inl ⟨[], rfl, h0⟩⟩
  · obtain ⟨ad, rfl⟩ := hA h
    exact chunkP1_in F m hf hro hm l Bs Bn c L ad hL hc hL2 M hM J Jx hJd hY W h1 h2 h0
end Go.Proofs.Ythfjfkjlgdnohaa
