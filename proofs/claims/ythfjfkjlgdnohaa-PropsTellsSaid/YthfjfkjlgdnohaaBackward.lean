/-
  slices.Backward over bytes that the loop's body may write: its contract.
-/
import Derived.RangeFuncBox
import Derived.RangeFuncLeaves
import Derived.Shelf.Abstract
import Derived.WalkKit
import Derived.OwnWalkIn
import Derived.TacticsInMore
import Derived.LoopNIn
import Derived.LoopIn
import Derived.Test.YthfjfkjlgdnohaaBase
import Derived.Test.YthfjfkjlgdnohaaRows
namespace Go.Proofs.Ythfjfkjlgdnohaa
open Go.RowKit Go.Shelf
attribute [local go_sem] Oper.semAt_some

/-- block g is a row of n bytes -/
def RowB (g n : Nat) (W : World) : Prop := ∃ b : List UInt8, b.length = n ∧ W.heap[g]? = some (.cells (bts b).toArray 5 (0, 0))
/-- the iterator's own box is as it was; g, a row of n bytes, is one again -/
def KpB (Bs g n : Nat) (W W' : World) : Prop := W'.heap[Bs]? = W.heap[Bs]? ∧ (RowB g n W → RowB g n W')
theorem KpB.refl (Bs g n : Nat) (W : World) : KpB Bs g n W W := ⟨rfl, id⟩
theorem KpB.trans {Bs g n : Nat} {A B C : World} (h : KpB Bs g n A B) (k : KpB Bs g n B C) : KpB Bs g n A C := ⟨k.1.trans h.1, fun hr => k.2 (h.2 hr)⟩
theorem RowB.cell {g n : Nat} {W : World} (h : RowB g n W) {i : Nat} (hi : i < n) : ∃ x : Int, W.cell? ⟨g, i, none⟩ = some (.int .u8 x) ∧ W.frozen? ⟨g, i, none⟩ = false ∧ 0 ≤ x ∧ x ≤ 255 := by
  obtain ⟨b, hb, hg⟩ := h
  have hi' : i < b.length := by omega
  refine ⟨(b[i].toNat : Int), ?_, frozen_of_row W g i _ _ hg, by omega, by have := b[i].toNat_lt; omega⟩
  rw [cell_of_row W g i _ _ (0, 0) hg]
  simp [bts, hi']

abbrev Bk (n : Nat) := { x : Nat × Int // x.1 < n ∧ 0 ≤ x.2 ∧ x.2 ≤ 255 }
def bkEnc {n : Nat} (x : Bk n) : Array Value := #[.int .i64 (x.1.1 : Int), .int .u8 x.1.2]
/-- what has come when k rounds are over: n - 1, .., n - k -/
def bkDown (n k : Nat) : List Nat := (List.range k).map fun j => n - 1 - j
theorem bkDown_succ (n k : Nat) : bkDown n (k + 1) = bkDown n k ++ [n - 1 - k] := by simp [bkDown, List.range_succ]

set_option maxRecDepth 100000 in
set_option maxHeartbeats 2000000 in
theorem backward1_in (F : Fence) (m : Nat) (hf : F.fn 118) (hro : F.round = none) (hm : 1 ≤ m) (l Bs g n c : Nat) (hn : n ≤ 1000) (J Jx : List (Bk n) → World → Prop)
    (hY : ∀ pre x W, J pre W → pre.length < n → YieldAt F (m - 1) Try.prog l (bkEnc x) W fun e W' =>
      (e = .returned (.bool true) ∧ J (pre ++ [x]) W' ∧ KpB Bs g n W W') ∨ (e = .returned (.bool false) ∧ Jx (pre ++ [x]) W'))
    (W : World) (hBs : W.cell? ⟨Bs, 0, none⟩ = some (.slice (some ⟨g, 0, none⟩) n c)) (hrow : RowB g n W) (h0 : J [] W) :
    CallsIn F m Try.prog 118 #[.func (.yield l) #[] #[], .pointer (some ⟨Bs, 0, none⟩)] W fun e W' => (∃ v, e = .returned v) ∧
      ((∃ ys : List (Bk n), ys.map (·.1.1) = bkDown n n ∧ J ys W') ∨ (∃ pre : List (Bk n), (∃ k, k ≤ n ∧ pre.map (·.1.1) = bkDown n k) ∧ Jx pre W')) := by
  refine callsIn_of_wp Try.func118 rfl hf ?_ hro
  simp only [Try.ntmps118, List.size_toArray, List.length_cons, List.length_nil, Nat.reduceAdd, Nat.reduceSub, Array.replicate_succ, Array.replicate_zero, List.push_toArray, List.append_toArray, List.nil_append, List.cons_append]
  gi_wp2
  gi_loopw [3] (fun i wr => ∃ (k : Nat) (q : Int) (ys : List (Bk n)), k ≤ n ∧ Hid (q = (n : Int) - 1 - k) ∧ -1 ≤ q ∧ q < n ∧ i = .int .i64 q ∧ Hid (ys.map (·.1.1) = bkDown n k) ∧ J ys wr ∧ KpB Bs g n W wr)
    (fun i _ => (intOf i + 1).toNat)
  case atStart => exact ⟨0, (n : Int) - 1, [], Nat.zero_le _, (show _ = _ by simp), by omega, by omega, rfl, (show _ = _ by rfl), h0, KpB.refl _ _ _ _⟩
  case round =>
    obtain ⟨k, q, ys, hk, hq, hq1, hq2, rfl, hys, hJ, hKp⟩ := hrel
    have hcB : wr.cell? ⟨Bs, 0, none⟩ = some (.slice (some ⟨g, 0, none⟩) n c) := (World.cell?_of_block (w := W) (a := ⟨Bs, 0, none⟩) hKp.1).trans hBs
    have hrw := hKp.2 hrow
    by_cases hlt : 0 ≤ q
    · obtain ⟨p, rfl⟩ := Int.eq_ofNat_of_zero_le hlt
      have hpn : p < n := by omega
      have hpk : p = n - 1 - k := by have := hq.out; omega
      have hkn : k < n := by have := hq.out; omega
      obtain ⟨x, hx, _, hx0, hx1⟩ := hrw.cell hpn
      obtain ⟨fn, tmps, assign, body, hy, hR⟩ := hY ys ⟨(p, x), hpn, hx0, hx1⟩ wr hJ (by have := congrArg List.length hys.out; simp [bkDown] at this; omega)
      simp only [bkEnc] at hy
      have HPK := Lib.hid hpk
      clear hpk hrw hBs
      gi_wp2
      refine hR.mono ?_
      rintro e W3 (⟨rfl, hJ3, hk3⟩ | ⟨rfl, hJx3⟩)
      · gi_wp2
        go_roundw
        case rel => exact ⟨k + 1, (p : Int) - 1, ys ++ [⟨(p, x), hpn, hx0, hx1⟩], by omega, (show _ = _ by have := hq.out; omega), by omega, by omega, rfl, (show _ = _ by rw [List.map_append, hys.out, bkDown_succ, ← HPK.out]; rfl), hJ3, hKp.trans hk3⟩
        case measure => simp [intOf]
      · gi_wp2
        refine bodyPost_ret (results_none rfl _ _ _) rfl ?_
        exact ⟨⟨_, rfl⟩, .inr ⟨_, ⟨k + 1, by omega, by rw [List.map_append, hys.out, bkDown_succ, ← HPK.out]; rfl⟩, hJx3⟩⟩
    · obtain rfl : k = n := by have := hq.out; omega
      gi_wp2
      go_end0
      exact ⟨⟨_, rfl⟩, .inl ⟨ys, hys.out, hJ⟩⟩

set_option maxHeartbeats 1000000 in
theorem backward_in (F : Fence) (m : Nat) (hf : F.fn 91) (hro : F.round = none) (a : Option Addr) (len cap : Nat) (w : World) :
    CallsIn F m Try.prog 91 #[.slice a len cap] w fun e w' => e = .returned (.func (.func 118) #[] #[.pointer (some ⟨w.heap.size, 0, none⟩)]) ∧ w' = w.alloc (.cells #[.slice a len cap] 28) := by
  refine callsIn_of_wp Try.func91 rfl hf ?_ hro
  simp only [Try.ntmps91, List.size_toArray, List.length_cons, List.length_nil, Nat.reduceAdd, Nat.reduceSub, Array.replicate_succ, Array.replicate_zero, List.push_toArray, List.append_toArray, List.nil_append, List.cons_append]
  gi_wp2
  go_ret
  exact ⟨rfl, rfl⟩

theorem backward_stops (F : Fence) (m : Nat) (hf : F.fn 118) (hro : F.round = none) (hm : 1 ≤ m) (Bs g n c : Nat) (hn : n ≤ 1000) (w : World) (hb : Bs < w.heap.size) (hg : g < w.heap.size)
    (hBs : w.cell? ⟨Bs, 0, none⟩ = some (.slice (some ⟨g, 0, none⟩) n c)) (hrow : RowB g n w) :
    SeqStopsK F m Try.prog 118 #[.pointer (some ⟨Bs, 0, none⟩)] (fun x : Bk n => #[.int .i64 (x.1.1 : Int), .int .u8 x.1.2]) (KpB Bs g n) (fun ys => ys.map (·.1.1) = bkDown n n) (fun pre => ∃ k, k ≤ n ∧ pre.map (·.1.1) = bkDown n k) n w := fun l J Jx W hW _ _ hY h0 => by
  have hc' := (hW.cell (p := ⟨Bs, 0, none⟩) hb).trans hBs
  have hr' : RowB g n W := by
    obtain ⟨b, h1, h2⟩ := hrow
    exact ⟨b, h1, (hW.block g hg).trans h2⟩
  exact backward1_in F m hf hro hm l Bs g n c hn J Jx hY W hc' hr' h0
end Go.Proofs.Ythfjfkjlgdnohaa
