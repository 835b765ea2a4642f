/-
  slices.Grow(nil, n), slices.Concat and octets.Join at bytes, by their contracts.
-/
import Derived.Test.YthfjfkjlgdnohaaClone
import Derived.Lib.AppendZerosOnto
import Derived.Lib.SliceRun
namespace Go.Proofs.Ythfjfkjlgdnohaa
open Go.RowKit

set_option maxRecDepth 100000 in
theorem grow_nil (n : Nat) (hn : n ≤ 140737488351232) (w : World) :
    Calls Try.prog 117 #[.slice none 0 0, .int .i64 n] w fun e w' => ∃ v, e = .returned v ∧ w'.ownsRow w.heap.size 5 1 v 0 [] ∧ Below w.heap.size w w' := by
  obtain ⟨i0, hi0, hz0, hz1, hz2⟩ := info_parts Try.infoU8c
  rcases Nat.eq_zero_or_pos n with rfl | h0
  · go_enter Try.func117, Try.ntmps117
    go_wp2_with fail
    go_ret
    exact ⟨_, rfl, World.ownsRow_nil _ _ _ _, Below.refl _ _⟩
  · have hpos : (0 : Int) < (n : Int) := by omega
    have hn1 : ¬ ((n : Int) < 0) := by omega
    have hrz : ∀ ty, (Builtin.append_ #[28, 3] ty #[.slice none 0 0, .int .i64 (n : Int)]).run Try.prog w =
        .ok (.slice (some ⟨w.heap.size, 0, none⟩) n (grownCap w n 0 5)) (w.drew.alloc (.cells (#[] ++ Builtin.zeroCells (Value.int .u8 0).cells n ++ Builtin.zeroCells (Value.int .u8 0).cells (grownCap w n 0 5 - n)) 5)) := fun ty => by
      have h := Lib.run_append_grow_zeros w 28 3 ty 5 i0 (.int .u8 0) .i64 .i64 Try.underlying28 Try.underlying3 hi0 hz0 none 0 0 [] (run_firstCells_none w.drew i0.size 0 0 0) n (by omega) (by omega) (by omega) (by omega)
        (by rw [hz2]; omega)
        (by
          exact growslice_fits (by omega) (by rw [hz2]; omega))
      simpa using h
    have hGn : n ≤ grownCap w n 0 5 := grownCap_ge w _ _ _
    obtain ⟨G, hG⟩ : ∃ G, G = grownCap w n 0 5 := ⟨_, rfl⟩
    rw [← hG] at hrz hGn
    have hGm : G ≤ maxLen := by rw [hG]; exact grownCap_le_maxLen w n 0 5 (by unfold maxLen; omega)
    have hG63 : G ≤ 9223372036854775807 := by unfold maxLen at hGm; omega
    clear hG
    have hown : (w.alloc (.cells (Builtin.zeroCells (Value.int .u8 0).cells n ++ Builtin.zeroCells (Value.int .u8 0).cells (G - n)) 5)).drew.ownsRow w.heap.size 5 1 (.slice (some ⟨w.heap.size, 0, none⟩) 0 G) 0 [] :=
      own_drew (World.ownsRow_made w _ G (Nat.le_refl _) hGm (by simp [Builtin.zeroCells, Value.cells]; omega))
    go_enter Try.func117, Try.ntmps117
    go_wp2_with (at_builtin; refine Lib.wpList_append_run _ rfl _ _ _ _ rfl _ _ rfl rfl _ _ (hrz _) ?_)
    go_ret
    exact ⟨.slice (some ⟨w.heap.size, 0, none⟩) 0 G, rfl, by simpa [Value.cells] using hown, ((Below.refl _ _).alloc (Nat.le_refl _) _).drew⟩

/-- one piece of what is joined -/
structure Piece where
  A : Option Addr
  c : Nat
  b : List UInt8
def Piece.val (p : Piece) : Value := .slice p.A p.b.length p.c
def Piece.ok (w : World) (B : Nat) (p : Piece) : Prop := Reads w B 1 p.A p.b.length (bts p.b)
def sumL (ps : List Piece) : Nat := (ps.map fun p => p.b.length).sum
def catL (ps : List Piece) : List UInt8 := (ps.map fun p => p.b).flatten
theorem sumL_take (ps : List Piece) (k : Nat) (h : k < ps.length) : sumL (ps.take (k + 1)) = sumL (ps.take k) + (ps[k]).b.length := by
  unfold sumL
  rw [List.take_succ_eq_append_getElem h, List.map_append, List.sum_append]
  simp only [List.map_cons, List.map_nil, List.sum_cons, List.sum_nil, Nat.add_zero]
theorem catL_take (ps : List Piece) (k : Nat) (h : k < ps.length) : catL (ps.take (k + 1)) = catL (ps.take k) ++ (ps[k]).b := by
  unfold catL
  rw [List.take_succ_eq_append_getElem h, List.map_append, List.flatten_append]
  simp only [List.map_cons, List.map_nil, List.flatten_cons, List.flatten_nil, List.append_nil]
theorem sumL_take_le (ps : List Piece) (k : Nat) : sumL (ps.take k) ≤ sumL ps := by
  have : ps = ps.take k ++ ps.drop k := (List.take_append_drop k ps).symm
  have h2 : sumL ps = sumL (ps.take k) + sumL (ps.drop k) := by
    conv => lhs; rw [this]
    unfold sumL
    rw [List.map_append, List.sum_append]
  omega
theorem catL_length (ps : List Piece) : (catL ps).length = sumL ps := by
  induction ps with
  | nil => rfl
  | cons p l ih => unfold catL sumL at ih ⊢; simp only [List.map_cons, List.flatten_cons, List.sum_cons, List.length_append, ih]

theorem Try.infoSl : (Try.prog.info? 28).map (fun i => (i.zero, i.size, i.bytes)) = some (some (.slice none 0 0), 1, 24) := by kernel_rfl

set_option maxHeartbeats 200000 in
set_option maxRecDepth 100000 in
theorem concat_any (ps : List Piece) (n : Nat) (hnp : n = ps.length) (A : Option Addr) (c : Nat) (w : World) (B : Nat) (hr : Reads w B 1 A n (ps.map Piece.val)) (hps : ∀ p ∈ ps, p.ok w B) (hB : B ≤ w.heap.size) (T : Nat) (hT : T = sumL ps) (hn : n ≤ 1048576) (hTn : T ≤ 140737488351232) :
    Calls Try.prog 90 #[.slice A n c] w fun e w' => ∃ v, e = .returned v ∧ w'.ownsRow w.heap.size 5 1 v T (bts (catL ps)) ∧ Below w.heap.size w w' := by
  subst hnp
  obtain ⟨i0, hi0, hz0, hz1, hz2⟩ := info_parts Try.infoU8c
  have hTk : ∀ k, sumL (ps.take k) ≤ T := fun k => by rw [hT]; exact sumL_take_le ps k
  have HT := Lib.hid hT
  clear hT
  go_enter Try.func90, Try.ntmps90
  go_wp2_with fail
  go_loop [3, 11] (fun s i => ∃ k m : Nat, k ≤ ps.length ∧ i = .int .i64 (k : Int) ∧ s = .int .i64 (m : Int) ∧ Hid (m = sumL (ps.take k))) (fun _ i => ps.length - (intOf i).toNat)
  case atStart => exact ⟨0, 0, Nat.zero_le _, rfl, rfl, (show _ = _ by simp [sumL])⟩
  case round =>
    obtain ⟨k, m, hk, rfl, rfl, hm⟩ := hrel
    have hmT : m ≤ T := by rw [hm.out]; exact hTk k
    by_cases hlt : k < ps.length
    · obtain ⟨ad, u, rfl, _, hu, hcu⟩ := hr.at_ (by omega : k < ps.length)
      obtain rfl : u = (ps[k]).val := by simpa [List.getElem?_eq_getElem hlt] using hu.symm
      have hmT2 : m + (ps[k]).b.length ≤ T := by rw [hm.out, ← sumL_take ps k hlt]; exact hTk (k + 1)
      have hs2 := Lib.hid (sumL_take ps k hlt)
      obtain ⟨⟨pA, pc, pb⟩, hp⟩ : ∃ p, p = ps[k] := ⟨_, rfl⟩
      rw [← hp] at hcu hmT2 hs2
      simp only [Piece.val] at hcu
      simp only at hmT2
      obtain ⟨q, hq⟩ : ∃ q, q = pb.length := ⟨_, rfl⟩
      rw [← hq] at hcu hmT2
      have HQ := Lib.hid hq
      clear hq hp hu hr hTk
      have hnn : ¬ ((m : Int) + (q : Int) < 0) := by omega
      go_wp2_with fail
      go_round
      case rel => exact ⟨k + 1, m + q, by omega, by go_num, by go_num, (show _ = _ by rw [hs2.out, hm.out, HQ.out])⟩
      case measure => simp [intOf]; omega
    · obtain rfl : k = ps.length := by omega
      rw [List.take_length] at hm
      obtain rfl : m = T := by rw [hm.out, HT.out]
      go_wp2_with fail
      refine (grow_nil m (by omega) _).mono ?_
      rintro e w1 ⟨v, rfl, hown, hb1⟩
      simp only []
      have hr1 := hr
      have hps1 := hps
      have hsz1 := hb1.size
      clear hr hps hTk
      go_wp2_with fail
      go_loopw [6, 27] (fun v i wr => ∃ k t : Nat, k ≤ ps.length ∧ i = .int .i64 (k : Int) ∧ Hid (t = sumL (ps.take k)) ∧ wr.ownsRow w.heap.size 5 1 v t (bts (catL (ps.take k))) ∧ Below w.heap.size w wr) (fun _ i _ => ps.length - (intOf i).toNat)
      case atStart => exact ⟨0, 0, Nat.zero_le _, rfl, (show _ = _ by simp [sumL]), by simpa [catL, bts] using hown, hb1⟩
      case round =>
        obtain ⟨k, t, hk, rfl, ht, hown, hbw⟩ := hrel
        have hr2 := hr1.below (hbw.mono hB)
        have hTk : ∀ k, sumL (ps.take k) ≤ m := fun k => by rw [HT.out]; exact sumL_take_le ps k
        by_cases hlt : k < ps.length
        · obtain ⟨ad, u, rfl, _, hu, hcu⟩ := hr2.at_ (by omega : k < ps.length)
          obtain rfl : u = (ps[k]).val := by simpa [List.getElem?_eq_getElem hlt] using hu.symm
          have hpk : (ps[k]).ok _ B := (hps1 ps[k] (List.getElem_mem hlt)).below (hbw.mono hB)
          have hs2 := Lib.hid (sumL_take ps k hlt)
          have hc2 := Lib.hid (catL_take ps k hlt)
          have hmT2 : t + (ps[k]).b.length ≤ m := by rw [ht.out, ← sumL_take ps k hlt]; exact hTk (k + 1)
          obtain ⟨⟨pA, pc, pb⟩, hp⟩ : ∃ p, p = ps[k] := ⟨_, rfl⟩
          rw [← hp] at hcu hmT2 hs2 hpk hc2
          simp only [Piece.val] at hcu
          simp only [Piece.ok] at hpk
          simp only at hmT2
          obtain ⟨q, hq⟩ : ∃ q, q = pb.length := ⟨_, rfl⟩
          rw [← hq] at hcu hmT2 hpk
          have HQ := Lib.hid hq
          have hsw := hbw.size
          clear hq hp hu hr1 hr2 hTk hps1
          go_wp2_with (at_builtin; (refine wpList_append_any _ rfl (.tmp 31) (.tmp 32) _ rfl w.heap.size 5 i0 _ 1 1 Try.underlying28 hi0 hz0 hz1 hz2 rfl (by omega) _ t _ rfl hown B pA q pc (bts pb) rfl hpk (bts_one _) (by unfold maxLen; omega) (by omega) hsw ?_); intro v2 w2 hown2 hg2 hat2)
          go_roundw
          case rel => exact ⟨k + 1, t + q, by omega, by go_num, (show _ = _ by rw [hs2.out, ht.out, HQ.out]), by rw [hc2.out, bts_append]; exact hown2, hbw.grown hg2 hsw (fun j hj => (hown.lt j hj).1)⟩
          case measure => simp [intOf]; omega
        · obtain rfl : k = ps.length := by omega
          rw [List.take_length] at ht hown
          obtain rfl : t = m := by rw [ht.out, HT.out]
          go_wp2_with fail
          go_ret
          exact ⟨_, rfl, hown, hbw⟩

set_option maxRecDepth 100000 in
theorem join_any (ps : List Piece) (n : Nat) (hnp : n = ps.length) (A : Option Addr) (c : Nat) (w : World) (B : Nat) (hr : Reads w B 1 A n (ps.map Piece.val)) (hps : ∀ p ∈ ps, p.ok w B) (hB : B ≤ w.heap.size) (T : Nat) (hT : T = sumL ps) (hn : n ≤ 1048576) (hTn : T ≤ 140737488351232) :
    Calls Try.prog 53 #[.slice A n c] w fun e w' => ∃ v, e = .returned v ∧ w'.ownsRow w.heap.size 5 1 v T (bts (catL ps)) ∧ Below w.heap.size w w' := by
  have HT := Lib.hid hT
  have HN := Lib.hid hnp
  clear hT hnp
  go_enter Try.func53, Try.ntmps53
  go_wp2_with fail
  refine (concat_any ps n HN.out A c _ B hr hps hB T HT.out hn hTn).mono ?_
  rintro e w1 ⟨v, rfl, hown, hb1⟩
  go_wp2_with fail
  go_ret
  exact ⟨_, rfl, hown, hb1⟩
end Go.Proofs.Ythfjfkjlgdnohaa
