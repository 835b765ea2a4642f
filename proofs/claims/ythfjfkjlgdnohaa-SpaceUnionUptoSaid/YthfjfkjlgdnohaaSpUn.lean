/-
  SpaceUnion, walked.
-/
import Derived.Test.YthfjfkjlgdnohaaSpArg
namespace Go.Proofs.Ythfjfkjlgdnohaa
open Go.RowKit Go.Maps

theorem asc_get (l : List Int) (h : AscZ l) (i j : Nat) (hi : i < j) (hj : j < l.length) : l[i]'(by omega) < l[j] := List.pairwise_iff_getElem.1 h i j (by omega) hj hi
set_option maxRecDepth 100000 in
set_option maxHeartbeats 2000000 in
theorem spaceUnion_any (a b : List Int) (n m : Nat) (hna : n = a.length) (hmb : m = b.length) (A1 A2 : Option Addr) (c1 c2 : Nat) (w : World) (hr1 : Reads w w.heap.size 1 A1 n (ints a)) (hr2 : Reads w w.heap.size 1 A2 m (ints b)) (hw1 : wfZ a) (hw2 : wfZ b) (hn : n + m ≤ 4000000) :
    LawCalls Try.prog 9 #[.slice A1 n c1, .slice A2 m c2] w := by
  have hal : (w.alloc (.cells #[.slice A1 n c1, .slice A2 m c2] 54)).heap.size = w.heap.size + 1 := by show (w.heap.push _).size = _; rw [Array.size_push]
  have hb0 : Below w.heap.size w (w.alloc (.cells #[.slice A1 n c1, .slice A2 m c2] 54)) := (Below.refl _ w).alloc (Nat.le_refl _) _
  have hu := union_any [(.slice A1 n c1, a), (.slice A2 m c2, b)] 2 rfl (some ⟨w.heap.size, 0, none⟩) 2 (w.alloc (.cells #[.slice A1 n c1, .slice A2 m c2] 54)) (w.heap.size + 1) (Reads.lit w #[.slice A1 n c1, .slice A2 m c2] 54 rfl) (by omega)
    (fun p hp => by
      rcases List.mem_cons.1 hp with rfl | hp
      · exact ⟨⟨A1, n, c1, rfl, hna, (hr1.below hb0).lift (by omega)⟩, hw1⟩
      · rw [List.mem_singleton] at hp
        subst hp
        exact ⟨⟨A2, m, c2, rfl, hmb, (hr2.below hb0).lift (by omega)⟩, hw2⟩)
    (by simp; omega) (by omega)
  simp only [List.flatMap_cons, List.flatMap_nil, List.append_nil] at hu
  have hasc := asc_sortU (a ++ b)
  have hmem := fun x => mem_sortU x (a ++ b)
  have hlen := (length_sortU (a ++ b)).1
  rw [List.length_append] at hlen
  obtain ⟨U, hU⟩ : ∃ U, U = sortU (a ++ b) := ⟨_, rfl⟩
  rw [← hU] at hu hasc hmem hlen
  have c3 := fun x W (hb : Below w.heap.size w W) => has_any a x n hna A1 c1 W _ (below_reads hr1 hb (Nat.le_refl _)) (by omega)
  have c4 := fun x W (hb : Below w.heap.size w W) => has_any b x m hmb A2 c2 W _ (below_reads hr2 hb (Nat.le_refl _)) (by omega)
  have HA := Lib.hid hna
  have HB := Lib.hid hmb
  have HM := Lib.hid hmem
  have HASC := Lib.hid hasc
  have HL := Lib.hid hlen
  have C3 := Lib.hid c3
  have C4 := Lib.hid c4
  have R1 := Lib.hid hr1
  have R2 := Lib.hid hr2
  clear hna hmb hmem hasc hlen c3 c4 hr1 hr2 hU hw1 hw2
  show Calls _ _ _ _ _
  go_enter Try.func9, Try.ntmps9
  go_wp2_with fail
  refine hu.mono ?_
  clear hu
  rintro e w1 ⟨v, rfl, hrow, _, hb1⟩
  obtain ⟨A3, k3, rfl, h31, h32, r3⟩ := own_form hrow
  have hb1 := hb0.trans (hb1.mono (by omega))
  have hs1 := hb1.size
  obtain ⟨q, hq⟩ : ∃ q, q = U.length := ⟨_, rfl⟩
  have HQ := Lib.hid hq
  have hq4 : q ≤ 4000000 := by have := HL.out; have := HA.out; have := HB.out; omega
  rw [← hq] at r3 h31 ⊢
  clear hrow hb0 hal hq
  go_wp2_with fail
  go_loopw [6] (fun i wr => ∃ k : Nat, k ≤ q ∧ i = .int .i64 (k : Int) ∧ ∃ p, wr = w1.drewN p) (fun i _ => q - (intOf i).toNat)
  case atStart => exact ⟨0, Nat.zero_le _, rfl, 0, rfl⟩
  case round =>
    obtain ⟨k, hk, rfl, p, rfl⟩ := hrel
    by_cases hlt : k < q
    · have hki : (k : Int) < (q : Int) := by omega
      have hkl : k < U.length := by have := HQ.out; omega
      obtain ⟨ad, rfl, hcell⟩ := ints_at r3 HQ.out hlt
      obtain ⟨x, hx⟩ : ∃ x, x = U[k]'hkl := ⟨_, rfl⟩
      have hxm : x ∈ a ++ b := (HM.out x).1 (by rw [hx]; exact List.getElem_mem _)
      rw [List.mem_append] at hxm
      have hca := fun j => (C3.out x (w1.drewN (p + j)) (below_drewN hb1 _)).mono (R' := fun e w'' => e = .returned (.bool (a.contains x)) ∧ ∃ n, w'' = w1.drewN (p + n)) (fun _ _ ⟨h1, h2⟩ => ⟨h1, j, h2⟩)
      have hcb := fun j => (C4.out x (w1.drewN (p + j)) (below_drewN hb1 _)).mono (R' := fun e w'' => e = .returned (.bool (b.contains x)) ∧ ∃ n, w'' = w1.drewN (p + n)) (fun _ _ ⟨h1, h2⟩ => ⟨h1, j, h2⟩)
      rw [← hx] at hcell
      have hab : a.contains x = true ∨ (a.contains x = false ∧ b.contains x = true) := by
        cases h : a.contains x with
        | true => exact .inl rfl
        | false =>
          right
          rcases hxm with hxm | hxm
          · rw [List.contains_iff_mem.2 hxm] at h; cases h
          · exact ⟨rfl, List.contains_iff_mem.2 hxm⟩
      rcases Nat.eq_zero_or_pos k with h0 | h0
      · subst h0
        rw [add_zero] at hcell
        rcases hab with hab | ⟨hab, hab2⟩
        · rw [hab] at hca
          clear hx hxm hab hcb r3
          go_wp2_with fail
          go_big_quiet ((go_at_call 37; exact hca _))
          clear hca
          go_wp2_with fail
          go_roundw
          case rel => exact ⟨0 + 1, by omega, by go_num, _, rfl⟩
          case measure => simp [intOf]; omega
        · rw [hab] at hca
          rw [hab2] at hcb
          clear hx hxm hab hab2 r3
          go_wp2_with fail
          go_big_quiet ((go_at_call 37; first | (with_reducible exact hca _) | (with_reducible exact hcb _)))
          clear hca hcb
          go_wp2_with fail
          go_roundw
          case rel => exact ⟨0 + 1, by omega, by go_num, _, rfl⟩
          case measure => simp [intOf]; omega
      · have hkp : 0 < (k : Int) := by omega
        have hk1 : k - 1 < U.length := by omega
        obtain ⟨ad2, e2, hcell2⟩ := ints_at r3 HQ.out (k := k - 1) (by omega)
        injection e2 with e2
        subst e2
        obtain ⟨y, hy⟩ : ∃ y, y = U[k - 1]'hk1 := ⟨_, rfl⟩
        rw [← hy] at hcell2
        have hyx : y < x := by rw [hx, hy]; exact asc_get U HASC.out (k - 1) k (by omega) hkl
        have hd : decide (x ≤ y) = false := decide_eq_false (by omega)
        have i1 : (0 : Int) ≤ (k : Int) - 1 := by omega
        have i2 : (k : Int) - 1 < (q : Int) := by omega
        have i3 : IntKind.i64.wrap ((k : Int) - 1) = (k : Int) - 1 := IntWalk.i64_in _ (by omega)
        have i4 : ((k : Int) - 1).toNat = k - 1 := by omega
        rcases hab with hab | ⟨hab, hab2⟩
        · rw [hab] at hca
          clear hx hy hxm hab hcb r3
          go_wp2_with fail
          go_big_quiet ((go_at_call 37; exact hca _))
          clear hca i3 i4
          go_wp2_with fail
          go_roundw
          case rel => exact ⟨k + 1, by omega, by go_num, _, rfl⟩
          case measure => simp [intOf]; omega
        · rw [hab] at hca
          rw [hab2] at hcb
          clear hx hy hxm hab hab2 r3
          go_wp2_with fail
          go_big_quiet ((go_at_call 37; first | (with_reducible exact hca _) | (with_reducible exact hcb _)))
          clear hca hcb i3 i4
          go_wp2_with fail
          go_roundw
          case rel => exact ⟨k + 1, by omega, by go_num, _, rfl⟩
          case measure => simp [intOf]; omega
    · have hkq := hlt
      go_wp2_with fail
      go_loopw [7] (fun i wr => ∃ k : Nat, k ≤ n ∧ i = .int .i64 (k : Int) ∧ ∃ p, wr = w1.drewN p) (fun i _ => n - (intOf i).toNat)
      case atStart => exact ⟨0, Nat.zero_le _, rfl, _, rfl⟩
      case round =>
        obtain ⟨k, hk, rfl, p, rfl⟩ := hrel
        by_cases hlt : k < n
        · have hki : (k : Int) < (n : Int) := by omega
          have hkl : k < a.length := by have := HA.out; omega
          obtain ⟨ad2, rfl, hcell⟩ := ints_at (below_reads R1.out hb1 (Nat.le_refl _)) HA.out hlt
          obtain ⟨x, hx⟩ : ∃ x, x = a[k]'hkl := ⟨_, rfl⟩
          have hxm : U.contains x = true := List.contains_iff_mem.2 ((HM.out x).2 (by rw [hx]; exact List.mem_append_left _ (List.getElem_mem _)))
          have hcu := has_any U x q HQ.out A3 k3 (w1.drewN p) _ r3 (by omega)
          rw [← hx] at hcell
          rw [hxm] at hcu
          clear hx hxm
          go_wp2_with fail
          refine hcu.mono ?_
          clear hcu
          rintro e w2 ⟨rfl, rfl⟩
          go_wp2_with fail
          go_roundw
          case rel => exact ⟨k + 1, by omega, by go_num, _, rfl⟩
          case measure => simp [intOf]; omega
        · go_wp2_with fail
          go_loopw [8] (fun i wr => ∃ k : Nat, k ≤ m ∧ i = .int .i64 (k : Int) ∧ ∃ p, wr = w1.drewN p) (fun i _ => m - (intOf i).toNat)
          case atStart => exact ⟨0, Nat.zero_le _, rfl, _, rfl⟩
          case round =>
            obtain ⟨k, hk, rfl, p, rfl⟩ := hrel
            by_cases hlt : k < m
            · have hki : (k : Int) < (m : Int) := by omega
              have hkl : k < b.length := by have := HB.out; omega
              obtain ⟨ad2, rfl, hcell⟩ := ints_at (below_reads R2.out hb1 (Nat.le_refl _)) HB.out hlt
              obtain ⟨x, hx⟩ : ∃ x, x = b[k]'hkl := ⟨_, rfl⟩
              have hxm : U.contains x = true := List.contains_iff_mem.2 ((HM.out x).2 (by rw [hx]; exact List.mem_append_right _ (List.getElem_mem _)))
              have hcu := has_any U x q HQ.out A3 k3 (w1.drewN p) _ r3 (by omega)
              rw [← hx] at hcell
              rw [hxm] at hcu
              clear hx hxm
              go_wp2_with fail
              refine hcu.mono ?_
              clear hcu
              rintro e w2 ⟨rfl, rfl⟩
              go_wp2_with fail
              go_roundw
              case rel => exact ⟨k + 1, by omega, by go_num, _, rfl⟩
              case measure => simp [intOf]; omega
            · go_wp2_with fail
              refine (alive07_any _).mono ?_
              rintro e w8 ⟨rfl, hb8⟩
              go_wp2_with fail
              go_ret
              exact ⟨rfl, (below_drewN hb1 _).trans (hb8.mono hb1.size)⟩
end Go.Proofs.Ythfjfkjlgdnohaa
