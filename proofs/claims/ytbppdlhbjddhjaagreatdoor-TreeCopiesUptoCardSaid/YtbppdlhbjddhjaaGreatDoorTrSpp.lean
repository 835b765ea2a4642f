/-
  godownplain.Tenant: a tenant's rows, written over in themselves: nothing else changes.
-/
import Derived.Test.YtbppdlhbjddhjaaGreatDoorYSame
namespace Go.Proofs.YtbppdlhbjddhjaaGreatDoor
open Go.RowKit

def BoxW (b : Nat) (S G T L : Value) (w : World) : Prop := w.cell? ⟨b, 3, none⟩ = some S ∧ w.cell? ⟨b, 4, none⟩ = some G ∧ w.cell? ⟨b, 5, none⟩ = some T ∧ w.cell? ⟨b, 6, none⟩ = some L
set_option maxRecDepth 100000 in
set_option maxHeartbeats 4000000 in
theorem spoilT_any (nm : BS) (qu nx : Int) (s1 : Option Addr) (s2 s3 : Nat) (g1 : Option Addr) (g2 g3 : Nat) (t1 : Option Addr) (t2 t3 : Nat) (l1 : Option Addr) (l2 l3 : Nat) (w : World) (lo hi : Nat) (hhi : hi ≤ w.heap.size) (hlo : lo ≤ w.heap.size) (hs2 : s2 ≤ 5000000000000)
    (hS : SetsW w lo hi (.slice s1 s2 s3)) (hG : RowX w lo hi 78 3 (.slice g1 g2 g3)) (hT : RowX w lo hi 73 21 (.slice t1 t2 t3)) (hL : RowX w lo hi 83 4 (.slice l1 l2 l3)) :
    Calls Tryz.prog 10 #[.agg #[.string ⟨nm.toArray⟩, .int .i64 qu, .int .i64 nx, .slice s1 s2 s3, .slice g1 g2 g3, .slice t1 t2 t3, .slice l1 l2 l3]] w fun e w' => e = .returned (.tuple #[]) ∧ OnlyIn lo hi w w' := by
  have hb1 := (Below.refl w.heap.size w).alloc (Nat.le_refl _) (.cells #[.string ⟨nm.toArray⟩, .int .i64 qu, .int .i64 nx, .slice s1 s2 s3, .slice g1 g2 g3, .slice t1 t2 t3, .slice l1 l2 l3] 27)
  have kT := Blk.new w 27 #[.string ⟨nm.toArray⟩, .int .i64 qu, .int .i64 nx, .slice s1 s2 s3, .slice g1 g2 g3, .slice t1 t2 t3, .slice l1 l2 l3]
  obtain ⟨W0, hW0⟩ : ∃ W, W = w.alloc (.cells #[.string ⟨nm.toArray⟩, .int .i64 qu, .int .i64 nx, .slice s1 s2 s3, .slice g1 g2 g3, .slice t1 t2 t3, .slice l1 l2 l3] 27) := ⟨_, rfl⟩
  have hsz : W0.heap.size = w.heap.size + 1 := by rw [hW0]; simp
  rw [← hW0] at hb1 kT
  have hBX : Hid (∀ W', OnlyIn lo hi W0 W' → W'.cell? ⟨w.heap.size, 3, none⟩ = some (.slice s1 s2 s3) ∧ W'.cell? ⟨w.heap.size, 4, none⟩ = some (.slice g1 g2 g3) ∧ W'.cell? ⟨w.heap.size, 5, none⟩ = some (.slice t1 t2 t3) ∧ W'.cell? ⟨w.heap.size, 6, none⟩ = some (.slice l1 l2 l3)) := by
    show ∀ W', _ → _
    intro W' h
    have hk : Blk W' w.heap.size 27 #[.string ⟨nm.toArray⟩, .int .i64 qu, .int .i64 nx, .slice s1 s2 s3, .slice g1 g2 g3, .slice t1 t2 t3, .slice l1 l2 l3] := (h.high _ hhi (by omega)).trans kT
    exact ⟨hk.cell 3, hk.cell 4, hk.cell 5, hk.cell 6⟩
  have HI : Hid (SpI lo hi (.slice s1 s2 s3) (.slice g1 g2 g3) (.slice t1 t2 t3) (.slice l1 l2 l3) W0 W0) := ⟨hS.below hb1, hG.below hb1, hT.below hb1, hL.below hb1, OnlyIn.refl _ _ _⟩
  have HB0 := Lib.hid hb1
  have hlo0 : lo ≤ W0.heap.size := by omega
  clear hb1 kT hsz hS hG hT hL
  go_enter Tryz.func10, Tryz.ntmps10
  go_wp2_with fail
  rw [← hW0]
  clear hW0
  go_loopw [2] (fun a wr => ∃ i : Nat, i ≤ s2 ∧ a = .int .i64 (i : Int) ∧ Hid (SpI lo hi (.slice s1 s2 s3) (.slice g1 g2 g3) (.slice t1 t2 t3) (.slice l1 l2 l3) W0 wr)) (fun a _ => s2 - (intOf a).toNat)
  case atStart => exact ⟨0, Nat.zero_le _, rfl, HI.out⟩
  case round =>
    clear HI
    obtain ⟨i, hi', rfl, HI⟩ := hrel
    obtain ⟨c3, c4, c5, c6⟩ := hBX.out _ HI.out.only
    by_cases hlt : i < s2
    · obtain ⟨g, bA, bn, bc, sA, sn, sc, oA, on, oc, xs, hSe, hglo, hghi, p2, p3, p4, hth, hrow, ⟨byr, hBr⟩, hSn, ⟨oyr, hOr⟩⟩ := HI.out.sets.at hlt
      obtain ⟨g0, hg0⟩ : ∃ g0, g0 = g := ⟨_, rfl⟩
      subst hg0
      subst hSe
      have hki : (i : Int) < (s2 : Int) := by omega
      clear hBr hOr hSn hrow hth
      go_wp2_with fail
      go_loopw [3] (fun a wr => ∃ m : Nat, m ≤ maxLen ∧ a = .int .i64 (m : Int) ∧ Hid (SpI lo hi (.slice (some ⟨g0, 0, none⟩) s2 s3) (.slice g1 g2 g3) (.slice t1 t2 t3) (.slice l1 l2 l3) W0 wr)) (fun a _ => maxLen - (intOf a).toNat)
      case atStart => exact ⟨0, Nat.zero_le _, rfl, HI.out⟩
      case round =>
        clear HI
        obtain ⟨m, hm, rfl, HI⟩ := hrel
        obtain ⟨c3, c4, c5, c6⟩ := hBX.out _ HI.out.only
        obtain ⟨g, bA, bn, bc, sA, sn, sc, oA, on, oc, xs, hSe, hglo, hghi, p2, p3, p4, hth, hrow, ⟨byr, hBr⟩, hSn, ⟨oyr, hOr⟩⟩ := HI.out.sets.at hlt
        injection hSe with hSe
        injection hSe with hSe
        subst hSe
        have hWl : lo ≤ wr.heap.size := Nat.le_trans hlo0 HI.out.only.low.size
        by_cases hmn : m < bn
        · obtain ⟨gb, cb, hbe, hb1, hb2, hb3, -, hbt, hbo⟩ := hBr.el hmn
          injection hbe with hbe _ hbe2
          subst hbe hbe2
          have hmi : (m : Int) < (bn : Int) := by omega
          have HI2 := Lib.hid (HI.out.store hbo hb1 hb2 hWl (by decide) (by decide) (m * 2) [.int .i64 77, .string ⟨#[]⟩])
          have HTH := Lib.hid hbt
          have hm9 : m < 9223372036854775807 := by unfold maxLen at hb3; omega
          clear hBr hOr hSn hrow hth hbt hbo HI
          obtain ⟨W5, hW5⟩ : ∃ W, W = wr.setCells gb (m * 2) (#[.int .i64 77, .string ⟨#[]⟩] : Array Value).toList := ⟨_, rfl⟩
          rw [show ([.int .i64 77, .string ⟨#[]⟩] : List Value) = (#[.int .i64 77, .string ⟨#[]⟩] : Array Value).toList from rfl, ← hW5] at HI2
          go_wp2_with (refine wpList_store_mid rfl 85 (.tmp 36) (.tmp 35) rfl gb (m * 2) #[.int .i64 77, .string ⟨#[]⟩] (by simp [go_sem]) rfl HTH.out (by kernel_rfl) (by simp [Value.oneCell']) ?_; rw [← hW5]; clear hW5)
          go_roundw
          case rel => exact ⟨m + 1, by omega, by go_num, HI2.out⟩
          case measure => simp [intOf]; unfold maxLen at hb3 ⊢; omega
        · have hmi : ¬ (m : Int) < (bn : Int) := by omega
          clear hBr hOr hSn hrow hth hm
          go_wp2_with fail
          go_loopw [4] (fun a wr => ∃ m : Nat, m ≤ maxLen ∧ a = .int .i64 (m : Int) ∧ Hid (SpI lo hi (.slice (some ⟨g0, 0, none⟩) s2 s3) (.slice g1 g2 g3) (.slice t1 t2 t3) (.slice l1 l2 l3) W0 wr)) (fun a _ => maxLen - (intOf a).toNat)
          case atStart => exact ⟨0, Nat.zero_le _, rfl, HI.out⟩
          case round =>
            clear HI
            obtain ⟨m, hm, rfl, HI⟩ := hrel
            obtain ⟨c3, c4, c5, c6⟩ := hBX.out _ HI.out.only
            obtain ⟨g, bA, bn, bc, sA, sn, sc, oA, on, oc, xs, hSe, hglo, hghi, p2, p3, p4, hth, hrow, ⟨byr, hBr⟩, hSn, ⟨oyr, hOr⟩⟩ := HI.out.sets.at hlt
            injection hSe with hSe
            injection hSe with hSe
            subst hSe
            have hWl : lo ≤ wr.heap.size := Nat.le_trans hlo0 HI.out.only.low.size
            by_cases hmn : m < on
            · obtain ⟨gb, cb, hbe, hb1, hb2, hb3, -, hbt, hbo⟩ := hOr.el hmn
              injection hbe with hbe _ hbe2
              subst hbe hbe2
              have hmi : (m : Int) < (on : Int) := by omega
              have HI2 := Lib.hid (HI.out.store hbo hb1 hb2 hWl (by decide) (by decide) (m * 2) [.string ⟨#[115, 112, 111, 105, 108, 116]⟩, .string ⟨#[]⟩])
              have HTH := Lib.hid hbt
              have hm9 : m < 9223372036854775807 := by unfold maxLen at hb3; omega
              clear hBr hOr hSn hrow hth hbt hbo HI
              obtain ⟨W5, hW5⟩ : ∃ W, W = wr.setCells gb (m * 2) (#[.string ⟨#[115, 112, 111, 105, 108, 116]⟩, .string ⟨#[]⟩] : Array Value).toList := ⟨_, rfl⟩
              rw [show ([.string ⟨#[115, 112, 111, 105, 108, 116]⟩, .string ⟨#[]⟩] : List Value) = (#[.string ⟨#[115, 112, 111, 105, 108, 116]⟩, .string ⟨#[]⟩] : Array Value).toList from rfl, ← hW5] at HI2
              go_wp2_with (refine wpList_store_mid rfl 87 (.tmp 56) (.tmp 55) rfl gb (m * 2) #[.string ⟨#[115, 112, 111, 105, 108, 116]⟩, .string ⟨#[]⟩] (by simp [go_sem]) rfl HTH.out (by kernel_rfl) (by simp [Value.oneCell']) ?_; rw [← hW5]; clear hW5)
              go_roundw
              case rel => exact ⟨m + 1, by omega, by go_num, HI2.out⟩
              case measure => simp [intOf]; unfold maxLen at hb3 ⊢; omega
            · have hmi : ¬ (m : Int) < (on : Int) := by omega
              clear hBr hOr hSn hrow hth hm
              go_wp2_with fail
              obtain ⟨sA0, sn0, sc0, HF⟩ : ∃ sA0 sn0 sc0, Hid (wr.cell? ⟨g0, i * 5 + 3, none⟩ = some (.slice sA0 sn0 sc0)) := by
                obtain ⟨g, bA, bn, bc, sA, sn, sc, oA, on, oc, xs, hSe, hglo, hghi, p2, p3, p4, hth, hrow, ⟨byr, hBr⟩, hSn, ⟨oyr, hOr⟩⟩ := HI.out.sets.at hlt
                injection hSe with hSe
                injection hSe with hSe
                subst hSe
                exact ⟨_, _, _, p3⟩
              go_loopw [5] (fun a wr => ∃ m : Nat, m ≤ sn0 ∧ a = .int .i64 (m : Int) ∧ Hid (SpI lo hi (.slice (some ⟨g0, 0, none⟩) s2 s3) (.slice g1 g2 g3) (.slice t1 t2 t3) (.slice l1 l2 l3) W0 wr) ∧ Hid (wr.cell? ⟨g0, i * 5 + 3, none⟩ = some (.slice sA0 sn0 sc0))) (fun a _ => sn0 - (intOf a).toNat)
              case atStart => exact ⟨0, Nat.zero_le _, rfl, HI.out, HF.out⟩
              case round =>
                clear HI HF
                obtain ⟨kk, hkk, rfl, HI, HF⟩ := hrel
                obtain ⟨c3, c4, c5, c6⟩ := hBX.out _ HI.out.only
                obtain ⟨g, bA, bn, bc, sA, sn, sc, oA, on, oc, xs, hSe, hglo, hghi, p2, p3, p4, hth, hrow, ⟨byr, hBr⟩, hSn, ⟨oyr, hOr⟩⟩ := HI.out.sets.at hlt
                injection hSe with hSe
                injection hSe with hSe
                subst hSe
                rw [HF.out] at p3
                injection p3 with p3
                injection p3 with p3 p3b p3c
                subst p3 p3b p3c
                have p3 := HF.out
                have hWl : lo ≤ wr.heap.size := Nat.le_trans hlo0 HI.out.only.low.size
                by_cases hkn : kk < sn0
                · have hmi : (kk : Int) < (sn0 : Int) := by omega
                  clear hBr hOr hSn hrow hth hkk
                  go_wp2_with fail
                  go_loopw [6] (fun a wr => ∃ m : Nat, m ≤ maxLen ∧ a = .int .i64 (m : Int) ∧ Hid (SpI lo hi (.slice (some ⟨g0, 0, none⟩) s2 s3) (.slice g1 g2 g3) (.slice t1 t2 t3) (.slice l1 l2 l3) W0 wr) ∧ Hid (wr.cell? ⟨g0, i * 5 + 3, none⟩ = some (.slice sA0 sn0 sc0))) (fun a _ => maxLen - (intOf a).toNat)
                  case atStart => exact ⟨0, Nat.zero_le _, rfl, HI.out, HF.out⟩
                  case round =>
                    clear HI HF
                    obtain ⟨m, hm, rfl, HI, HF⟩ := hrel
                    obtain ⟨c3, c4, c5, c6⟩ := hBX.out _ HI.out.only
                    obtain ⟨g, bA, bn, bc, sA, sn, sc, oA, on, oc, xs, hSe, hglo, hghi, p2, p3, p4, hth, hrow, ⟨byr, hBr⟩, hSn, ⟨oyr, hOr⟩⟩ := HI.out.sets.at hlt
                    injection hSe with hSe
                    injection hSe with hSe
                    subst hSe
                    rw [HF.out] at p3
                    injection p3 with p3
                    injection p3 with p3 p3b p3c
                    subst p3 p3b p3c
                    have p3 := HF.out
                    have hWl : lo ≤ wr.heap.size := Nat.le_trans hlo0 HI.out.only.low.size
                    obtain ⟨g', xA, xn, xc, zs, he', hlo', hhi', hsm', q2, hth', hrow', ⟨xyr, hXr⟩⟩ := hSn.at hkn
                    subst he'
                    by_cases hmn : m < xn
                    · obtain ⟨gb, cb, hbe, hb1, hb2, hb3, -, hbt, hbo⟩ := hXr.el hmn
                      injection hbe with hbe _ hbe2
                      subst hbe hbe2
                      have hmi : (m : Int) < (xn : Int) := by omega
                      have HI2 := Lib.hid (HI.out.store hbo hb1 hb2 hWl (by decide) (by decide) (m * 2) [.int .i64 78, .string ⟨#[]⟩])
                      have hne : ¬ g0 = gb := by
                        intro hh
                        obtain ⟨_, k1⟩ := own_blk hbo
                        obtain ⟨_, k2⟩ := own_blk hrow
                        unfold Blk at k1 k2
                        rw [hh, k1] at k2
                        injection k2 with k2
                        injection k2 with _ k2
                        exact absurd k2 (by decide)
                      have HF2 := Lib.hid ((World.cell?_setCells_out gb [.int .i64 78, .string ⟨#[]⟩] (m * 2) wr ⟨g0, i * 5 + 3, none⟩ (fun h => absurd h hne)).trans HF.out)
                      have HTH := Lib.hid hbt
                      have hm9 : m < 9223372036854775807 := by unfold maxLen at hb3; omega
                      clear hBr hOr hSn hrow hth hbt hbo HI hXr hrow' hth' HF hne
                      obtain ⟨W5, hW5⟩ : ∃ W, W = wr.setCells gb (m * 2) (#[.int .i64 78, .string ⟨#[]⟩] : Array Value).toList := ⟨_, rfl⟩
                      rw [show ([.int .i64 78, .string ⟨#[]⟩] : List Value) = (#[.int .i64 78, .string ⟨#[]⟩] : Array Value).toList from rfl, ← hW5] at HI2 HF2
                      go_wp2_with (refine wpList_store_mid rfl 85 (.tmp 95) (.tmp 94) rfl gb (m * 2) #[.int .i64 78, .string ⟨#[]⟩] (by simp [go_sem]) rfl HTH.out (by kernel_rfl) (by simp [Value.oneCell']) ?_; rw [← hW5]; clear hW5)
                      go_roundw
                      case rel => exact ⟨m + 1, by omega, by go_num, HI2.out, HF2.out⟩
                      case measure => simp [intOf]; unfold maxLen at hb3 ⊢; omega
                    · have hmi : ¬ (m : Int) < (xn : Int) := by omega
                      have HI2 := Lib.hid (HI.out.storeSnap hrow' hlo' hhi' hWl kk hkn (.string ⟨#[115, 112, 111, 105, 108, 116]⟩) (.int .i64 0) (.slice none 0 0) (.slice none 0 0))
                      have hne : ¬ g0 = g' := by
                        intro hh
                        obtain ⟨_, k1⟩ := own_blk hrow'
                        obtain ⟨_, k2⟩ := own_blk hrow
                        unfold Blk at k1 k2
                        rw [hh, k1] at k2
                        injection k2 with k2
                        injection k2 with _ k2
                        exact absurd k2 (by decide)
                      have HF2 := Lib.hid ((World.cell?_setCells_out g' [.string ⟨#[115, 112, 111, 105, 108, 116]⟩, .int .i64 0, .slice none 0 0, .slice none 0 0, .slice none 0 0] (kk * 5) wr ⟨g0, i * 5 + 3, none⟩ (fun h => absurd h hne)).trans HF.out)
                      have HTH := Lib.hid hth'
                      have hk9 : kk < 9223372036854775807 := by unfold maxLen at hsm'; omega
                      clear hBr hOr hSn hrow hth HI hXr hrow' hth' hm HF hne
                      obtain ⟨W5, hW5⟩ : ∃ W, W = wr.setCells g' (kk * 5) (#[.string ⟨#[115, 112, 111, 105, 108, 116]⟩, .int .i64 0, .slice none 0 0, .slice none 0 0, .slice none 0 0] : Array Value).toList := ⟨_, rfl⟩
                      rw [show ([.string ⟨#[115, 112, 111, 105, 108, 116]⟩, .int .i64 0, .slice none 0 0, .slice none 0 0, .slice none 0 0] : List Value) = (#[.string ⟨#[115, 112, 111, 105, 108, 116]⟩, .int .i64 0, .slice none 0 0, .slice none 0 0, .slice none 0 0] : Array Value).toList from rfl, ← hW5] at HI2 HF2
                      go_wp2_with (refine wpList_store_mid rfl 66 (.tmp 104) (.tmp 103) rfl g' (kk * 5) #[.string ⟨#[115, 112, 111, 105, 108, 116]⟩, .int .i64 0, .slice none 0 0, .slice none 0 0, .slice none 0 0] (by simp [go_sem]) rfl HTH.out (by kernel_rfl) (by simp [Value.oneCell']) ?_; rw [← hW5]; clear hW5)
                      go_roundw
                      case rel => exact ⟨kk + 1, by omega, by go_num, HI2.out, HF2.out⟩
                      case measure => simp [intOf]; omega
                · have hmi : ¬ (kk : Int) < (sn0 : Int) := by omega
                  clear hBr hOr hSn hrow hth hkk
                  obtain ⟨g, bA, bn, bc, sA, sn, sc, oA, on, oc, xs, hSe, hglo, hghi, p2, p3, p4, hth, hrow, ⟨byr, hBr⟩, hSn, ⟨oyr, hOr⟩⟩ := HI.out.sets.at hlt
                  injection hSe with hSe
                  injection hSe with hSe
                  subst hSe
                  rw [HF.out] at p3
                  injection p3 with p3
                  injection p3 with p3 p3b p3c
                  subst p3 p3b p3c
                  have p3 := HF.out
                  have hWl : lo ≤ wr.heap.size := Nat.le_trans hlo0 HI.out.only.low.size
                  have HI2 := Lib.hid (HI.out.storeSet hrow hglo hghi hWl i hlt (.string ⟨#[115, 112, 111, 105, 108, 116]⟩) (.string ⟨#[]⟩))
                  have HTH := Lib.hid hth
                  obtain ⟨d3, -⟩ := hBX.out _ HI.out.only
                  clear hBr hOr hSn hrow hth HI HF
                  obtain ⟨W5, hW5⟩ : ∃ W, W = wr.setCells g0 (i * 5) (#[.string ⟨#[115, 112, 111, 105, 108, 116]⟩, .string ⟨#[]⟩, .slice none 0 0, .slice none 0 0, .slice none 0 0] : Array Value).toList := ⟨_, rfl⟩
                  rw [show ([.string ⟨#[115, 112, 111, 105, 108, 116]⟩, .string ⟨#[]⟩, .slice none 0 0, .slice none 0 0, .slice none 0 0] : List Value) = (#[.string ⟨#[115, 112, 111, 105, 108, 116]⟩, .string ⟨#[]⟩, .slice none 0 0, .slice none 0 0, .slice none 0 0] : Array Value).toList from rfl, ← hW5] at HI2
                  go_wp2_with (refine wpList_store_mid rfl 61 (.tmp 109) (.tmp 108) rfl g0 (i * 5) #[.string ⟨#[115, 112, 111, 105, 108, 116]⟩, .string ⟨#[]⟩, .slice none 0 0, .slice none 0 0, .slice none 0 0] (by simp [go_sem]) rfl HTH.out (by kernel_rfl) (by simp [Value.oneCell']) ?_; rw [← hW5]; clear hW5)
                  go_roundw
                  case rel => exact ⟨i + 1, by omega, by go_num, HI2.out⟩
                  case measure => simp [intOf]; omega
    · have hki : ¬ (i : Int) < (s2 : Int) := by omega
      obtain ⟨S, hS⟩ : ∃ S, S = Value.slice s1 s2 s3 := ⟨_, rfl⟩
      rw [← hS] at HI hBX c3
      go_wp2_with fail
      go_loopw [7] (fun a wr => ∃ m : Nat, m ≤ g2 ∧ a = .int .i64 (m : Int) ∧ Hid (SpI lo hi S (.slice g1 g2 g3) (.slice t1 t2 t3) (.slice l1 l2 l3) W0 wr)) (fun a _ => g2 - (intOf a).toNat)
      case atStart => exact ⟨0, Nat.zero_le _, rfl, HI.out⟩
      case round =>
        clear HI
        obtain ⟨m, hm, rfl, HI⟩ := hrel
        obtain ⟨c3, c4, c5, c6⟩ := hBX.out _ HI.out.only
        have hWl : lo ≤ wr.heap.size := Nat.le_trans hlo0 HI.out.only.low.size
        obtain ⟨nn, yr, hrw⟩ := HI.out.gr
        have he2 : g2 = nn := by
          obtain ⟨_, _, he, _⟩ := own_form hrw.1
          injection he
        subst he2
        by_cases hmn : m < g2
        · obtain ⟨gb, cb, hbe, hb1, hb2, hb3, -, hbt, hbo⟩ := hrw.el hmn
          injection hbe with hbe _ hbe2
          subst hbe hbe2
          have hmi : (m : Int) < (g2 : Int) := by omega
          have HI2 := Lib.hid (HI.out.store hbo hb1 hb2 hWl (by decide) (by decide) (m * 3) [.string ⟨#[115, 112, 111, 105, 108, 116]⟩, .string ⟨#[]⟩, .int .i64 0])
          have HTH := Lib.hid hbt
          have hm9 : m < 9223372036854775807 := by unfold maxLen at hb3; omega
          clear hrw hbt hbo HI
          obtain ⟨W5, hW5⟩ : ∃ W, W = wr.setCells gb (m * 3) (#[.string ⟨#[115, 112, 111, 105, 108, 116]⟩, .string ⟨#[]⟩, .int .i64 0] : Array Value).toList := ⟨_, rfl⟩
          rw [show ([.string ⟨#[115, 112, 111, 105, 108, 116]⟩, .string ⟨#[]⟩, .int .i64 0] : List Value) = (#[.string ⟨#[115, 112, 111, 105, 108, 116]⟩, .string ⟨#[]⟩, .int .i64 0] : Array Value).toList from rfl, ← hW5] at HI2
          go_wp2_with (refine wpList_store_mid rfl 78 (.tmp 121) (.tmp 120) rfl gb (m * 3) #[.string ⟨#[115, 112, 111, 105, 108, 116]⟩, .string ⟨#[]⟩, .int .i64 0] (by simp [go_sem]) rfl HTH.out (by kernel_rfl) (by simp [Value.oneCell']) ?_; rw [← hW5]; clear hW5)
          go_roundw
          case rel => exact ⟨m + 1, by omega, by go_num, HI2.out⟩
          case measure => simp [intOf]; omega
        · have hmi : ¬ (m : Int) < (g2 : Int) := by omega
          clear hrw hm
          go_wp2_with fail
          go_loopw [8] (fun a wr => ∃ m : Nat, m ≤ t2 ∧ a = .int .i64 (m : Int) ∧ Hid (SpI lo hi S (.slice g1 g2 g3) (.slice t1 t2 t3) (.slice l1 l2 l3) W0 wr)) (fun a _ => t2 - (intOf a).toNat)
          case atStart => exact ⟨0, Nat.zero_le _, rfl, HI.out⟩
          case round =>
            clear HI
            obtain ⟨m, hm, rfl, HI⟩ := hrel
            obtain ⟨c3, c4, c5, c6⟩ := hBX.out _ HI.out.only
            have hWl : lo ≤ wr.heap.size := Nat.le_trans hlo0 HI.out.only.low.size
            obtain ⟨nn, yr, hrw⟩ := HI.out.st
            have he2 : t2 = nn := by
              obtain ⟨_, _, he, _⟩ := own_form hrw.1
              injection he
            subst he2
            by_cases hmn : m < t2
            · obtain ⟨gb, cb, hbe, hb1, hb2, hb3, -, hbt, hbo⟩ := hrw.el hmn
              injection hbe with hbe _ hbe2
              subst hbe hbe2
              have hmi : (m : Int) < (t2 : Int) := by omega
              have HI2 := Lib.hid (HI.out.store hbo hb1 hb2 hWl (by decide) (by decide) (m * 21) [.string ⟨#[115, 112, 111, 105, 108, 116]⟩, .int .i64 0, .string ⟨#[]⟩, .int .i64 0, .int .i64 0, .slice none 0 0, .int .i64 0, .int .i64 0, .string ⟨#[]⟩, .int .u64 0, .int .u64 0, .int .u64 0, .int .u64 0, .slice none 0 0, .int .i64 0, .int .i64 0, .int .u64 0, .int .u64 0, .int .u64 0, .int .u64 0, .bool false])
              have HTH := Lib.hid hbt
              have hm9 : m < 9223372036854775807 := by unfold maxLen at hb3; omega
              clear hrw hbt hbo HI
              obtain ⟨W5, hW5⟩ : ∃ W, W = wr.setCells gb (m * 21) (#[.string ⟨#[115, 112, 111, 105, 108, 116]⟩, .int .i64 0, .string ⟨#[]⟩, .int .i64 0, .int .i64 0, .slice none 0 0, .int .i64 0, .int .i64 0, .string ⟨#[]⟩, .int .u64 0, .int .u64 0, .int .u64 0, .int .u64 0, .slice none 0 0, .int .i64 0, .int .i64 0, .int .u64 0, .int .u64 0, .int .u64 0, .int .u64 0, .bool false] : Array Value).toList := ⟨_, rfl⟩
              rw [show ([.string ⟨#[115, 112, 111, 105, 108, 116]⟩, .int .i64 0, .string ⟨#[]⟩, .int .i64 0, .int .i64 0, .slice none 0 0, .int .i64 0, .int .i64 0, .string ⟨#[]⟩, .int .u64 0, .int .u64 0, .int .u64 0, .int .u64 0, .slice none 0 0, .int .i64 0, .int .i64 0, .int .u64 0, .int .u64 0, .int .u64 0, .int .u64 0, .bool false] : List Value) = (#[.string ⟨#[115, 112, 111, 105, 108, 116]⟩, .int .i64 0, .string ⟨#[]⟩, .int .i64 0, .int .i64 0, .slice none 0 0, .int .i64 0, .int .i64 0, .string ⟨#[]⟩, .int .u64 0, .int .u64 0, .int .u64 0, .int .u64 0, .slice none 0 0, .int .i64 0, .int .i64 0, .int .u64 0, .int .u64 0, .int .u64 0, .int .u64 0, .bool false] : Array Value).toList from rfl, ← hW5] at HI2
              go_wp2_with (refine wpList_store_mid rfl 73 (.tmp 133) (.tmp 132) rfl gb (m * 21) #[.string ⟨#[115, 112, 111, 105, 108, 116]⟩, .int .i64 0, .string ⟨#[]⟩, .int .i64 0, .int .i64 0, .slice none 0 0, .int .i64 0, .int .i64 0, .string ⟨#[]⟩, .int .u64 0, .int .u64 0, .int .u64 0, .int .u64 0, .slice none 0 0, .int .i64 0, .int .i64 0, .int .u64 0, .int .u64 0, .int .u64 0, .int .u64 0, .bool false] (by simp [go_sem]) rfl HTH.out (by kernel_rfl) (by simp [Value.oneCell']) ?_; rw [← hW5]; clear hW5)
              go_roundw
              case rel => exact ⟨m + 1, by omega, by go_num, HI2.out⟩
              case measure => simp [intOf]; omega
            · have hmi : ¬ (m : Int) < (t2 : Int) := by omega
              clear hrw hm
              go_wp2_with fail
              go_loopw [9] (fun a wr => ∃ m : Nat, m ≤ l2 ∧ a = .int .i64 (m : Int) ∧ Hid (SpI lo hi S (.slice g1 g2 g3) (.slice t1 t2 t3) (.slice l1 l2 l3) W0 wr)) (fun a _ => l2 - (intOf a).toNat)
              case atStart => exact ⟨0, Nat.zero_le _, rfl, HI.out⟩
              case round =>
                clear HI
                obtain ⟨m, hm, rfl, HI⟩ := hrel
                obtain ⟨c3, c4, c5, c6⟩ := hBX.out _ HI.out.only
                have hWl : lo ≤ wr.heap.size := Nat.le_trans hlo0 HI.out.only.low.size
                obtain ⟨nn, yr, hrw⟩ := HI.out.lg
                have he2 : l2 = nn := by
                  obtain ⟨_, _, he, _⟩ := own_form hrw.1
                  injection he
                subst he2
                by_cases hmn : m < l2
                · obtain ⟨gb, cb, hbe, hb1, hb2, hb3, -, hbt, hbo⟩ := hrw.el hmn
                  injection hbe with hbe _ hbe2
                  subst hbe hbe2
                  have hmi : (m : Int) < (l2 : Int) := by omega
                  have HI2 := Lib.hid (HI.out.store hbo hb1 hb2 hWl (by decide) (by decide) (m * 4) [.string ⟨#[115, 112, 111, 105, 108, 116]⟩, .int .i64 0, .string ⟨#[]⟩, .int .i64 0])
                  have HTH := Lib.hid hbt
                  have hm9 : m < 9223372036854775807 := by unfold maxLen at hb3; omega
                  clear hrw hbt hbo HI
                  obtain ⟨W5, hW5⟩ : ∃ W, W = wr.setCells gb (m * 4) (#[.string ⟨#[115, 112, 111, 105, 108, 116]⟩, .int .i64 0, .string ⟨#[]⟩, .int .i64 0] : Array Value).toList := ⟨_, rfl⟩
                  rw [show ([.string ⟨#[115, 112, 111, 105, 108, 116]⟩, .int .i64 0, .string ⟨#[]⟩, .int .i64 0] : List Value) = (#[.string ⟨#[115, 112, 111, 105, 108, 116]⟩, .int .i64 0, .string ⟨#[]⟩, .int .i64 0] : Array Value).toList from rfl, ← hW5] at HI2
                  go_wp2_with (refine wpList_store_mid rfl 83 (.tmp 145) (.tmp 144) rfl gb (m * 4) #[.string ⟨#[115, 112, 111, 105, 108, 116]⟩, .int .i64 0, .string ⟨#[]⟩, .int .i64 0] (by simp [go_sem]) rfl HTH.out (by kernel_rfl) (by simp [Value.oneCell']) ?_; rw [← hW5]; clear hW5)
                  go_roundw
                  case rel => exact ⟨m + 1, by omega, by go_num, HI2.out⟩
                  case measure => simp [intOf]; omega
                · have hmi : ¬ (m : Int) < (l2 : Int) := by omega
                  clear hrw hm
                  go_wp2_with fail
                  go_end0
                  exact ⟨rfl, (OnlyIn.of_below HB0.out hlo).trans HI.out.only⟩
end Go.Proofs.YtbppdlhbjddhjaaGreatDoor
