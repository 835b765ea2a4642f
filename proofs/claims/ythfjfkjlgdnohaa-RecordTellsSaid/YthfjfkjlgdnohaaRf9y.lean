/-
  The page's made at kind 4, and at any kind. (mkrf7.py)
-/
import Derived.Test.YthfjfkjlgdnohaaRf8y
namespace Go.Proofs.Ythfjfkjlgdnohaa
open Go.RowKit

set_option maxRecDepth 100000 in
set_option maxHeartbeats 4000000 in
theorem pmade4_any (l : List BS) (hsl : ∀ s ∈ l, s.length ≤ 140737488351232) (n : Nat) (hnl : n = l.length) (A : Option Addr) (c : Nat) (w : World) (B : Nat) (hr : Reads w B 1 A n (scells l)) (hB : B ≤ w.heap.size) (hn : n ≤ 100000) :
    Calls Try.prog 63 #[.int .i64 4, .slice A n c] w (RdPost2 w (madeL 4 l)) := by
  have h2 := two_boxes w #[.int .i64 0, .string ⟨#[]⟩, .int .i64 0, .int .i64 0, .slice none 0 0, .int .i64 0, .int .i64 0, .string ⟨#[]⟩, .int .u64 0, .int .u64 0, .int .u64 0, .int .u64 0] #[.int .i64 4, .string ⟨#[]⟩, .int .i64 0, .int .i64 0, .slice none 0 0, .int .i64 0, .int .i64 0, .string ⟨#[]⟩, .int .u64 0, .int .u64 0, .int .u64 0, .int .u64 0] 27
  obtain ⟨W2, hW2⟩ : ∃ W2, W2 = (w.alloc (.cells #[.int .i64 0, .string ⟨#[]⟩, .int .i64 0, .int .i64 0, .slice none 0 0, .int .i64 0, .int .i64 0, .string ⟨#[]⟩, .int .u64 0, .int .u64 0, .int .u64 0, .int .u64 0] 27)).alloc (.cells #[.int .i64 4, .string ⟨#[]⟩, .int .i64 0, .int .i64 0, .slice none 0 0, .int .i64 0, .int .i64 0, .string ⟨#[]⟩, .int .u64 0, .int .u64 0, .int .u64 0, .int .u64 0] 27) := ⟨_, rfl⟩
  rw [← hW2] at h2
  obtain ⟨k1, k2, hb2⟩ := h2
  have HW2 := Lib.hid hW2
  have HB2 := Lib.hid hb2
  have K1 := Lib.hid k1
  have K2 := Lib.hid k2
  obtain ⟨a0, a1, a2, a3, a4, a5, a6, a7, a8, a9, a10, a11⟩ := blk12 k1
  obtain ⟨g0, g1, g2, g3, g4, g5, g6, g7, g8, g9, g10, g11⟩ := frozen12 k1
  obtain ⟨b0, b1, b2, b3, b4, b5, b6, b7, b8, b9, b10, b11⟩ := blk12 k2
  obtain ⟨f0, f1, f2, f3, f4, f5, f6, f7, f8, f9, f10, f11⟩ := frozen12 k2
  by_cases h2n : n = 1
  · obtain ⟨s, rfl⟩ : ∃ s, l = [s] := by
      match l, hnl.symm.trans h2n with
      | [s], _ => exact ⟨s, rfl⟩
    have hs := hsl s (List.mem_cons_self ..)
    obtain ⟨ad, rfl, hadB, t0⟩ := strs_at hr hnl (k := 0) (by omega)
    have hadw : ad.block < w.heap.size := by omega
    have e0 : w.cell? ad = some (.string ⟨s.toArray⟩) := by rw [add_zero] at t0; exact t0
    have c0 := (hb2.cell hadw).trans e0
    clear t0
    obtain ⟨S, hS⟩ : ∃ S, S = readS s := ⟨_, rfl⟩
    obtain ⟨E, hE⟩ : ∃ E, E = readE s := ⟨_, rfl⟩
    have HMD0 : Hid (madeL 4 [s] = if (E == 0) = true then some { Rc0 with kind := 4, sm := S } else none) := by show _ = _; rw [hE, hS]; exact made_ok4 s
    have hz2 : w.heap.size + 1 < W2.heap.size := k2.lt
    have hcv := Lib.hid (Lib.run_convert_string_bytes (P := Try.prog) W2 9 28 5 ⟨s.toArray⟩ Try.underlying9 Try.underlying28 Try.underlying5)
    have hbw := bytesWorld_below W2 5 ⟨s.toArray⟩
    have hrb := bytesWorld_reads W2 5 ⟨s.toArray⟩
    have hsz : (⟨s.toArray⟩ : ByteArray).size = s.length := by show s.toArray.size = _; simp
    have hrd := rsum_any s (⟨s.toArray⟩ : ByteArray).size hsz (some ⟨W2.heap.size, 0, none⟩) (grownCap W2 (⟨s.toArray⟩ : ByteArray).size 0 5) (Lib.bytesWorld W2 5 ⟨s.toArray⟩) (W2.heap.size + 1) (by simpa using hrb) (by rw [Lib.bytesWorld_size]; omega)
    rw [← hS, ← hE] at hrd
    obtain ⟨sa, sb, sc, sd⟩ := S
    simp only [Sm.val] at hrd
    have HRD := Lib.hid hrd
    have HBW := Lib.hid hbw
    subst h2n
    clear hW2 k1 k2 hb2 hr hnl e0 hE hS hrd hbw hrb hsz hsl hs
    go_enter Try.func63, Try.ntmps63
    go_upto_region 2 with (fail)
    rw [← HW2.out]
    go_wp2_with fail
    rw [hcv.out]
    go_wp2_with fail
    refine HRD.out.mono ?_
    clear HRD a0 a1 a2 a3 a4 a5 a6 a7 a8 a9 a10 a11 g0 g1 g2 g3 g4 g5 g6 g7 g8 g9 g10 g11 b0 b1 b2 b3 b4 b5 b6 b7 b8 b9 b10 b11 f0 f1 f2 f3 f4 f5 f6 f7 f8 f9 f10 f11
    rintro e w3 ⟨rfl, hb3⟩
    have hb13 := HBW.out.trans (hb3.mono HBW.out.size)
    have hz3 : w.heap.size + 1 < w3.heap.size := by have := hb13.size; omega
    obtain ⟨W4, hW4⟩ : ∃ W4, W4 = w3.alloc (.cells #[.int .u64 sa, .int .u64 sb, .int .u64 sc, .int .u64 sd] 25) := ⟨_, rfl⟩
    have k4 : Blk W4 w3.heap.size 25 #[.int .u64 sa, .int .u64 sb, .int .u64 sc, .int .u64 sd] := by rw [hW4]; exact Blk.new _ _ _
    have k1 := (K1.out.below hb13 (by omega)).alloc (.cells #[.int .u64 sa, .int .u64 sb, .int .u64 sc, .int .u64 sd] 25)
    rw [← hW4] at k1
    have k2 := (K2.out.below hb13 (by omega)).alloc (.cells #[.int .u64 sa, .int .u64 sb, .int .u64 sc, .int .u64 sd] 25)
    rw [← hW4] at k2
    have HB4 : Hid (Below w.heap.size w W4) := by show Below _ _ _; rw [hW4]; exact (HB2.out.trans (hb13.mono HB2.out.size)).alloc (by omega) _
    have HW4 := Lib.hid hW4
    clear hb3 hb13 K1 K2 HBW HB2 hW4 HW2 c0
    obtain ⟨a0, a1, a2, a3, a4, a5, a6, a7, a8, a9, a10, a11⟩ := blk12 k1
    obtain ⟨g0, g1, g2, g3, g4, g5, g6, g7, g8, g9, g10, g11⟩ := frozen12 k1
    obtain ⟨b0, b1, b2, b3, b4, b5, b6, b7, b8, b9, b10, b11⟩ := blk12 k2
    obtain ⟨f0, f1, f2, f3, f4, f5, f6, f7, f8, f9, f10, f11⟩ := frozen12 k2
    obtain ⟨m0, m1, m2, m3, _⟩ := blk4 k4
    clear k1 k2 k4
    go_upto_region 28 with (fail)
    rw [← HW4.out]
    by_cases h0 : E = 0
    · have HMD : Hid (madeL 4 [s] = some { Rc0 with kind := 4, sm := ⟨sa, sb, sc, sd⟩ }) := by show _ = _; rw [HMD0.out, h0]; rfl
      clear HMD0
      subst h0
      go_wp2_with fail
      refine bodyPost_ret (v := .tuple #[.agg #[.int .i64 4, .string ⟨#[]⟩, .int .i64 0, .int .i64 0, .slice none 0 0, .int .i64 0, .int .i64 0, .string ⟨#[]⟩, .int .u64 sa, .int .u64 sb, .int .u64 sc, .int .u64 sd], .bool true]) (by simp [results, Try.results63, go_sem, a0, a1, a2, a3, a4, a5, a6, a7, a8, a9, a10, a11]) rfl ?_
      refine ⟨.slice none 0 0, { Rc0 with kind := 4, sm := ⟨sa, sb, sc, sd⟩ }, true, rfl, HMD.out, World.ownsRow_nil _ _ _ _, Nat.zero_le _, ⟨(fun x hx => by cases hx), Nat.zero_le _⟩, ?_⟩
      repeat (with_reducible refine Below.setCell ?_ (by dsimp only; omega) _)
      with_reducible exact HB4.out
    · have hd : (E == 0) = false := by simp [h0]
      have HMD : Hid (madeL 4 [s] = none) := by show _ = _; rw [HMD0.out, hd]; rfl
      clear HMD0
      go_wp2_with fail
      refine bodyPost_ret (v := .tuple #[.agg #[.int .i64 4, .string ⟨#[]⟩, .int .i64 0, .int .i64 0, .slice none 0 0, .int .i64 0, .int .i64 0, .string ⟨#[]⟩, .int .u64 sa, .int .u64 sb, .int .u64 sc, .int .u64 sd], .bool false]) (by simp [results, Try.results63, go_sem, a0, a1, a2, a3, a4, a5, a6, a7, a8, a9, a10, a11]) rfl ?_
      refine ⟨.slice none 0 0, { Rc0 with kind := 4, sm := ⟨sa, sb, sc, sd⟩ }, false, rfl, HMD.out, World.ownsRow_nil _ _ _ _, Nat.zero_le _, ⟨(fun x hx => by cases hx), Nat.zero_le _⟩, ?_⟩
      repeat (with_reducible refine Below.setCell ?_ (by dsimp only; omega) _)
      with_reducible exact HB4.out
  · have HMD : Hid (madeL 4 l = none) := made_bad4 l (by rw [← hnl]; exact h2n)
    have hd : ((n : Int) != 1) = true := by simp; omega
    clear hW2 k1 k2 hb2 hr hnl
    go_enter Try.func63, Try.ntmps63
    go_upto_region 2 with (fail)
    rw [← HW2.out]
    go_wp2_with fail
    refine bodyPost_ret (v := .tuple #[.agg #[.int .i64 4, .string ⟨#[]⟩, .int .i64 0, .int .i64 0, .slice none 0 0, .int .i64 0, .int .i64 0, .string ⟨#[]⟩, .int .u64 0, .int .u64 0, .int .u64 0, .int .u64 0], .bool false]) (by simp [results, Try.results63, go_sem, a0, a1, a2, a3, a4, a5, a6, a7, a8, a9, a10, a11]) rfl ?_
    refine ⟨.slice none 0 0, { Rc0 with kind := 4 }, false, rfl, HMD.out, World.ownsRow_nil _ _ _ _, Nat.zero_le _, ⟨(fun x hx => by cases hx), Nat.zero_le _⟩, ?_⟩
    repeat (with_reducible refine Below.setCell ?_ (by dsimp only; omega) _)
    with_reducible exact HB2.out

theorem pmade_any (k : Int) (hk : k = 1 ∨ k = 2 ∨ k = 3 ∨ k = 4) (l : List BS) (hsl : ∀ s ∈ l, s.length ≤ 140737488351232) (n : Nat) (hnl : n = l.length) (A : Option Addr) (c : Nat) (w : World) (B : Nat) (hr : Reads w B 1 A n (scells l)) (hB : B ≤ w.heap.size) (hn : n ≤ 100000) :
    Calls Try.prog 63 #[.int .i64 k, .slice A n c] w (RdPost2 w (madeL k l)) := by
  rcases hk with rfl | rfl | rfl | rfl
  · exact pmade1_any l hsl n hnl A c w B hr hB hn
  · exact pmade2_any l n hnl A c w B hr hB hn
  · exact pmade3_any l n hnl A c w B hr hB hn
  · exact pmade4_any l hsl n hnl A c w B hr hB hn
end Go.Proofs.Ythfjfkjlgdnohaa
