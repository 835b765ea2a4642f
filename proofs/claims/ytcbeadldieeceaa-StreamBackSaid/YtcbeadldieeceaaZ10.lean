/-
  record.may, record.Check: by their contracts. (mkrcmay.py)
-/
import Derived.WalkSmall
import Derived.Test.YtcbeadldieeceaaRows
import Derived.Test.YtcbeadldieeceaaZ1
import Derived.Test.YtcbeadldieeceaaZ7
import Derived.Test.YtcbeadldieeceaaZ9
namespace Go.Proofs.Ytcbeadldieeceaa
open Go.RowKit

theorem calls_gen {P : Program} {f : FuncId} {args : Array Value} {w : World} {Q : Ending → World → Prop} (h : ∀ W, W = w → Calls P f args W Q) : Calls P f args w Q := h w rfl
/-- two records in boxes of their own -/
theorem two_boxes (w : World) (C1 C2 : Array Value) (t : TypeId) : Blk ((w.alloc (.cells C1 t)).alloc (.cells C2 t)) w.heap.size t C1 ∧ Blk ((w.alloc (.cells C1 t)).alloc (.cells C2 t)) (w.heap.size + 1) t C2 ∧ Below w.heap.size w ((w.alloc (.cells C1 t)).alloc (.cells C2 t)) := by
  have hz : (w.alloc (.cells C1 t)).heap.size = w.heap.size + 1 := by simp
  have k2 := Blk.new (w.alloc (.cells C1 t)) t C2
  rw [hz] at k2
  exact ⟨(Blk.new w t C1).alloc _, k2, ((Below.refl _ w).alloc (Nat.le_refl _) _).alloc (by omega) _⟩

set_option maxRecDepth 100000 in
set_option maxHeartbeats 4000000 in
theorem may1_any (rn : BS) (rf rg : Int) (ro : PL) (ri rc : Int) (rd : BS) (ra rb rx ry : Int) (n : Nat) (hn : n = ro.length) (A1 : Option Addr) (c1 : Nat) (w : World) (B1 : Nat) (hB1 : B1 ≤ w.heap.size) (hr1 : Reads w B1 2 A1 n (pcells ro)) (hn5 : n ≤ 5000000000000) (hv : ∀ x ∈ ro, x.2.length ≤ 140737488351232) :
    Calls Try.prog 53 #[.agg #[.int .i64 1, .string ⟨rn.toArray⟩, .int .i64 rf, .int .i64 rg, .slice A1 n c1, .int .i64 ri, .int .i64 rc, .string ⟨rd.toArray⟩, .int .u64 ra, .int .u64 rb, .int .u64 rx, .int .u64 ry]] w fun e w' => e = .returned (.bool (mayB ⟨1, rn, rf, rg, ro, ri, rc, rd, ⟨ra, rb, rx, ry⟩⟩)) ∧ Below w.heap.size w w' := by
  obtain ⟨R, hR⟩ : ∃ R, R = mayB ⟨1, rn, rf, rg, ro, ri, rc, rd, ⟨ra, rb, rx, ry⟩⟩ := ⟨_, rfl⟩
  rw [← hR]
  have HR := Lib.hid hR
  have HN := Lib.hid hn
  have HRD := Lib.hid (fun W (hb : Below w.heap.size w W) => hr1.below (hb.mono hB1))
  have HV := Lib.hid hv
  clear hR hn hv hr1
  have hNM := fun W => name_any ⟨rn.toArray⟩ W
  simp only [] at hNM
  cases hnb : nameB rn with
  | false =>
    have HF : Hid (R = false) := by show _ = _; rw [HR.out]; simp [mayB, hnb]
    rw [hnb] at hNM
    clear hnb
    go_enter Try.func53, Try.ntmps53
    go_wp2_with fail
    go_region
    go_wp2_with fail

    refine calls_gen (fun W hW => ?_)
    have hk := two_boxes w #[.int .i64 1, .string ⟨rn.toArray⟩, .int .i64 rf, .int .i64 rg, .slice A1 n c1, .int .i64 ri, .int .i64 rc, .string ⟨rd.toArray⟩, .int .u64 ra, .int .u64 rb, .int .u64 rx, .int .u64 ry] #[.int .i64 1, .string ⟨rn.toArray⟩, .int .i64 rf, .int .i64 rg, .slice none 0 0, .int .i64 0, .int .i64 0, .string ⟨#[]⟩, .int .u64 0, .int .u64 0, .int .u64 0, .int .u64 0] 47
    have k1 : Blk W w.heap.size 47 #[.int .i64 1, .string ⟨rn.toArray⟩, .int .i64 rf, .int .i64 rg, .slice A1 n c1, .int .i64 ri, .int .i64 rc, .string ⟨rd.toArray⟩, .int .u64 ra, .int .u64 rb, .int .u64 rx, .int .u64 ry] := by rw [hW]; exact hk.1
    have k2 : Blk W (w.heap.size + 1) 47 #[.int .i64 1, .string ⟨rn.toArray⟩, .int .i64 rf, .int .i64 rg, .slice none 0 0, .int .i64 0, .int .i64 0, .string ⟨#[]⟩, .int .u64 0, .int .u64 0, .int .u64 0, .int .u64 0] := by rw [hW]; exact hk.2.1
    have hb : Below w.heap.size w W := by rw [hW]; exact hk.2.2.drew
    clear hk hW
    refine (hNM W).mono ?_
    rintro e w2 ⟨rfl, hb2⟩
    have k1 := k1.below hb2 k1.lt
    have k2 := k2.below hb2 k2.lt
    have hb := hb.trans (hb2.mono hb.size)
    obtain ⟨d0, d1, d2, d3, d4, d5, d6, d7, d8, d9, d10, d11⟩ := blk12 k1
    obtain ⟨e0, e1, e2, e3, e4, e5, e6, e7, e8, e9, e10, e11⟩ := blk12 k2
    have K1 := Lib.hid k1
    have K2 := Lib.hid k2
    clear k1 k2 hb2
    go_wp2_with fail
    go_ret
    exact ⟨by rw [HF.out]; rfl, hb⟩
  | true =>
    rw [hnb] at hNM
    have HNB := Lib.hid hnb
    clear hnb
    by_cases h : rf < 0
    · have HF : Hid (R = false) := by
        show _ = _
        rw [HR.out, ← Bool.not_eq_true]
        intro hm
        have := (mayB_1 _ rfl hm).2.1
        have := (mayB_1 _ rfl hm).2.2.1
        simp only at *
        omega
      go_enter Try.func53, Try.ntmps53
      go_wp2_with fail
      go_region
      go_wp2_with fail

      refine calls_gen (fun W hW => ?_)
      have hk := two_boxes w #[.int .i64 1, .string ⟨rn.toArray⟩, .int .i64 rf, .int .i64 rg, .slice A1 n c1, .int .i64 ri, .int .i64 rc, .string ⟨rd.toArray⟩, .int .u64 ra, .int .u64 rb, .int .u64 rx, .int .u64 ry] #[.int .i64 1, .string ⟨rn.toArray⟩, .int .i64 rf, .int .i64 rg, .slice none 0 0, .int .i64 0, .int .i64 0, .string ⟨#[]⟩, .int .u64 0, .int .u64 0, .int .u64 0, .int .u64 0] 47
      have k1 : Blk W w.heap.size 47 #[.int .i64 1, .string ⟨rn.toArray⟩, .int .i64 rf, .int .i64 rg, .slice A1 n c1, .int .i64 ri, .int .i64 rc, .string ⟨rd.toArray⟩, .int .u64 ra, .int .u64 rb, .int .u64 rx, .int .u64 ry] := by rw [hW]; exact hk.1
      have k2 : Blk W (w.heap.size + 1) 47 #[.int .i64 1, .string ⟨rn.toArray⟩, .int .i64 rf, .int .i64 rg, .slice none 0 0, .int .i64 0, .int .i64 0, .string ⟨#[]⟩, .int .u64 0, .int .u64 0, .int .u64 0, .int .u64 0] := by rw [hW]; exact hk.2.1
      have hb : Below w.heap.size w W := by rw [hW]; exact hk.2.2.drew
      clear hk hW
      refine (hNM W).mono ?_
      rintro e w2 ⟨rfl, hb2⟩
      have k1 := k1.below hb2 k1.lt
      have k2 := k2.below hb2 k2.lt
      have hb := hb.trans (hb2.mono hb.size)
      obtain ⟨d0, d1, d2, d3, d4, d5, d6, d7, d8, d9, d10, d11⟩ := blk12 k1
      obtain ⟨e0, e1, e2, e3, e4, e5, e6, e7, e8, e9, e10, e11⟩ := blk12 k2
      have K1 := Lib.hid k1
      have K2 := Lib.hid k2
      clear k1 k2 hb2
      go_wp2_with fail

      go_ret
      exact ⟨by rw [HF.out]; rfl, hb⟩
    · skip
      by_cases h : 1099511627776 < rf
      · have HF : Hid (R = false) := by
          show _ = _
          rw [HR.out, ← Bool.not_eq_true]
          intro hm
          have := (mayB_1 _ rfl hm).2.1
          have := (mayB_1 _ rfl hm).2.2.1
          simp only at *
          omega
        go_enter Try.func53, Try.ntmps53
        go_wp2_with fail
        go_region
        go_wp2_with fail

        refine calls_gen (fun W hW => ?_)
        have hk := two_boxes w #[.int .i64 1, .string ⟨rn.toArray⟩, .int .i64 rf, .int .i64 rg, .slice A1 n c1, .int .i64 ri, .int .i64 rc, .string ⟨rd.toArray⟩, .int .u64 ra, .int .u64 rb, .int .u64 rx, .int .u64 ry] #[.int .i64 1, .string ⟨rn.toArray⟩, .int .i64 rf, .int .i64 rg, .slice none 0 0, .int .i64 0, .int .i64 0, .string ⟨#[]⟩, .int .u64 0, .int .u64 0, .int .u64 0, .int .u64 0] 47
        have k1 : Blk W w.heap.size 47 #[.int .i64 1, .string ⟨rn.toArray⟩, .int .i64 rf, .int .i64 rg, .slice A1 n c1, .int .i64 ri, .int .i64 rc, .string ⟨rd.toArray⟩, .int .u64 ra, .int .u64 rb, .int .u64 rx, .int .u64 ry] := by rw [hW]; exact hk.1
        have k2 : Blk W (w.heap.size + 1) 47 #[.int .i64 1, .string ⟨rn.toArray⟩, .int .i64 rf, .int .i64 rg, .slice none 0 0, .int .i64 0, .int .i64 0, .string ⟨#[]⟩, .int .u64 0, .int .u64 0, .int .u64 0, .int .u64 0] := by rw [hW]; exact hk.2.1
        have hb : Below w.heap.size w W := by rw [hW]; exact hk.2.2.drew
        clear hk hW
        refine (hNM W).mono ?_
        rintro e w2 ⟨rfl, hb2⟩
        have k1 := k1.below hb2 k1.lt
        have k2 := k2.below hb2 k2.lt
        have hb := hb.trans (hb2.mono hb.size)
        obtain ⟨d0, d1, d2, d3, d4, d5, d6, d7, d8, d9, d10, d11⟩ := blk12 k1
        obtain ⟨e0, e1, e2, e3, e4, e5, e6, e7, e8, e9, e10, e11⟩ := blk12 k2
        have K1 := Lib.hid k1
        have K2 := Lib.hid k2
        clear k1 k2 hb2
        go_wp2_with fail

        go_ret
        exact ⟨by rw [HF.out]; rfl, hb⟩
      · skip
        by_cases h : rg < 1
        · have HF : Hid (R = false) := by
            show _ = _
            rw [HR.out, ← Bool.not_eq_true]
            intro hm
            have := (mayB_1 _ rfl hm).2.1
            have := (mayB_1 _ rfl hm).2.2.1
            simp only at *
            omega
          go_enter Try.func53, Try.ntmps53
          go_wp2_with fail
          go_region
          go_wp2_with fail

          refine calls_gen (fun W hW => ?_)
          have hk := two_boxes w #[.int .i64 1, .string ⟨rn.toArray⟩, .int .i64 rf, .int .i64 rg, .slice A1 n c1, .int .i64 ri, .int .i64 rc, .string ⟨rd.toArray⟩, .int .u64 ra, .int .u64 rb, .int .u64 rx, .int .u64 ry] #[.int .i64 1, .string ⟨rn.toArray⟩, .int .i64 rf, .int .i64 rg, .slice none 0 0, .int .i64 0, .int .i64 0, .string ⟨#[]⟩, .int .u64 0, .int .u64 0, .int .u64 0, .int .u64 0] 47
          have k1 : Blk W w.heap.size 47 #[.int .i64 1, .string ⟨rn.toArray⟩, .int .i64 rf, .int .i64 rg, .slice A1 n c1, .int .i64 ri, .int .i64 rc, .string ⟨rd.toArray⟩, .int .u64 ra, .int .u64 rb, .int .u64 rx, .int .u64 ry] := by rw [hW]; exact hk.1
          have k2 : Blk W (w.heap.size + 1) 47 #[.int .i64 1, .string ⟨rn.toArray⟩, .int .i64 rf, .int .i64 rg, .slice none 0 0, .int .i64 0, .int .i64 0, .string ⟨#[]⟩, .int .u64 0, .int .u64 0, .int .u64 0, .int .u64 0] := by rw [hW]; exact hk.2.1
          have hb : Below w.heap.size w W := by rw [hW]; exact hk.2.2.drew
          clear hk hW
          refine (hNM W).mono ?_
          rintro e w2 ⟨rfl, hb2⟩
          have k1 := k1.below hb2 k1.lt
          have k2 := k2.below hb2 k2.lt
          have hb := hb.trans (hb2.mono hb.size)
          obtain ⟨d0, d1, d2, d3, d4, d5, d6, d7, d8, d9, d10, d11⟩ := blk12 k1
          obtain ⟨e0, e1, e2, e3, e4, e5, e6, e7, e8, e9, e10, e11⟩ := blk12 k2
          have K1 := Lib.hid k1
          have K2 := Lib.hid k2
          clear k1 k2 hb2
          go_wp2_with fail

          go_ret
          exact ⟨by rw [HF.out]; rfl, hb⟩
        · skip
          by_cases h : 1099511627776 < rg
          · have HF : Hid (R = false) := by
              show _ = _
              rw [HR.out, ← Bool.not_eq_true]
              intro hm
              have := (mayB_1 _ rfl hm).2.1
              have := (mayB_1 _ rfl hm).2.2.1
              simp only at *
              omega
            go_enter Try.func53, Try.ntmps53
            go_wp2_with fail
            go_region
            go_wp2_with fail

            refine calls_gen (fun W hW => ?_)
            have hk := two_boxes w #[.int .i64 1, .string ⟨rn.toArray⟩, .int .i64 rf, .int .i64 rg, .slice A1 n c1, .int .i64 ri, .int .i64 rc, .string ⟨rd.toArray⟩, .int .u64 ra, .int .u64 rb, .int .u64 rx, .int .u64 ry] #[.int .i64 1, .string ⟨rn.toArray⟩, .int .i64 rf, .int .i64 rg, .slice none 0 0, .int .i64 0, .int .i64 0, .string ⟨#[]⟩, .int .u64 0, .int .u64 0, .int .u64 0, .int .u64 0] 47
            have k1 : Blk W w.heap.size 47 #[.int .i64 1, .string ⟨rn.toArray⟩, .int .i64 rf, .int .i64 rg, .slice A1 n c1, .int .i64 ri, .int .i64 rc, .string ⟨rd.toArray⟩, .int .u64 ra, .int .u64 rb, .int .u64 rx, .int .u64 ry] := by rw [hW]; exact hk.1
            have k2 : Blk W (w.heap.size + 1) 47 #[.int .i64 1, .string ⟨rn.toArray⟩, .int .i64 rf, .int .i64 rg, .slice none 0 0, .int .i64 0, .int .i64 0, .string ⟨#[]⟩, .int .u64 0, .int .u64 0, .int .u64 0, .int .u64 0] := by rw [hW]; exact hk.2.1
            have hb : Below w.heap.size w W := by rw [hW]; exact hk.2.2.drew
            clear hk hW
            refine (hNM W).mono ?_
            rintro e w2 ⟨rfl, hb2⟩
            have k1 := k1.below hb2 k1.lt
            have k2 := k2.below hb2 k2.lt
            have hb := hb.trans (hb2.mono hb.size)
            obtain ⟨d0, d1, d2, d3, d4, d5, d6, d7, d8, d9, d10, d11⟩ := blk12 k1
            obtain ⟨e0, e1, e2, e3, e4, e5, e6, e7, e8, e9, e10, e11⟩ := blk12 k2
            have K1 := Lib.hid k1
            have K2 := Lib.hid k2
            clear k1 k2 hb2
            go_wp2_with fail

            go_ret
            exact ⟨by rw [HF.out]; rfl, hb⟩
          · skip
            have hck := fun W hb => checkP_any ro n HN.out A1 c1 W B1 (HRD.out W hb) (Nat.le_trans hB1 hb.size) (by omega) HV.out
            cases hpb : propsB ro with
            | false =>
              have hpe : propsE ro = 9 := by unfold propsE; rw [if_neg (by rw [hpb]; simp)]
              have HF : Hid (R = false) := by show _ = _; rw [HR.out]; simp [mayB, hpb]
              simp only [hpe] at hck
              clear hpe hpb
              go_enter Try.func53, Try.ntmps53
              go_wp2_with fail
              go_region
              go_wp2_with fail

              refine calls_gen (fun W hW => ?_)
              have hk := two_boxes w #[.int .i64 1, .string ⟨rn.toArray⟩, .int .i64 rf, .int .i64 rg, .slice A1 n c1, .int .i64 ri, .int .i64 rc, .string ⟨rd.toArray⟩, .int .u64 ra, .int .u64 rb, .int .u64 rx, .int .u64 ry] #[.int .i64 1, .string ⟨rn.toArray⟩, .int .i64 rf, .int .i64 rg, .slice none 0 0, .int .i64 0, .int .i64 0, .string ⟨#[]⟩, .int .u64 0, .int .u64 0, .int .u64 0, .int .u64 0] 47
              have k1 : Blk W w.heap.size 47 #[.int .i64 1, .string ⟨rn.toArray⟩, .int .i64 rf, .int .i64 rg, .slice A1 n c1, .int .i64 ri, .int .i64 rc, .string ⟨rd.toArray⟩, .int .u64 ra, .int .u64 rb, .int .u64 rx, .int .u64 ry] := by rw [hW]; exact hk.1
              have k2 : Blk W (w.heap.size + 1) 47 #[.int .i64 1, .string ⟨rn.toArray⟩, .int .i64 rf, .int .i64 rg, .slice none 0 0, .int .i64 0, .int .i64 0, .string ⟨#[]⟩, .int .u64 0, .int .u64 0, .int .u64 0, .int .u64 0] := by rw [hW]; exact hk.2.1
              have hb : Below w.heap.size w W := by rw [hW]; exact hk.2.2.drew
              clear hk hW
              refine (hNM W).mono ?_
              rintro e w2 ⟨rfl, hb2⟩
              have k1 := k1.below hb2 k1.lt
              have k2 := k2.below hb2 k2.lt
              have hb := hb.trans (hb2.mono hb.size)
              obtain ⟨d0, d1, d2, d3, d4, d5, d6, d7, d8, d9, d10, d11⟩ := blk12 k1
              obtain ⟨e0, e1, e2, e3, e4, e5, e6, e7, e8, e9, e10, e11⟩ := blk12 k2
              have K1 := Lib.hid k1
              have K2 := Lib.hid k2
              clear k1 k2 hb2
              go_wp2_with fail
              refine (hck w2 hb).mono ?_
              rintro e w3 ⟨rfl, hb3⟩
              have hb := hb.trans (hb3.mono hb.size)
              go_wp2_with fail

              go_ret
              exact ⟨by rw [HF.out]; rfl, hb⟩
            | true =>
              have hpe : propsE ro = 0 := by unfold propsE; rw [if_pos hpb]
              simp only [hpe] at hck
              have HF : Hid (R = sameR ⟨1, rn, rf, rg, [], ri, rc, rd, ⟨ra, rb, rx, ry⟩⟩ ⟨1, rn, rf, rg, [], 0, 0, [], Sm0⟩) := by
                show _ = _
                rw [HR.out, Bool.eq_iff_iff, sameR_iff]
                simp [mayB, HNB.out, hpb, amt, smZ, Sm0, and_assoc]
                exact ⟨fun h => h.2.2.2.2, fun h => ⟨by omega, by omega, by omega, by omega, h⟩⟩
              clear hpe hpb
              go_enter Try.func53, Try.ntmps53
              go_wp2_with fail
              go_region
              go_wp2_with fail

              refine calls_gen (fun W hW => ?_)
              have hk := two_boxes w #[.int .i64 1, .string ⟨rn.toArray⟩, .int .i64 rf, .int .i64 rg, .slice A1 n c1, .int .i64 ri, .int .i64 rc, .string ⟨rd.toArray⟩, .int .u64 ra, .int .u64 rb, .int .u64 rx, .int .u64 ry] #[.int .i64 1, .string ⟨rn.toArray⟩, .int .i64 rf, .int .i64 rg, .slice none 0 0, .int .i64 0, .int .i64 0, .string ⟨#[]⟩, .int .u64 0, .int .u64 0, .int .u64 0, .int .u64 0] 47
              have k1 : Blk W w.heap.size 47 #[.int .i64 1, .string ⟨rn.toArray⟩, .int .i64 rf, .int .i64 rg, .slice A1 n c1, .int .i64 ri, .int .i64 rc, .string ⟨rd.toArray⟩, .int .u64 ra, .int .u64 rb, .int .u64 rx, .int .u64 ry] := by rw [hW]; exact hk.1
              have k2 : Blk W (w.heap.size + 1) 47 #[.int .i64 1, .string ⟨rn.toArray⟩, .int .i64 rf, .int .i64 rg, .slice none 0 0, .int .i64 0, .int .i64 0, .string ⟨#[]⟩, .int .u64 0, .int .u64 0, .int .u64 0, .int .u64 0] := by rw [hW]; exact hk.2.1
              have hb : Below w.heap.size w W := by rw [hW]; exact hk.2.2.drew
              clear hk hW
              refine (hNM W).mono ?_
              rintro e w2 ⟨rfl, hb2⟩
              have k1 := k1.below hb2 k1.lt
              have k2 := k2.below hb2 k2.lt
              have hb := hb.trans (hb2.mono hb.size)
              obtain ⟨d0, d1, d2, d3, d4, d5, d6, d7, d8, d9, d10, d11⟩ := blk12 k1
              obtain ⟨e0, e1, e2, e3, e4, e5, e6, e7, e8, e9, e10, e11⟩ := blk12 k2
              have K1 := Lib.hid k1
              have K2 := Lib.hid k2
              clear k1 k2 hb2
              go_wp2_with fail
              refine (hck w2 hb).mono ?_
              rintro e w3 ⟨rfl, hb3⟩
              have k1 := K1.out.below hb3 K1.out.lt
              have k2 := K2.out.below hb3 K2.out.lt
              have hb := hb.trans (hb3.mono hb.size)
              clear d0 d1 d2 d3 d4 d5 d6 d7 d8 d9 d10 d11 e0 e1 e2 e3 e4 e5 e6 e7 e8 e9 e10 e11 K1 K2
              obtain ⟨d0, d1, d2, d3, d4, d5, d6, d7, d8, d9, d10, d11⟩ := blk12 k1
              obtain ⟨e0, e1, e2, e3, e4, e5, e6, e7, e8, e9, e10, e11⟩ := blk12 k2
              have fz := k1.frozen 4
              clear k1 k2 hb3
              go_wp2_with fail
              refine (rsame_any ⟨1, rn, rf, rg, [], ri, rc, rd, ⟨ra, rb, rx, ry⟩⟩ ⟨1, rn, rf, rg, [], 0, 0, [], Sm0⟩ 0 0 rfl rfl none none 0 0 _ _ _ (Nat.le_refl _) (Nat.le_refl _) Reads.none_ Reads.none_ (by omega) (by omega)).mono ?_
              rintro e w4 ⟨rfl, hb4⟩
              have hb := hb.setCell (p := ⟨w.heap.size, 4, none⟩) (Nat.le_refl _) (.slice none 0 0)
              have hb := hb.trans (hb4.mono hb.size)
              go_wp2_with fail
              go_ret
              exact ⟨by rw [HF.out]; rfl, hb⟩

set_option maxRecDepth 100000 in
set_option maxHeartbeats 4000000 in
theorem may2_any (rn : BS) (rf rg : Int) (ro : PL) (ri rc : Int) (rd : BS) (ra rb rx ry : Int) (n : Nat) (hn : n = ro.length) (A1 : Option Addr) (c1 : Nat) (w : World) (B1 : Nat) (hB1 : B1 ≤ w.heap.size) (hr1 : Reads w B1 2 A1 n (pcells ro)) (hn5 : n ≤ 5000000000000) (hv : ∀ x ∈ ro, x.2.length ≤ 140737488351232) :
    Calls Try.prog 53 #[.agg #[.int .i64 2, .string ⟨rn.toArray⟩, .int .i64 rf, .int .i64 rg, .slice A1 n c1, .int .i64 ri, .int .i64 rc, .string ⟨rd.toArray⟩, .int .u64 ra, .int .u64 rb, .int .u64 rx, .int .u64 ry]] w fun e w' => e = .returned (.bool (mayB ⟨2, rn, rf, rg, ro, ri, rc, rd, ⟨ra, rb, rx, ry⟩⟩)) ∧ Below w.heap.size w w' := by
  obtain ⟨R, hR⟩ : ∃ R, R = mayB ⟨2, rn, rf, rg, ro, ri, rc, rd, ⟨ra, rb, rx, ry⟩⟩ := ⟨_, rfl⟩
  rw [← hR]
  have HR := Lib.hid hR
  have HN := Lib.hid hn
  have HRD := Lib.hid (fun W (hb : Below w.heap.size w W) => hr1.below (hb.mono hB1))
  have HV := Lib.hid hv
  clear hR hn hv hr1
  by_cases h : ri < 0
  · have HF : Hid (R = false) := by
      show _ = _
      rw [HR.out, ← Bool.not_eq_true]
      intro hm
      have := (mayB_2 _ rfl hm).1
      have := (mayB_2 _ rfl hm).2.1
      simp only at *
      omega
    go_enter Try.func53, Try.ntmps53
    go_wp2_with fail
    go_region
    go_wp2_with fail

    go_ret
    refine ⟨by rw [HF.out]; rfl, ?_⟩
    exact (((Below.refl _ w).alloc (Nat.le_refl _) _).alloc (by simp) _).drew
  · skip
    by_cases h : 1024 ≤ ri
    · have HF : Hid (R = false) := by
        show _ = _
        rw [HR.out, ← Bool.not_eq_true]
        intro hm
        have := (mayB_2 _ rfl hm).1
        have := (mayB_2 _ rfl hm).2.1
        simp only at *
        omega
      go_enter Try.func53, Try.ntmps53
      go_wp2_with fail
      go_region
      go_wp2_with fail

      go_ret
      refine ⟨by rw [HF.out]; rfl, ?_⟩
      exact (((Below.refl _ w).alloc (Nat.le_refl _) _).alloc (by simp) _).drew
    · skip
      by_cases h : ¬ rd.length = 16
      · have HF : Hid (R = false) := by
          show _ = _
          rw [HR.out, ← Bool.not_eq_true]
          intro hm
          have := (mayB_2 _ rfl hm).1
          have := (mayB_2 _ rfl hm).2.1
          simp only at *
          omega
        have g3a : ((rd.length : Int) == 16) = false := by simp; omega
        have g3b : ((rd.length : Int) != 16) = true := by simp; omega
        go_enter Try.func53, Try.ntmps53
        go_wp2_with fail
        go_region
        go_wp2_with fail

        go_ret
        refine ⟨by rw [HF.out]; rfl, ?_⟩
        exact (((Below.refl _ w).alloc (Nat.le_refl _) _).alloc (by simp) _).drew
      · skip
        have HF : Hid (R = sameR ⟨2, rn, rf, rg, ro, ri, rc, rd, ⟨ra, rb, rx, ry⟩⟩ ⟨2, [], 0, 0, [], ri, 0, rd, Sm0⟩) := by
          show _ = _
          rw [HR.out, Bool.eq_iff_iff, sameR_iff]
          simp [mayB, smZ, Sm0]
          simp only [and_assoc]
          exact ⟨fun h => h.2.2.2, fun h => ⟨by omega, by omega, by omega, h⟩⟩
        have g3a : ((rd.length : Int) == 16) = true := by simp; omega
        have g3b : ((rd.length : Int) != 16) = false := by simp; omega

        go_enter Try.func53, Try.ntmps53
        go_wp2_with fail
        go_region
        go_wp2_with fail

        refine calls_gen (fun W hW => ?_)
        have hk := two_boxes w #[.int .i64 2, .string ⟨rn.toArray⟩, .int .i64 rf, .int .i64 rg, .slice A1 n c1, .int .i64 ri, .int .i64 rc, .string ⟨rd.toArray⟩, .int .u64 ra, .int .u64 rb, .int .u64 rx, .int .u64 ry] #[.int .i64 2, .string ⟨#[]⟩, .int .i64 0, .int .i64 0, .slice none 0 0, .int .i64 ri, .int .i64 0, .string ⟨rd.toArray⟩, .int .u64 0, .int .u64 0, .int .u64 0, .int .u64 0] 47
        have hb : Below w.heap.size w W := by rw [hW]; exact hk.2.2.drew
        clear hk hW
        refine (rsame_any ⟨2, rn, rf, rg, ro, ri, rc, rd, ⟨ra, rb, rx, ry⟩⟩ ⟨2, [], 0, 0, [], ri, 0, rd, Sm0⟩ n 0 HN.out rfl A1 none c1 0 W B1 W.heap.size (Nat.le_trans hB1 hb.size) (Nat.le_refl _) (HRD.out W hb) Reads.none_ hn5 (by omega)).mono ?_
        rintro e w2 ⟨rfl, hb2⟩
        have hb := hb.trans (hb2.mono hb.size)
        go_wp2_with fail
        go_ret
        exact ⟨by rw [HF.out]; rfl, hb⟩

set_option maxRecDepth 100000 in
set_option maxHeartbeats 4000000 in
theorem may3_any (rn : BS) (rf rg : Int) (ro : PL) (ri rc : Int) (rd : BS) (ra rb rx ry : Int) (n : Nat) (hn : n = ro.length) (A1 : Option Addr) (c1 : Nat) (w : World) (B1 : Nat) (hB1 : B1 ≤ w.heap.size) (hr1 : Reads w B1 2 A1 n (pcells ro)) (hn5 : n ≤ 5000000000000) (hv : ∀ x ∈ ro, x.2.length ≤ 140737488351232) :
    Calls Try.prog 53 #[.agg #[.int .i64 3, .string ⟨rn.toArray⟩, .int .i64 rf, .int .i64 rg, .slice A1 n c1, .int .i64 ri, .int .i64 rc, .string ⟨rd.toArray⟩, .int .u64 ra, .int .u64 rb, .int .u64 rx, .int .u64 ry]] w fun e w' => e = .returned (.bool (mayB ⟨3, rn, rf, rg, ro, ri, rc, rd, ⟨ra, rb, rx, ry⟩⟩)) ∧ Below w.heap.size w w' := by
  obtain ⟨R, hR⟩ : ∃ R, R = mayB ⟨3, rn, rf, rg, ro, ri, rc, rd, ⟨ra, rb, rx, ry⟩⟩ := ⟨_, rfl⟩
  rw [← hR]
  have HR := Lib.hid hR
  have HN := Lib.hid hn
  have HRD := Lib.hid (fun W (hb : Below w.heap.size w W) => hr1.below (hb.mono hB1))
  have HV := Lib.hid hv
  clear hR hn hv hr1
  by_cases h : ri < 0
  · have HF : Hid (R = false) := by
      show _ = _
      rw [HR.out, ← Bool.not_eq_true]
      intro hm
      have := (mayB_3 _ rfl hm).1
      have := (mayB_3 _ rfl hm).2.1
      simp only at *
      omega
    go_enter Try.func53, Try.ntmps53
    go_wp2_with fail
    go_region
    go_wp2_with fail

    go_ret
    refine ⟨by rw [HF.out]; rfl, ?_⟩
    exact (((Below.refl _ w).alloc (Nat.le_refl _) _).alloc (by simp) _).drew
  · skip
    by_cases h : 1024 ≤ ri
    · have HF : Hid (R = false) := by
        show _ = _
        rw [HR.out, ← Bool.not_eq_true]
        intro hm
        have := (mayB_3 _ rfl hm).1
        have := (mayB_3 _ rfl hm).2.1
        simp only at *
        omega
      go_enter Try.func53, Try.ntmps53
      go_wp2_with fail
      go_region
      go_wp2_with fail

      go_ret
      refine ⟨by rw [HF.out]; rfl, ?_⟩
      exact (((Below.refl _ w).alloc (Nat.le_refl _) _).alloc (by simp) _).drew
    · skip
      by_cases h : rc < 1
      · have HF : Hid (R = false) := by
          show _ = _
          rw [HR.out, ← Bool.not_eq_true]
          intro hm
          have := (mayB_3 _ rfl hm).1
          have := (mayB_3 _ rfl hm).2.1
          simp only at *
          omega
        go_enter Try.func53, Try.ntmps53
        go_wp2_with fail
        go_region
        go_wp2_with fail

        go_ret
        refine ⟨by rw [HF.out]; rfl, ?_⟩
        exact (((Below.refl _ w).alloc (Nat.le_refl _) _).alloc (by simp) _).drew
      · skip
        by_cases h : 1024 - ri < rc
        · have HF : Hid (R = false) := by
            show _ = _
            rw [HR.out, ← Bool.not_eq_true]
            intro hm
            have := (mayB_3 _ rfl hm).1
            have := (mayB_3 _ rfl hm).2.1
            simp only at *
            omega
          go_enter Try.func53, Try.ntmps53
          go_wp2_with fail
          go_region
          go_wp2_with fail

          go_ret
          refine ⟨by rw [HF.out]; rfl, ?_⟩
          exact (((Below.refl _ w).alloc (Nat.le_refl _) _).alloc (by simp) _).drew
        · skip
          have HF : Hid (R = sameR ⟨3, rn, rf, rg, ro, ri, rc, rd, ⟨ra, rb, rx, ry⟩⟩ ⟨3, [], 0, 0, [], ri, rc, [], Sm0⟩) := by
            show _ = _
            rw [HR.out, Bool.eq_iff_iff, sameR_iff]
            simp [mayB, smZ, Sm0]
            simp only [and_assoc]
            exact ⟨fun h => h.2.2.2.2, fun h => ⟨by omega, by omega, by omega, by omega, h⟩⟩

          go_enter Try.func53, Try.ntmps53
          go_wp2_with fail
          go_region
          go_wp2_with fail

          refine calls_gen (fun W hW => ?_)
          have hk := two_boxes w #[.int .i64 3, .string ⟨rn.toArray⟩, .int .i64 rf, .int .i64 rg, .slice A1 n c1, .int .i64 ri, .int .i64 rc, .string ⟨rd.toArray⟩, .int .u64 ra, .int .u64 rb, .int .u64 rx, .int .u64 ry] #[.int .i64 3, .string ⟨#[]⟩, .int .i64 0, .int .i64 0, .slice none 0 0, .int .i64 ri, .int .i64 rc, .string ⟨#[]⟩, .int .u64 0, .int .u64 0, .int .u64 0, .int .u64 0] 47
          have hb : Below w.heap.size w W := by rw [hW]; exact hk.2.2.drew
          clear hk hW
          refine (rsame_any ⟨3, rn, rf, rg, ro, ri, rc, rd, ⟨ra, rb, rx, ry⟩⟩ ⟨3, [], 0, 0, [], ri, rc, [], Sm0⟩ n 0 HN.out rfl A1 none c1 0 W B1 W.heap.size (Nat.le_trans hB1 hb.size) (Nat.le_refl _) (HRD.out W hb) Reads.none_ hn5 (by omega)).mono ?_
          rintro e w2 ⟨rfl, hb2⟩
          have hb := hb.trans (hb2.mono hb.size)
          go_wp2_with fail
          go_ret
          exact ⟨by rw [HF.out]; rfl, hb⟩

set_option maxRecDepth 100000 in
set_option maxHeartbeats 4000000 in
theorem may4_any (rn : BS) (rf rg : Int) (ro : PL) (ri rc : Int) (rd : BS) (ra rb rx ry : Int) (n : Nat) (hn : n = ro.length) (A1 : Option Addr) (c1 : Nat) (w : World) (B1 : Nat) (hB1 : B1 ≤ w.heap.size) (hr1 : Reads w B1 2 A1 n (pcells ro)) (hn5 : n ≤ 5000000000000) (hv : ∀ x ∈ ro, x.2.length ≤ 140737488351232) :
    Calls Try.prog 53 #[.agg #[.int .i64 4, .string ⟨rn.toArray⟩, .int .i64 rf, .int .i64 rg, .slice A1 n c1, .int .i64 ri, .int .i64 rc, .string ⟨rd.toArray⟩, .int .u64 ra, .int .u64 rb, .int .u64 rx, .int .u64 ry]] w fun e w' => e = .returned (.bool (mayB ⟨4, rn, rf, rg, ro, ri, rc, rd, ⟨ra, rb, rx, ry⟩⟩)) ∧ Below w.heap.size w w' := by
  obtain ⟨R, hR⟩ : ∃ R, R = mayB ⟨4, rn, rf, rg, ro, ri, rc, rd, ⟨ra, rb, rx, ry⟩⟩ := ⟨_, rfl⟩
  rw [← hR]
  have HR := Lib.hid hR
  have HN := Lib.hid hn
  have HRD := Lib.hid (fun W (hb : Below w.heap.size w W) => hr1.below (hb.mono hB1))
  have HV := Lib.hid hv
  clear hR hn hv hr1
  have HF : Hid (R = sameR ⟨4, rn, rf, rg, ro, ri, rc, rd, ⟨ra, rb, rx, ry⟩⟩ ⟨4, [], 0, 0, [], 0, 0, [], ⟨ra, rb, rx, ry⟩⟩) := by
    show _ = _
    rw [HR.out, Bool.eq_iff_iff, sameR_iff]
    simp [mayB]
    simp only [and_assoc]

  go_enter Try.func53, Try.ntmps53
  go_wp2_with fail

  refine calls_gen (fun W hW => ?_)
  have hk := two_boxes w #[.int .i64 4, .string ⟨rn.toArray⟩, .int .i64 rf, .int .i64 rg, .slice A1 n c1, .int .i64 ri, .int .i64 rc, .string ⟨rd.toArray⟩, .int .u64 ra, .int .u64 rb, .int .u64 rx, .int .u64 ry] #[.int .i64 4, .string ⟨#[]⟩, .int .i64 0, .int .i64 0, .slice none 0 0, .int .i64 0, .int .i64 0, .string ⟨#[]⟩, .int .u64 ra, .int .u64 rb, .int .u64 rx, .int .u64 ry] 47
  have hb : Below w.heap.size w W := by rw [hW]; exact hk.2.2
  clear hk hW
  refine (rsame_any ⟨4, rn, rf, rg, ro, ri, rc, rd, ⟨ra, rb, rx, ry⟩⟩ ⟨4, [], 0, 0, [], 0, 0, [], ⟨ra, rb, rx, ry⟩⟩ n 0 HN.out rfl A1 none c1 0 W B1 W.heap.size (Nat.le_trans hB1 hb.size) (Nat.le_refl _) (HRD.out W hb) Reads.none_ hn5 (by omega)).mono ?_
  rintro e w2 ⟨rfl, hb2⟩
  have hb := hb.trans (hb2.mono hb.size)
  go_wp2_with fail
  go_ret
  exact ⟨by rw [HF.out]; rfl, hb⟩

theorem may_any (rk : Int) (hk : rk = 1 ∨ rk = 2 ∨ rk = 3 ∨ rk = 4) (rn : BS) (rf rg : Int) (ro : PL) (ri rc : Int) (rd : BS) (ra rb rx ry : Int) (n : Nat) (hn : n = ro.length) (A1 : Option Addr) (c1 : Nat) (w : World) (B1 : Nat) (hB1 : B1 ≤ w.heap.size) (hr1 : Reads w B1 2 A1 n (pcells ro)) (hn5 : n ≤ 5000000000000) (hv : ∀ x ∈ ro, x.2.length ≤ 140737488351232) :
    Calls Try.prog 53 #[.agg #[.int .i64 rk, .string ⟨rn.toArray⟩, .int .i64 rf, .int .i64 rg, .slice A1 n c1, .int .i64 ri, .int .i64 rc, .string ⟨rd.toArray⟩, .int .u64 ra, .int .u64 rb, .int .u64 rx, .int .u64 ry]] w fun e w' => e = .returned (.bool (mayB ⟨rk, rn, rf, rg, ro, ri, rc, rd, ⟨ra, rb, rx, ry⟩⟩)) ∧ Below w.heap.size w w' := by
  rcases hk with rfl | rfl | rfl | rfl
  · exact may1_any rn rf rg ro ri rc rd ra rb rx ry n hn A1 c1 w B1 hB1 hr1 hn5 hv
  · exact may2_any rn rf rg ro ri rc rd ra rb rx ry n hn A1 c1 w B1 hB1 hr1 hn5 hv
  · exact may3_any rn rf rg ro ri rc rd ra rb rx ry n hn A1 c1 w B1 hB1 hr1 hn5 hv
  · exact may4_any rn rf rg ro ri rc rd ra rb rx ry n hn A1 c1 w B1 hB1 hr1 hn5 hv
set_option maxRecDepth 100000 in
set_option maxHeartbeats 4000000 in
theorem rcheck_any (r : Rc) (n : Nat) (hn : n = r.own.length) (A1 : Option Addr) (c1 : Nat) (w : World) (B1 : Nat) (hB1 : B1 ≤ w.heap.size) (hr1 : Reads w B1 2 A1 n (pcells r.own)) (hn5 : n ≤ 5000000000000) (hv : ∀ x ∈ r.own, x.2.length ≤ 140737488351232) :
    Calls Try.prog 35 #[rcV r (.slice A1 n c1)] w fun e w' => e = .returned (.int .i64 (recE r)) ∧ Below w.heap.size w w' := by
  obtain ⟨E, hE⟩ : ∃ E, E = recE r := ⟨_, rfl⟩
  rw [← hE]
  obtain ⟨rk, rn, rf, rg, ro, ri, rc, rd, ⟨ra, rb, rx, ry⟩⟩ := r
  simp only [] at hn hr1 hv
  show Calls _ _ #[.agg #[.int .i64 rk, .string ⟨rn.toArray⟩, .int .i64 rf, .int .i64 rg, .slice A1 n c1, .int .i64 ri, .int .i64 rc, .string ⟨rd.toArray⟩, .int .u64 ra, .int .u64 rb, .int .u64 rx, .int .u64 ry]] _ _
  have hm := fun hk W (hb : Below w.heap.size w W) => may_any rk hk rn rf rg ro ri rc rd ra rb rx ry n hn A1 c1 W B1 (Nat.le_trans hB1 hb.size) (hr1.below (hb.mono hB1)) hn5 hv
  have hb0 : Below w.heap.size w (w.alloc (.cells #[.int .i64 rk, .string ⟨rn.toArray⟩, .int .i64 rf, .int .i64 rg, .slice A1 n c1, .int .i64 ri, .int .i64 rc, .string ⟨rd.toArray⟩, .int .u64 ra, .int .u64 rb, .int .u64 rx, .int .u64 ry] 47)) := (Below.refl _ w).alloc (Nat.le_refl _) _
  have HM := Lib.hid hm
  have HE := Lib.hid hE
  clear hm hn hr1 hv hE
  by_cases h1 : rk < 1
  · have HF : Hid (E = 23) := by show _ = _; rw [HE.out]; unfold recE; rw [if_pos (.inl h1)]
    clear HE
    go_enter Try.func35, Try.ntmps35
    go_wp2_with fail
    go_ret
    exact ⟨by rw [HF.out]; rfl, hb0⟩
  · by_cases h2 : 4 < rk
    · have HF : Hid (E = 23) := by show _ = _; rw [HE.out]; unfold recE; rw [if_pos (.inr h2)]
      clear HE
      go_enter Try.func35, Try.ntmps35
      go_wp2_with fail
      go_ret
      exact ⟨by rw [HF.out]; rfl, hb0⟩
    · have hk : rk = 1 ∨ rk = 2 ∨ rk = 3 ∨ rk = 4 := by omega
      have HC := HM.out hk _ hb0
      obtain ⟨m, hmm⟩ : ∃ m, m = mayB ⟨rk, rn, rf, rg, ro, ri, rc, rd, ⟨ra, rb, rx, ry⟩⟩ := ⟨_, rfl⟩
      rw [← hmm] at HC
      have HF : Hid (E = if m = true then 0 else 9) := by show _ = _; rw [HE.out]; unfold recE; rw [if_neg (fun h => by rcases h with h | h <;> simp only at h <;> omega), hmm]
      have hsz : w.heap.size ≤ (w.alloc (.cells #[.int .i64 rk, .string ⟨rn.toArray⟩, .int .i64 rf, .int .i64 rg, .slice A1 n c1, .int .i64 ri, .int .i64 rc, .string ⟨rd.toArray⟩, .int .u64 ra, .int .u64 rb, .int .u64 rx, .int .u64 ry] 47)).heap.size := hb0.size
      have HBB := Lib.hid (fun w2 (hb2 : Below (w.alloc (.cells #[.int .i64 rk, .string ⟨rn.toArray⟩, .int .i64 rf, .int .i64 rg, .slice A1 n c1, .int .i64 ri, .int .i64 rc, .string ⟨rd.toArray⟩, .int .u64 ra, .int .u64 rb, .int .u64 rx, .int .u64 ry] 47)).heap.size (w.alloc (.cells #[.int .i64 rk, .string ⟨rn.toArray⟩, .int .i64 rf, .int .i64 rg, .slice A1 n c1, .int .i64 ri, .int .i64 rc, .string ⟨rd.toArray⟩, .int .u64 ra, .int .u64 rb, .int .u64 rx, .int .u64 ry] 47)) w2) => hb0.trans (hb2.mono hsz))
      have HCC := Lib.hid HC
      clear HE HC hmm hb0 hsz hk
      cases m with
      | true =>
        go_enter Try.func35, Try.ntmps35
        go_wp2_with fail
        refine HCC.out.mono ?_
        rintro e w2 ⟨rfl, hb2⟩
        have hb := HBB.out w2 hb2
        clear hb2 HBB
        go_wp2_with fail
        go_ret
        exact ⟨by rw [HF.out]; rfl, hb⟩
      | false =>
        go_enter Try.func35, Try.ntmps35
        go_wp2_with fail
        refine HCC.out.mono ?_
        rintro e w2 ⟨rfl, hb2⟩
        have hb := HBB.out w2 hb2
        clear hb2 HBB
        go_wp2_with fail
        go_ret
        exact ⟨by rw [HF.out]; rfl, hb⟩
end Go.Proofs.Ytcbeadldieeceaa

/-
  record.Encode, by its contract. (mkrcenc.py)
-/
namespace Go.Proofs.Ytcbeadldieeceaa
open Go.RowKit

theorem own_small (r : Rc) (hk : r.kind = 1 ∨ r.kind = 2 ∨ r.kind = 3 ∨ r.kind = 4) (h : mayB r = true) : r.own.length ≤ 8 := by
  rcases hk with hk | hk | hk | hk
  · exact (propsB_small _ (mayB_1 r hk h).2.2.2.1).1
  · rw [(mayB_2 r hk h).2.2.2.2.2.1]; simp
  · rw [(mayB_3 r hk h).2.2.2.2.2.1]; simp
  · rw [(mayB_4 r hk h).2.2.2.1]; simp
def EncPost (w : World) (r : Rc) (e : Ending) (w' : World) : Prop := ∃ v, e = .returned (.tuple #[v, .int .i64 (recE r)]) ∧ (if recE r = 0 then w'.ownsRow w.heap.size 5 1 v (encL r).length (bts (encL r)) else v = .slice none 0 0) ∧ Below w.heap.size w w'
set_option maxRecDepth 100000 in
set_option maxHeartbeats 2000000 in
theorem renc_bad (r : Rc) (hE : recE r ≠ 0) (n : Nat) (hn : n = r.own.length) (A1 : Option Addr) (c1 : Nat) (w0 : World) (B1 : Nat) (hB1 : B1 ≤ w0.heap.size) (hr1 : Reads w0 B1 2 A1 n (pcells r.own)) (hn5 : n ≤ 5000000000000) (hv : ∀ x ∈ r.own, x.2.length ≤ 140737488351232) :
    Calls Try.prog 42 #[rcV r (.slice A1 n c1)] w0 (EncPost w0 r) := by
  have hc := fun W (hb : Below w0.heap.size w0 W) => rcheck_any r n hn A1 c1 W B1 (Nat.le_trans hB1 hb.size) (hr1.below (hb.mono hB1)) hn5 hv
  obtain ⟨E, hEE⟩ : ∃ E, E = recE r := ⟨_, rfl⟩
  unfold EncPost
  rw [← hEE] at hE hc ⊢
  clear hEE hn hr1 hv
  obtain ⟨rk, rn, rf, rg, ro, ri, rc, rd, ⟨ra, rb, rx, ry⟩⟩ := r
  have hb0 : Below w0.heap.size w0 (w0.alloc (.cells #[.int .i64 rk, .string ⟨rn.toArray⟩, .int .i64 rf, .int .i64 rg, .slice A1 n c1, .int .i64 ri, .int .i64 rc, .string ⟨rd.toArray⟩, .int .u64 ra, .int .u64 rb, .int .u64 rx, .int .u64 ry] 47)) := (Below.refl _ _).alloc (Nat.le_refl _) _
  have HC := Lib.hid (hc _ hb0)
  have HB := Lib.hid hb0
  have hd : (E != 0) = true := by simp [hE]
  have HE := Lib.hid hE
  clear hc hb0 hE
  show Calls _ _ #[.agg #[.int .i64 rk, .string ⟨rn.toArray⟩, .int .i64 rf, .int .i64 rg, .slice A1 n c1, .int .i64 ri, .int .i64 rc, .string ⟨rd.toArray⟩, .int .u64 ra, .int .u64 rb, .int .u64 rx, .int .u64 ry]] _ _
  go_enter Try.func42, Try.ntmps42
  go_wp2_with fail
  refine HC.out.mono ?_
  rintro e w1 ⟨rfl, hb1⟩
  have hb := HB.out.trans (hb1.mono HB.out.size)
  clear hb1
  go_wp2_with fail
  go_ret2
  exact ⟨_, rfl, by first | rfl | (rw [if_neg HE.out]; rfl), hb⟩

set_option maxRecDepth 100000 in
set_option maxHeartbeats 4000000 in
theorem renc_ok (r : Rc) (hE : recE r = 0) (n : Nat) (hn : n = r.own.length) (A1 : Option Addr) (c1 : Nat) (w0 : World) (B1 : Nat) (hB1 : B1 ≤ w0.heap.size) (hr1 : Reads w0 B1 2 A1 n (pcells r.own)) (hn5 : n ≤ 5000000000000) (hv : ∀ x ∈ r.own, x.2.length ≤ 140737488351232) :
    Calls Try.prog 42 #[rcV r (.slice A1 n c1)] w0 (EncPost w0 r) := by
  have hc := fun W (hb : Below w0.heap.size w0 W) => rcheck_any r n hn A1 c1 W B1 (Nat.le_trans hB1 hb.size) (hr1.below (hb.mono hB1)) hn5 hv
  obtain ⟨hkk, hmay⟩ := recE_kind r hE
  have h8 : r.own.length ≤ 8 := own_small r hkk hmay
  have ht := fun W (hb : Below w0.heap.size w0 W) => rtexts_any r hkk n hn A1 c1 W B1 (Nat.le_trans hB1 hb.size) (hr1.below (hb.mono hB1)) (by omega)
  have hsm := rtexts_small r hE
  have hw0 := fun m (hm : m = (rtexts r).length) A c W hr => fwrite_any (rtexts r) (fun s hs => Nat.le_trans (hsm.2 s hs) (by omega)) m hm A c W W.heap.size hr (Nat.le_refl _) (by omega)
  have hfl := fwrite_len r hE
  have henc : encL r = [[toByte r.kind], putL ((fwrite (rtexts r)).length : Int) 2, fwrite (rtexts r)].flatten := by simp [encL]
  obtain ⟨F, hF⟩ : ∃ F, F = fwrite (rtexts r) := ⟨_, rfl⟩
  obtain ⟨q, hq⟩ : ∃ q, q = F.length := ⟨_, rfl⟩
  obtain ⟨m, hm⟩ : ∃ m, m = (rtexts r).length := ⟨_, rfl⟩
  have hw := hw0 m hm
  clear hw0
  unfold TextsPost at ht
  simp only [← hF, ← hm, ← hq] at hw ht hfl henc
  rw [hE] at hc
  suffices hsu : Calls Try.prog 42 #[rcV r (.slice A1 n c1)] w0 (fun e w' => ∃ v, e = .returned (.tuple #[v, .int .i64 0]) ∧ w'.ownsRow w0.heap.size 5 1 v (encL r).length (bts (encL r)) ∧ Below w0.heap.size w0 w') from
    hsu.mono (fun e w' ⟨v, h1, h2, h3⟩ => ⟨v, by rw [hE]; exact h1, by rw [if_pos hE]; exact h2, h3⟩)
  obtain ⟨L, hL⟩ : ∃ L, L = encL r := ⟨_, rfl⟩
  obtain ⟨TX, hTX⟩ : ∃ TX, TX = scells (rtexts r) := ⟨_, rfl⟩
  rw [← hL] at henc ⊢
  simp only [← hTX] at ht hw
  have hwr : IntKind.u8.wrap r.kind = ((toByte r.kind).toNat : Int) := by rw [toByte_int]; rcases hkk with h | h | h | h <;> rw [h] <;> decide
  clear hF hm hL hTX hsm hkk hmay hn hr1 hv h8 hE
  obtain ⟨rk, rn, rf, rg, ro, ri, rc, rd, ⟨ra, rb, rx, ry⟩⟩ := r
  simp only at henc hwr
  have HENC := Lib.hid henc
  have hWr := Lib.hid hwr
  have HQ := Lib.hid hq
  have HFL := Lib.hid hfl
  clear henc hwr hq hfl
  have hk := Blk.new w0 47 #[.int .i64 rk, .string ⟨rn.toArray⟩, .int .i64 rf, .int .i64 rg, .slice A1 n c1, .int .i64 ri, .int .i64 rc, .string ⟨rd.toArray⟩, .int .u64 ra, .int .u64 rb, .int .u64 rx, .int .u64 ry]
  have hbel := (Below.refl w0.heap.size w0).alloc (Nat.le_refl _) (.cells #[.int .i64 rk, .string ⟨rn.toArray⟩, .int .i64 rf, .int .i64 rg, .slice A1 n c1, .int .i64 ri, .int .i64 rc, .string ⟨rd.toArray⟩, .int .u64 ra, .int .u64 rb, .int .u64 rx, .int .u64 ry] 47)
  have HC := Lib.hid (hc _ hbel)
  have HT2 := Lib.hid ht
  have HW := Lib.hid hw
  clear hc ht hw
  show Calls _ _ #[.agg #[.int .i64 rk, .string ⟨rn.toArray⟩, .int .i64 rf, .int .i64 rg, .slice A1 n c1, .int .i64 ri, .int .i64 rc, .string ⟨rd.toArray⟩, .int .u64 ra, .int .u64 rb, .int .u64 rx, .int .u64 ry]] _ _
  go_enter Try.func42, Try.ntmps42
  go_wp2_with fail
  refine HC.out.mono ?_
  rintro e w1 ⟨rfl, hb1⟩
  have hk := hk.below hb1 hk.lt
  have hbel := hbel.trans (hb1.mono hbel.size)
  clear hb1 HC
  obtain ⟨c0_, c1_, c2_, c3_, c4_, c5_, c6_, c7_, c8_, c9_, c10_, c11_⟩ := blk12 hk
  go_wp2_with fail
  refine (HT2.out w1 hbel).mono ?_
  clear HT2 c0_ c1_ c2_ c3_ c4_ c5_ c6_ c7_ c8_ c9_ c10_ c11_
  rintro e w2 ⟨v2, rfl, hown2, hb2⟩
  obtain ⟨A2, cc2, rfl, _, _, hr2⟩ := own_form hown2
  have hk := hk.below hb2 hk.lt
  have hbel := hbel.trans (hb2.mono hbel.size)
  clear hown2 hb2
  have HW2 := Lib.hid (HW.out A2 cc2 w2 hr2)
  clear hr2 HW
  go_wp2_with fail
  refine HW2.out.mono ?_
  clear HW2
  rintro e w3 ⟨v3, rfl, hown3, hb3⟩
  obtain ⟨Aw, cw, rfl, hw1, hw2, hr3⟩ := own_form hown3
  have hk := hk.below hb3 hk.lt
  have hbel := hbel.trans (hb3.mono hbel.size)
  have hB0 : w0.heap.size ≤ w3.heap.size := hbel.size
  have HPW := Lib.hid (fun W (hb : Below w3.heap.size w3 W) => (show PieceIn F.length F (.slice Aw q cw) W by rw [← HQ.out]; exact PieceIn.reads (hr3.below hb) hb.size hw1 hw2 HQ.out))
  have HT := Lib.hid (show 3 + q = ([[toByte rk], putL (q : Int) 2, F] : List (List UInt8)).flatten.length by simp [putL_length, ← HQ.out]; omega)
  have hqs : q ≤ 700 := HFL.out
  have hS := Lib.hid (fun (W' : World) (hB : Below w3.heap.size w3 W') => (blk12 (hk.below hB hk.lt) :
    W'.cell? ⟨w0.heap.size, 0, none⟩ = some (.int .i64 rk) ∧ W'.cell? ⟨w0.heap.size, 1, none⟩ = some (.string ⟨rn.toArray⟩) ∧ W'.cell? ⟨w0.heap.size, 2, none⟩ = some (.int .i64 rf) ∧ W'.cell? ⟨w0.heap.size, 3, none⟩ = some (.int .i64 rg) ∧ W'.cell? ⟨w0.heap.size, 4, none⟩ = some (.slice A1 n c1) ∧ W'.cell? ⟨w0.heap.size, 5, none⟩ = some (.int .i64 ri) ∧ W'.cell? ⟨w0.heap.size, 6, none⟩ = some (.int .i64 rc) ∧ W'.cell? ⟨w0.heap.size, 7, none⟩ = some (.string ⟨rd.toArray⟩) ∧ W'.cell? ⟨w0.heap.size, 8, none⟩ = some (.int .u64 ra) ∧ W'.cell? ⟨w0.heap.size, 9, none⟩ = some (.int .u64 rb) ∧ W'.cell? ⟨w0.heap.size, 10, none⟩ = some (.int .u64 rx) ∧ W'.cell? ⟨w0.heap.size, 11, none⟩ = some (.int .u64 ry)))
  clear hk hown3 hb3 hr3 hw1 hw2
  go_wp2_with fail
  refine wp_region_good (by kernel_rfl) (by kernel_rfl) [(fun v _ => v = .pointer (some ⟨w0.heap.size, 0, none⟩)),
    (fun v _ => v = .int .i64 rk),
    (fun v _ => v = .int .u8 (IntKind.u8.wrap rk)),
    (fun v W => PieceIn 1 [toByte rk] v W),
    (fun v _ => v = .slice Aw q cw),
    (fun v _ => v = .int .i64 (q : Int)),
    (fun v W => PieceIn 2 (putL (q : Int) 2) v W),
    (fun v _ => v = .slice Aw q cw),
    (fun v W => Pcs [[toByte rk], putL (q : Int) 2, F] 3 v W),
    (fun v W => W.ownsRow w0.heap.size 5 1 v (3 + q) (bts [[toByte rk], putL (q : Int) 2, F].flatten)),
    (fun v W => W.ownsRow w0.heap.size 5 1 v (3 + q) (bts [[toByte rk], putL (q : Int) 2, F].flatten)),
    (fun v _ => v = .int .i64 0)] ?_ ?_ ?_
  · repeat' (first | exact stays_nil | refine stays_cons ?_ ?_ | exact Stays.pure | exact Stays.own _ _ _ _ _ | exact PieceIn.stays _ _ | exact Pcs.stays _ _)
  · intro i o ho m W hb0 hdeps AA KK hA hK
    rcases i with _ | _ | _ | _ | _ | _ | _ | _ | _ | _ | _ | _ | i
    · injection ho with ho
      subst ho
      have ef1 : AA.tmps[1]?.getD undef = .pointer (some ⟨w0.heap.size, 0, none⟩) := by rw [hA]; exact tmps_free (by kernel_rfl)
      clear hA hdeps
      have hK0 : KK (AA.put (some 21) _) _ := hK (.pointer (some ⟨w0.heap.size, 0, none⟩)) _ (Below.refl _ _) (Eq.refl _)
      clear hK
      go_simp
      exact hK0
    · injection ho with ho
      subst ho
      obtain ⟨x0, hx0, hg0⟩ := hdeps ⟨0, .data⟩ (by simp) rfl
      have hg0 : x0 = .pointer (some ⟨w0.heap.size, 0, none⟩) := hg0
      subst hg0
      have e0 : AA.tmps[21]?.getD undef = .pointer (some ⟨w0.heap.size, 0, none⟩) := by rw [hA]; exact tmps_own (by kernel_rfl) hx0 (of_decide_eq_true (by kernel_rfl))
      clear hA hdeps hx0
      obtain ⟨c0, c1_, c2, c3, c4, c5, c6, c7, c8, c9, c10, c11⟩ := hS.out W hb0
      have hK0 : KK (AA.put (some 22) _) _ := hK (.int .i64 rk) _ (Below.refl _ _) (Eq.refl _)
      clear hK
      go_simp
      exact hK0
    · injection ho with ho
      subst ho
      obtain ⟨x1, hx1, hg1⟩ := hdeps ⟨1, .data⟩ (by simp) rfl
      have hg1 : x1 = .int .i64 rk := hg1
      subst hg1
      have e1 : AA.tmps[22]?.getD undef = .int .i64 rk := by rw [hA]; exact tmps_own (by kernel_rfl) hx1 (of_decide_eq_true (by kernel_rfl))
      clear hA hdeps hx1
      have hK0 : KK (AA.put (some 23) _) _ := hK (.int .u8 (IntKind.u8.wrap rk)) _ (Below.refl _ _) (Eq.refl _)
      clear hK
      go_simp
      exact hK0
    · injection ho with ho
      subst ho
      obtain ⟨x2, hx2, hg2⟩ := hdeps ⟨2, .data⟩ (by simp) rfl
      have hg2 : x2 = .int .u8 (IntKind.u8.wrap rk) := hg2
      subst hg2
      have e2 : AA.tmps[23]?.getD undef = .int .u8 (IntKind.u8.wrap rk) := by rw [hA]; exact tmps_own (by kernel_rfl) hx2 (of_decide_eq_true (by kernel_rfl))
      clear hA hdeps hx2
      have hK0 : KK (AA.put (some 24) _) _ := hK _ _ ((Below.refl _ _).alloc (Nat.le_refl _) (.cells #[.int .u8 (IntKind.u8.wrap rk)] 5)) (PieceIn.lit W [toByte rk] 1 rfl (by decide) #[.int .u8 (IntKind.u8.wrap rk)] 5 (by rw [hWr.out]; rfl))
      clear hK
      go_simp
      exact hK0
    · injection ho with ho
      subst ho
      have ef5 : AA.tmps[5]?.getD undef = .slice Aw q cw := by rw [hA]; exact tmps_free (by kernel_rfl)
      clear hA hdeps
      have hK0 : KK (AA.put (some 25) _) _ := hK (.slice Aw q cw) _ (Below.refl _ _) (Eq.refl _)
      clear hK
      go_simp
      exact hK0
    · injection ho with ho
      subst ho
      obtain ⟨x4, hx4, hg4⟩ := hdeps ⟨4, .data⟩ (by simp) rfl
      have hg4 : x4 = .slice Aw q cw := hg4
      subst hg4
      have e4 : AA.tmps[25]?.getD undef = .slice Aw q cw := by rw [hA]; exact tmps_own (by kernel_rfl) hx4 (of_decide_eq_true (by kernel_rfl))
      clear hA hdeps hx4
      have hK0 : KK (AA.put (some 26) _) _ := hK (.int .i64 (q : Int)) _ (Below.refl _ _) (Eq.refl _)
      clear hK
      go_simp
      exact hK0
    · injection ho with ho
      subst ho
      obtain ⟨x5, hx5, hg5⟩ := hdeps ⟨5, .data⟩ (by simp) rfl
      have hg5 : x5 = .int .i64 (q : Int) := hg5
      subst hg5
      have e5 : AA.tmps[26]?.getD undef = .int .i64 (q : Int) := by rw [hA]; exact tmps_own (by kernel_rfl) hx5 (of_decide_eq_true (by kernel_rfl))
      clear hA hdeps hx5
      have hKK := Lib.hid hK
      clear hK
      go_simp
      refine (put_any (q : Int) 2 2 (by decide) _).mono ?_
      rintro e w5 ⟨v, rfl, hown, hbn⟩
      exact hKK.out _ _ hbn (PieceIn.own hown (putL_length _ _).symm)
    · injection ho with ho
      subst ho
      have ef5 : AA.tmps[5]?.getD undef = .slice Aw q cw := by rw [hA]; exact tmps_free (by kernel_rfl)
      clear hA hdeps
      have hK0 : KK (AA.put (some 28) _) _ := hK (.slice Aw q cw) _ (Below.refl _ _) (Eq.refl _)
      clear hK
      go_simp
      exact hK0
    · injection ho with ho
      subst ho
      obtain ⟨x3, hx3, hg3⟩ := hdeps ⟨3, .data⟩ (by simp) rfl
      have hg3 : PieceIn 1 [toByte rk] x3 W := hg3
      have hk3 := hg3
      obtain ⟨-, A3, c3, rfl, -, -, -⟩ := hg3
      have e3 : AA.tmps[24]?.getD undef = .slice A3 1 c3 := by rw [hA]; exact tmps_own (by kernel_rfl) hx3 (of_decide_eq_true (by kernel_rfl))
      obtain ⟨x6, hx6, hg6⟩ := hdeps ⟨6, .data⟩ (by simp) rfl
      have hg6 : PieceIn 2 (putL (q : Int) 2) x6 W := hg6
      have hk6 := hg6
      obtain ⟨-, A6, c6, rfl, -, -, -⟩ := hg6
      have e6 : AA.tmps[27]?.getD undef = .slice A6 2 c6 := by rw [hA]; exact tmps_own (by kernel_rfl) hx6 (of_decide_eq_true (by kernel_rfl))
      obtain ⟨x7, hx7, hg7⟩ := hdeps ⟨7, .data⟩ (by simp) rfl
      have hg7 : x7 = .slice Aw q cw := hg7
      subst hg7
      have e7 : AA.tmps[28]?.getD undef = .slice Aw q cw := by rw [hA]; exact tmps_own (by kernel_rfl) hx7 (of_decide_eq_true (by kernel_rfl))
      clear hA hdeps hx3 hx6 hx7
      have hK0 : KK (AA.put (some 29) _) _ := hK _ _ ((Below.refl _ _).alloc (Nat.le_refl _) _) (Pcs.new (W := W) (ys := [.slice A3 1 c3, .slice A6 2 c6, .slice Aw q cw]) (ls := [[toByte rk], putL (q : Int) 2, F]) rfl ⟨hk3, (by rw [putL_length]; exact hk6), HPW.out W hb0, trivial⟩)
      clear hK
      go_simp
      exact hK0
    · injection ho with ho
      subst ho
      obtain ⟨x8, hx8, hg8⟩ := hdeps ⟨8, .data⟩ (by simp) rfl
      have hg8 : Pcs [[toByte rk], putL (q : Int) 2, F] 3 x8 W := hg8
      have hk8 := hg8
      obtain ⟨g, ys, rfl, hblk, hyl, hall⟩ := hg8
      have e8 : AA.tmps[29]?.getD undef = .slice (some ⟨g, 0, none⟩) 3 3 := by rw [hA]; exact tmps_own (by kernel_rfl) hx8 (of_decide_eq_true (by kernel_rfl))
      clear hA hdeps hx8
      have hKK := Lib.hid hK
      clear hK
      go_simp
      refine (join_pcs hblk hyl hall (HT.out : 3 + q = _) (by omega) (by omega)).mono ?_
      rintro e w5 ⟨v, rfl, hown, hbn⟩
      exact hKK.out _ _ hbn (own_mono hown (Nat.le_trans hB0 hb0.size))
    · injection ho with ho
      subst ho
      obtain ⟨x9, hx9, hg9⟩ := hdeps ⟨9, .data⟩ (by simp) rfl
      have hg9 : W.ownsRow w0.heap.size 5 1 x9 (3 + q) (bts [[toByte rk], putL (q : Int) 2, F].flatten) := hg9
      have e9 : AA.tmps[30]?.getD undef = x9 := by rw [hA]; exact tmps_own (by kernel_rfl) hx9 (of_decide_eq_true (by kernel_rfl))
      clear hA hdeps hx9
      have hK0 : KK (AA.put (some 2) _) _ := hK _ _ (Below.refl _ _) hg9
      clear hK
      go_simp
      exact hK0
    · injection ho with ho
      subst ho
      clear hA hdeps
      have hK0 : KK (AA.put (some 3) _) _ := hK (.int .i64 0) _ (Below.refl _ _) (Eq.refl _)
      clear hK
      go_simp
      exact hK0
    · simp at ho
  · intro m W hbx hall
    obtain ⟨x0, m0, g0⟩ := hall 0 (by simp)
    replace g0 : x0 = .pointer (some ⟨w0.heap.size, 0, none⟩) := g0
    subst g0
    obtain ⟨x1, m1, g1⟩ := hall 1 (by simp)
    replace g1 : x1 = .int .i64 rk := g1
    subst g1
    obtain ⟨x2, m2, g2⟩ := hall 2 (by simp)
    replace g2 : x2 = .int .u8 (IntKind.u8.wrap rk) := g2
    subst g2
    obtain ⟨x3, m3, g3⟩ := hall 3 (by simp)
    replace g3 : PieceIn 1 [toByte rk] x3 W := g3
    obtain ⟨x4, m4, g4⟩ := hall 4 (by simp)
    replace g4 : x4 = .slice Aw q cw := g4
    subst g4
    obtain ⟨x5, m5, g5⟩ := hall 5 (by simp)
    replace g5 : x5 = .int .i64 (q : Int) := g5
    subst g5
    obtain ⟨x6, m6, g6⟩ := hall 6 (by simp)
    replace g6 : PieceIn 2 (putL (q : Int) 2) x6 W := g6
    obtain ⟨x7, m7, g7⟩ := hall 7 (by simp)
    replace g7 : x7 = .slice Aw q cw := g7
    subst g7
    obtain ⟨x8, m8, g8⟩ := hall 8 (by simp)
    replace g8 : Pcs [[toByte rk], putL (q : Int) 2, F] 3 x8 W := g8
    obtain ⟨x9, m9, g9⟩ := hall 9 (by simp)
    replace g9 : W.ownsRow w0.heap.size 5 1 x9 (3 + q) (bts [[toByte rk], putL (q : Int) 2, F].flatten) := g9
    obtain ⟨x10, m10, g10⟩ := hall 10 (by simp)
    replace g10 : W.ownsRow w0.heap.size 5 1 x10 (3 + q) (bts [[toByte rk], putL (q : Int) 2, F].flatten) := g10
    obtain ⟨x11, m11, g11⟩ := hall 11 (by simp)
    replace g11 : x11 = .int .i64 0 := g11
    subst g11
    rw [frameM_all (by kernel_rfl) [.pointer (some ⟨w0.heap.size, 0, none⟩), .int .i64 rk, .int .u8 (IntKind.u8.wrap rk), x3, .slice Aw q cw, .int .i64 (q : Int), x6, .slice Aw q cw, x8, x9, x10, .int .i64 0] rfl (fun i hi => by
        rcases i with _ | _ | _ | _ | _ | _ | _ | _ | _ | _ | _ | _ | i
        · exact m0
        · exact m1
        · exact m2
        · exact m3
        · exact m4
        · exact m5
        · exact m6
        · exact m7
        · exact m8
        · exact m9
        · exact m10
        · exact m11
        · simp at hi; omega)]
    clear hall m0 m1 m2 m3 m4 m5 m6 m7 m8 m9 m10 m11
    simp only [putAll, Act.put, List.setIfInBounds_toArray, List.set_cons_succ, List.set_cons_zero]
    repeat go_step
    go_ret2
    exact ⟨_, rfl, by rw [HENC.out, ← HT.out]; exact g10, hbel.trans (hbx.mono hB0)⟩
theorem renc_any (r : Rc) (n : Nat) (hn : n = r.own.length) (A1 : Option Addr) (c1 : Nat) (w0 : World) (B1 : Nat) (hB1 : B1 ≤ w0.heap.size) (hr1 : Reads w0 B1 2 A1 n (pcells r.own)) (hn5 : n ≤ 5000000000000) (hv : ∀ x ∈ r.own, x.2.length ≤ 140737488351232) :
    Calls Try.prog 42 #[rcV r (.slice A1 n c1)] w0 (EncPost w0 r) := by
  by_cases hE : recE r = 0
  · exact renc_ok r hE n hn A1 c1 w0 B1 hB1 hr1 hn5 hv
  · exact renc_bad r hE n hn A1 c1 w0 B1 hB1 hr1 hn5 hv
end Go.Proofs.Ytcbeadldieeceaa

/-
  stream.need: it goes on, or it panics with a fault.
-/
namespace Go.Proofs.Ytcbeadldieeceaa
open Go.RowKit

def faultV (a e : Int) : Value := .iface 68 (.agg #[.int .i64 a, .int .i64 e])
theorem need_ok (a e : Int) (w : World) : Calls Try.prog 22 #[.bool true, .int .i64 a, .int .i64 e] w fun en w' => en = .returned (.tuple #[]) ∧ w' = w := by
  go_enter Try.func22, Try.ntmps22
  go_wp2_with fail
  go_end0
  exact ⟨rfl, rfl⟩
theorem need_bad (a e : Int) (w : World) : Calls Try.prog 22 #[.bool false, .int .i64 a, .int .i64 e] w fun en w' => en = .panicked [{ v := faultV a e, recovered := false }] ∧ w' = w := by
  go_enter Try.func22, Try.ntmps22
  go_wp2_with fail
  exact ⟨rfl, rfl, rfl⟩
end Go.Proofs.Ytcbeadldieeceaa
