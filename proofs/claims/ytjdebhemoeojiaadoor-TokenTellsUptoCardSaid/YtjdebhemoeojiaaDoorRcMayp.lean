/-
  record.may, record.Check: by their contracts. (mkrcmay.py)
-/
import Derived.Test.YtjdebhemoeojiaaDoorRcSamep
namespace Go.Proofs.YtjdebhemoeojiaaDoor
open Go.RowKit

theorem calls_gen {P : Program} {f : FuncId} {args : Array Value} {w : World} {Q : Ending → World → Prop} (h : ∀ W, W = w → Calls P f args W Q) : Calls P f args w Q := h w rfl
/-- two records in boxes of their own -/
theorem two_boxes (w : World) (C1 C2 : Array Value) (t : TypeId) : Blk ((w.alloc (.cells C1 t)).alloc (.cells C2 t)) w.heap.size t C1 ∧ Blk ((w.alloc (.cells C1 t)).alloc (.cells C2 t)) (w.heap.size + 1) t C2 ∧ Below w.heap.size w ((w.alloc (.cells C1 t)).alloc (.cells C2 t)) := by
  have hz : (w.alloc (.cells C1 t)).heap.size = w.heap.size + 1 := by simp
  have k2 := Blk.new (w.alloc (.cells C1 t)) t C2
  rw [hz] at k2
  exact ⟨(Blk.new w t C1).alloc _, k2, ((Below.refl _ w).alloc (Nat.le_refl _) _).alloc (by omega) _⟩

set_option maxRecDepth 100000 in
set_option maxHeartbeats 4000000 in
theorem may1_any (rn : BS) (rf rg : Int) (ro : PL) (ri rc : Int) (rd : BS) (ra rb rx ry : Int) (n : Nat) (hn : n = ro.length) (A1 : Option Addr) (c1 : Nat) (w : World) (B1 : Nat) (hB1 : B1 ≤ w.heap.size) (hr1 : Reads w B1 2 A1 n (pcells ro)) (hn5 : n ≤ 5000000000000) (hv : ∀ x ∈ ro, x.2.length ≤ 140737488351232) :
    Calls Tryd.prog 94 #[.agg #[.int .i64 1, .string ⟨rn.toArray⟩, .int .i64 rf, .int .i64 rg, .slice A1 n c1, .int .i64 ri, .int .i64 rc, .string ⟨rd.toArray⟩, .int .u64 ra, .int .u64 rb, .int .u64 rx, .int .u64 ry]] w fun e w' => e = .returned (.bool (mayB ⟨1, rn, rf, rg, ro, ri, rc, rd, ⟨ra, rb, rx, ry⟩⟩)) ∧ Below w.heap.size w w' := by
  obtain ⟨R, hR⟩ : ∃ R, R = mayB ⟨1, rn, rf, rg, ro, ri, rc, rd, ⟨ra, rb, rx, ry⟩⟩ := ⟨_, rfl⟩
  rw [← hR]
  have HR := Lib.hid hR
  have HN := Lib.hid hn
  have HRD := Lib.hid (fun W (hb : Below w.heap.size w W) => hr1.below (hb.mono hB1))
  have HV := Lib.hid hv
  clear hR hn hv hr1
  have hNM := fun W => name_any ⟨rn.toArray⟩ W
  simp only [] at hNM
  cases hnb : nameB rn with
  | false =>
    have HF : Hid (R = false) := by show _ = _; rw [HR.out]; simp [mayB, hnb]
    rw [hnb] at hNM
    clear hnb
    go_enter Tryd.func94, Tryd.ntmps94
    go_wp2_with fail
    go_region
    go_wp2_with fail

    refine calls_gen (fun W hW => ?_)
    have hk := two_boxes w #[.int .i64 1, .string ⟨rn.toArray⟩, .int .i64 rf, .int .i64 rg, .slice A1 n c1, .int .i64 ri, .int .i64 rc, .string ⟨rd.toArray⟩, .int .u64 ra, .int .u64 rb, .int .u64 rx, .int .u64 ry] #[.int .i64 1, .string ⟨rn.toArray⟩, .int .i64 rf, .int .i64 rg, .slice none 0 0, .int .i64 0, .int .i64 0, .string ⟨#[]⟩, .int .u64 0, .int .u64 0, .int .u64 0, .int .u64 0] 57
    have k1 : Blk W w.heap.size 57 #[.int .i64 1, .string ⟨rn.toArray⟩, .int .i64 rf, .int .i64 rg, .slice A1 n c1, .int .i64 ri, .int .i64 rc, .string ⟨rd.toArray⟩, .int .u64 ra, .int .u64 rb, .int .u64 rx, .int .u64 ry] := by rw [hW]; exact hk.1
    have k2 : Blk W (w.heap.size + 1) 57 #[.int .i64 1, .string ⟨rn.toArray⟩, .int .i64 rf, .int .i64 rg, .slice none 0 0, .int .i64 0, .int .i64 0, .string ⟨#[]⟩, .int .u64 0, .int .u64 0, .int .u64 0, .int .u64 0] := by rw [hW]; exact hk.2.1
    have hb : Below w.heap.size w W := by rw [hW]; exact hk.2.2.drew
    clear hk hW
    refine (hNM W).mono ?_
    rintro e w2 ⟨rfl, hb2⟩
    have k1 := k1.below hb2 k1.lt
    have k2 := k2.below hb2 k2.lt
    have hb := hb.trans (hb2.mono hb.size)
    obtain ⟨d0, d1, d2, d3, d4, d5, d6, d7, d8, d9, d10, d11⟩ := blk12 k1
    obtain ⟨e0, e1, e2, e3, e4, e5, e6, e7, e8, e9, e10, e11⟩ := blk12 k2
    have K1 := Lib.hid k1
    have K2 := Lib.hid k2
    clear k1 k2 hb2
    go_wp2_with fail
    go_ret
    exact ⟨by rw [HF.out]; rfl, hb⟩
  | true =>
    rw [hnb] at hNM
    have HNB := Lib.hid hnb
    clear hnb
    by_cases h : rf < 0
    · have HF : Hid (R = false) := by
        show _ = _
        rw [HR.out, ← Bool.not_eq_true]
        intro hm
        have := (mayB_1 _ rfl hm).2.1
        have := (mayB_1 _ rfl hm).2.2.1
        simp only at *
        omega
      go_enter Tryd.func94, Tryd.ntmps94
      go_wp2_with fail
      go_region
      go_wp2_with fail

      refine calls_gen (fun W hW => ?_)
      have hk := two_boxes w #[.int .i64 1, .string ⟨rn.toArray⟩, .int .i64 rf, .int .i64 rg, .slice A1 n c1, .int .i64 ri, .int .i64 rc, .string ⟨rd.toArray⟩, .int .u64 ra, .int .u64 rb, .int .u64 rx, .int .u64 ry] #[.int .i64 1, .string ⟨rn.toArray⟩, .int .i64 rf, .int .i64 rg, .slice none 0 0, .int .i64 0, .int .i64 0, .string ⟨#[]⟩, .int .u64 0, .int .u64 0, .int .u64 0, .int .u64 0] 57
      have k1 : Blk W w.heap.size 57 #[.int .i64 1, .string ⟨rn.toArray⟩, .int .i64 rf, .int .i64 rg, .slice A1 n c1, .int .i64 ri, .int .i64 rc, .string ⟨rd.toArray⟩, .int .u64 ra, .int .u64 rb, .int .u64 rx, .int .u64 ry] := by rw [hW]; exact hk.1
      have k2 : Blk W (w.heap.size + 1) 57 #[.int .i64 1, .string ⟨rn.toArray⟩, .int .i64 rf, .int .i64 rg, .slice none 0 0, .int .i64 0, .int .i64 0, .string ⟨#[]⟩, .int .u64 0, .int .u64 0, .int .u64 0, .int .u64 0] := by rw [hW]; exact hk.2.1
      have hb : Below w.heap.size w W := by rw [hW]; exact hk.2.2.drew
      clear hk hW
      refine (hNM W).mono ?_
      rintro e w2 ⟨rfl, hb2⟩
      have k1 := k1.below hb2 k1.lt
      have k2 := k2.below hb2 k2.lt
      have hb := hb.trans (hb2.mono hb.size)
      obtain ⟨d0, d1, d2, d3, d4, d5, d6, d7, d8, d9, d10, d11⟩ := blk12 k1
      obtain ⟨e0, e1, e2, e3, e4, e5, e6, e7, e8, e9, e10, e11⟩ := blk12 k2
      have K1 := Lib.hid k1
      have K2 := Lib.hid k2
      clear k1 k2 hb2
      go_wp2_with fail

      go_ret
      exact ⟨by rw [HF.out]; rfl, hb⟩
    · skip
      by_cases h : 1099511627776 < rf
      · have HF : Hid (R = false) := by
          show _ = _
          rw [HR.out, ← Bool.not_eq_true]
          intro hm
          have := (mayB_1 _ rfl hm).2.1
          have := (mayB_1 _ rfl hm).2.2.1
          simp only at *
          omega
        go_enter Tryd.func94, Tryd.ntmps94
        go_wp2_with fail
        go_region
        go_wp2_with fail

        refine calls_gen (fun W hW => ?_)
        have hk := two_boxes w #[.int .i64 1, .string ⟨rn.toArray⟩, .int .i64 rf, .int .i64 rg, .slice A1 n c1, .int .i64 ri, .int .i64 rc, .string ⟨rd.toArray⟩, .int .u64 ra, .int .u64 rb, .int .u64 rx, .int .u64 ry] #[.int .i64 1, .string ⟨rn.toArray⟩, .int .i64 rf, .int .i64 rg, .slice none 0 0, .int .i64 0, .int .i64 0, .string ⟨#[]⟩, .int .u64 0, .int .u64 0, .int .u64 0, .int .u64 0] 57
        have k1 : Blk W w.heap.size 57 #[.int .i64 1, .string ⟨rn.toArray⟩, .int .i64 rf, .int .i64 rg, .slice A1 n c1, .int .i64 ri, .int .i64 rc, .string ⟨rd.toArray⟩, .int .u64 ra, .int .u64 rb, .int .u64 rx, .int .u64 ry] := by rw [hW]; exact hk.1
        have k2 : Blk W (w.heap.size + 1) 57 #[.int .i64 1, .string ⟨rn.toArray⟩, .int .i64 rf, .int .i64 rg, .slice none 0 0, .int .i64 0, .int .i64 0, .string ⟨#[]⟩, .int .u64 0, .int .u64 0, .int .u64 0, .int .u64 0] := by rw [hW]; exact hk.2.1
        have hb : Below w.heap.size w W := by rw [hW]; exact hk.2.2.drew
        clear hk hW
        refine (hNM W).mono ?_
        rintro e w2 ⟨rfl, hb2⟩
        have k1 := k1.below hb2 k1.lt
        have k2 := k2.below hb2 k2.lt
        have hb := hb.trans (hb2.mono hb.size)
        obtain ⟨d0, d1, d2, d3, d4, d5, d6, d7, d8, d9, d10, d11⟩ := blk12 k1
        obtain ⟨e0, e1, e2, e3, e4, e5, e6, e7, e8, e9, e10, e11⟩ := blk12 k2
        have K1 := Lib.hid k1
        have K2 := Lib.hid k2
        clear k1 k2 hb2
        go_wp2_with fail

        go_ret
        exact ⟨by rw [HF.out]; rfl, hb⟩
      · skip
        by_cases h : rg < 1
        · have HF : Hid (R = false) := by
            show _ = _
            rw [HR.out, ← Bool.not_eq_true]
            intro hm
            have := (mayB_1 _ rfl hm).2.1
            have := (mayB_1 _ rfl hm).2.2.1
            simp only at *
            omega
          go_enter Tryd.func94, Tryd.ntmps94
          go_wp2_with fail
          go_region
          go_wp2_with fail

          refine calls_gen (fun W hW => ?_)
          have hk := two_boxes w #[.int .i64 1, .string ⟨rn.toArray⟩, .int .i64 rf, .int .i64 rg, .slice A1 n c1, .int .i64 ri, .int .i64 rc, .string ⟨rd.toArray⟩, .int .u64 ra, .int .u64 rb, .int .u64 rx, .int .u64 ry] #[.int .i64 1, .string ⟨rn.toArray⟩, .int .i64 rf, .int .i64 rg, .slice none 0 0, .int .i64 0, .int .i64 0, .string ⟨#[]⟩, .int .u64 0, .int .u64 0, .int .u64 0, .int .u64 0] 57
          have k1 : Blk W w.heap.size 57 #[.int .i64 1, .string ⟨rn.toArray⟩, .int .i64 rf, .int .i64 rg, .slice A1 n c1, .int .i64 ri, .int .i64 rc, .string ⟨rd.toArray⟩, .int .u64 ra, .int .u64 rb, .int .u64 rx, .int .u64 ry] := by rw [hW]; exact hk.1
          have k2 : Blk W (w.heap.size + 1) 57 #[.int .i64 1, .string ⟨rn.toArray⟩, .int .i64 rf, .int .i64 rg, .slice none 0 0, .int .i64 0, .int .i64 0, .string ⟨#[]⟩, .int .u64 0, .int .u64 0, .int .u64 0, .int .u64 0] := by rw [hW]; exact hk.2.1
          have hb : Below w.heap.size w W := by rw [hW]; exact hk.2.2.drew
          clear hk hW
          refine (hNM W).mono ?_
          rintro e w2 ⟨rfl, hb2⟩
          have k1 := k1.below hb2 k1.lt
          have k2 := k2.below hb2 k2.lt
          have hb := hb.trans (hb2.mono hb.size)
          obtain ⟨d0, d1, d2, d3, d4, d5, d6, d7, d8, d9, d10, d11⟩ := blk12 k1
          obtain ⟨e0, e1, e2, e3, e4, e5, e6, e7, e8, e9, e10, e11⟩ := blk12 k2
          have K1 := Lib.hid k1
          have K2 := Lib.hid k2
          clear k1 k2 hb2
          go_wp2_with fail

          go_ret
          exact ⟨by rw [HF.out]; rfl, hb⟩
        · skip
          by_cases h : 1099511627776 < rg
          · have HF : Hid (R = false) := by
              show _ = _
              rw [HR.out, ← Bool.not_eq_true]
              intro hm
              have := (mayB_1 _ rfl hm).2.1
              have := (mayB_1 _ rfl hm).2.2.1
              simp only at *
              omega
            go_enter Tryd.func94, Tryd.ntmps94
            go_wp2_with fail
            go_region
            go_wp2_with fail

            refine calls_gen (fun W hW => ?_)
            have hk := two_boxes w #[.int .i64 1, .string ⟨rn.toArray⟩, .int .i64 rf, .int .i64 rg, .slice A1 n c1, .int .i64 ri, .int .i64 rc, .string ⟨rd.toArray⟩, .int .u64 ra, .int .u64 rb, .int .u64 rx, .int .u64 ry] #[.int .i64 1, .string ⟨rn.toArray⟩, .int .i64 rf, .int .i64 rg, .slice none 0 0, .int .i64 0, .int .i64 0, .string ⟨#[]⟩, .int .u64 0, .int .u64 0, .int .u64 0, .int .u64 0] 57
            have k1 : Blk W w.heap.size 57 #[.int .i64 1, .string ⟨rn.toArray⟩, .int .i64 rf, .int .i64 rg, .slice A1 n c1, .int .i64 ri, .int .i64 rc, .string ⟨rd.toArray⟩, .int .u64 ra, .int .u64 rb, .int .u64 rx, .int .u64 ry] := by rw [hW]; exact hk.1
            have k2 : Blk W (w.heap.size + 1) 57 #[.int .i64 1, .string ⟨rn.toArray⟩, .int .i64 rf, .int .i64 rg, .slice none 0 0, .int .i64 0, .int .i64 0, .string ⟨#[]⟩, .int .u64 0, .int .u64 0, .int .u64 0, .int .u64 0] := by rw [hW]; exact hk.2.1
            have hb : Below w.heap.size w W := by rw [hW]; exact hk.2.2.drew
            clear hk hW
            refine (hNM W).mono ?_
            rintro e w2 ⟨rfl, hb2⟩
            have k1 := k1.below hb2 k1.lt
            have k2 := k2.below hb2 k2.lt
            have hb := hb.trans (hb2.mono hb.size)
            obtain ⟨d0, d1, d2, d3, d4, d5, d6, d7, d8, d9, d10, d11⟩ := blk12 k1
            obtain ⟨e0, e1, e2, e3, e4, e5, e6, e7, e8, e9, e10, e11⟩ := blk12 k2
            have K1 := Lib.hid k1
            have K2 := Lib.hid k2
            clear k1 k2 hb2
            go_wp2_with fail

            go_ret
            exact ⟨by rw [HF.out]; rfl, hb⟩
          · skip
            have hck := fun W hb => checkP_any ro n HN.out A1 c1 W B1 (HRD.out W hb) (Nat.le_trans hB1 hb.size) (by omega) HV.out
            cases hpb : propsB ro with
            | false =>
              have hpe : propsE ro = 9 := by unfold propsE; rw [if_neg (by rw [hpb]; simp)]
              have HF : Hid (R = false) := by show _ = _; rw [HR.out]; simp [mayB, hpb]
              simp only [hpe] at hck
              clear hpe hpb
              go_enter Tryd.func94, Tryd.ntmps94
              go_wp2_with fail
              go_region
              go_wp2_with fail

              refine calls_gen (fun W hW => ?_)
              have hk := two_boxes w #[.int .i64 1, .string ⟨rn.toArray⟩, .int .i64 rf, .int .i64 rg, .slice A1 n c1, .int .i64 ri, .int .i64 rc, .string ⟨rd.toArray⟩, .int .u64 ra, .int .u64 rb, .int .u64 rx, .int .u64 ry] #[.int .i64 1, .string ⟨rn.toArray⟩, .int .i64 rf, .int .i64 rg, .slice none 0 0, .int .i64 0, .int .i64 0, .string ⟨#[]⟩, .int .u64 0, .int .u64 0, .int .u64 0, .int .u64 0] 57
              have k1 : Blk W w.heap.size 57 #[.int .i64 1, .string ⟨rn.toArray⟩, .int .i64 rf, .int .i64 rg, .slice A1 n c1, .int .i64 ri, .int .i64 rc, .string ⟨rd.toArray⟩, .int .u64 ra, .int .u64 rb, .int .u64 rx, .int .u64 ry] := by rw [hW]; exact hk.1
              have k2 : Blk W (w.heap.size + 1) 57 #[.int .i64 1, .string ⟨rn.toArray⟩, .int .i64 rf, .int .i64 rg, .slice none 0 0, .int .i64 0, .int .i64 0, .string ⟨#[]⟩, .int .u64 0, .int .u64 0, .int .u64 0, .int .u64 0] := by rw [hW]; exact hk.2.1
              have hb : Below w.heap.size w W := by rw [hW]; exact hk.2.2.drew
              clear hk hW
              refine (hNM W).mono ?_
              rintro e w2 ⟨rfl, hb2⟩
              have k1 := k1.below hb2 k1.lt
              have k2 := k2.below hb2 k2.lt
              have hb := hb.trans (hb2.mono hb.size)
              obtain ⟨d0, d1, d2, d3, d4, d5, d6, d7, d8, d9, d10, d11⟩ := blk12 k1
              obtain ⟨e0, e1, e2, e3, e4, e5, e6, e7, e8, e9, e10, e11⟩ := blk12 k2
              have K1 := Lib.hid k1
              have K2 := Lib.hid k2
              clear k1 k2 hb2
              go_wp2_with fail
              refine (hck w2 hb).mono ?_
              rintro e w3 ⟨rfl, hb3⟩
              have hb := hb.trans (hb3.mono hb.size)
              go_wp2_with fail

              go_ret
              exact ⟨by rw [HF.out]; rfl, hb⟩
            | true =>
              have hpe : propsE ro = 0 := by unfold propsE; rw [if_pos hpb]
              simp only [hpe] at hck
              have HF : Hid (R = sameR ⟨1, rn, rf, rg, [], ri, rc, rd, ⟨ra, rb, rx, ry⟩⟩ ⟨1, rn, rf, rg, [], 0, 0, [], Sm0⟩) := by
                show _ = _
                rw [HR.out, Bool.eq_iff_iff, sameR_iff]
                simp [mayB, HNB.out, hpb, amt, smZ, Sm0, and_assoc]
                exact ⟨fun h => h.2.2.2.2, fun h => ⟨by omega, by omega, by omega, by omega, h⟩⟩
              clear hpe hpb
              go_enter Tryd.func94, Tryd.ntmps94
              go_wp2_with fail
              go_region
              go_wp2_with fail

              refine calls_gen (fun W hW => ?_)
              have hk := two_boxes w #[.int .i64 1, .string ⟨rn.toArray⟩, .int .i64 rf, .int .i64 rg, .slice A1 n c1, .int .i64 ri, .int .i64 rc, .string ⟨rd.toArray⟩, .int .u64 ra, .int .u64 rb, .int .u64 rx, .int .u64 ry] #[.int .i64 1, .string ⟨rn.toArray⟩, .int .i64 rf, .int .i64 rg, .slice none 0 0, .int .i64 0, .int .i64 0, .string ⟨#[]⟩, .int .u64 0, .int .u64 0, .int .u64 0, .int .u64 0] 57
              have k1 : Blk W w.heap.size 57 #[.int .i64 1, .string ⟨rn.toArray⟩, .int .i64 rf, .int .i64 rg, .slice A1 n c1, .int .i64 ri, .int .i64 rc, .string ⟨rd.toArray⟩, .int .u64 ra, .int .u64 rb, .int .u64 rx, .int .u64 ry] := by rw [hW]; exact hk.1
              have k2 : Blk W (w.heap.size + 1) 57 #[.int .i64 1, .string ⟨rn.toArray⟩, .int .i64 rf, .int .i64 rg, .slice none 0 0, .int .i64 0, .int .i64 0, .string ⟨#[]⟩, .int .u64 0, .int .u64 0, .int .u64 0, .int .u64 0] := by rw [hW]; exact hk.2.1
              have hb : Below w.heap.size w W := by rw [hW]; exact hk.2.2.drew
              clear hk hW
              refine (hNM W).mono ?_
              rintro e w2 ⟨rfl, hb2⟩
              have k1 := k1.below hb2 k1.lt
              have k2 := k2.below hb2 k2.lt
              have hb := hb.trans (hb2.mono hb.size)
              obtain ⟨d0, d1, d2, d3, d4, d5, d6, d7, d8, d9, d10, d11⟩ := blk12 k1
              obtain ⟨e0, e1, e2, e3, e4, e5, e6, e7, e8, e9, e10, e11⟩ := blk12 k2
              have K1 := Lib.hid k1
              have K2 := Lib.hid k2
              clear k1 k2 hb2
              go_wp2_with fail
              refine (hck w2 hb).mono ?_
              rintro e w3 ⟨rfl, hb3⟩
              have k1 := K1.out.below hb3 K1.out.lt
              have k2 := K2.out.below hb3 K2.out.lt
              have hb := hb.trans (hb3.mono hb.size)
              clear d0 d1 d2 d3 d4 d5 d6 d7 d8 d9 d10 d11 e0 e1 e2 e3 e4 e5 e6 e7 e8 e9 e10 e11 K1 K2
              obtain ⟨d0, d1, d2, d3, d4, d5, d6, d7, d8, d9, d10, d11⟩ := blk12 k1
              obtain ⟨e0, e1, e2, e3, e4, e5, e6, e7, e8, e9, e10, e11⟩ := blk12 k2
              have fz := k1.frozen 4
              clear k1 k2 hb3
              go_wp2_with fail
              refine (rsame_any ⟨1, rn, rf, rg, [], ri, rc, rd, ⟨ra, rb, rx, ry⟩⟩ ⟨1, rn, rf, rg, [], 0, 0, [], Sm0⟩ 0 0 rfl rfl none none 0 0 _ _ _ (Nat.le_refl _) (Nat.le_refl _) Reads.none_ Reads.none_ (by omega) (by omega)).mono ?_
              rintro e w4 ⟨rfl, hb4⟩
              have hb := hb.setCell (p := ⟨w.heap.size, 4, none⟩) (Nat.le_refl _) (.slice none 0 0)
              have hb := hb.trans (hb4.mono hb.size)
              go_wp2_with fail
              go_ret
              exact ⟨by rw [HF.out]; rfl, hb⟩

set_option maxRecDepth 100000 in
set_option maxHeartbeats 4000000 in
theorem may2_any (rn : BS) (rf rg : Int) (ro : PL) (ri rc : Int) (rd : BS) (ra rb rx ry : Int) (n : Nat) (hn : n = ro.length) (A1 : Option Addr) (c1 : Nat) (w : World) (B1 : Nat) (hB1 : B1 ≤ w.heap.size) (hr1 : Reads w B1 2 A1 n (pcells ro)) (hn5 : n ≤ 5000000000000) (hv : ∀ x ∈ ro, x.2.length ≤ 140737488351232) :
    Calls Tryd.prog 94 #[.agg #[.int .i64 2, .string ⟨rn.toArray⟩, .int .i64 rf, .int .i64 rg, .slice A1 n c1, .int .i64 ri, .int .i64 rc, .string ⟨rd.toArray⟩, .int .u64 ra, .int .u64 rb, .int .u64 rx, .int .u64 ry]] w fun e w' => e = .returned (.bool (mayB ⟨2, rn, rf, rg, ro, ri, rc, rd, ⟨ra, rb, rx, ry⟩⟩)) ∧ Below w.heap.size w w' := by
  obtain ⟨R, hR⟩ : ∃ R, R = mayB ⟨2, rn, rf, rg, ro, ri, rc, rd, ⟨ra, rb, rx, ry⟩⟩ := ⟨_, rfl⟩
  rw [← hR]
  have HR := Lib.hid hR
  have HN := Lib.hid hn
  have HRD := Lib.hid (fun W (hb : Below w.heap.size w W) => hr1.below (hb.mono hB1))
  have HV := Lib.hid hv
  clear hR hn hv hr1
  by_cases h : ri < 0
  · have HF : Hid (R = false) := by
      show _ = _
      rw [HR.out, ← Bool.not_eq_true]
      intro hm
      have := (mayB_2 _ rfl hm).1
      have := (mayB_2 _ rfl hm).2.1
      simp only at *
      omega
    go_enter Tryd.func94, Tryd.ntmps94
    go_wp2_with fail
    go_region
    go_wp2_with fail

    go_ret
    refine ⟨by rw [HF.out]; rfl, ?_⟩
    exact (((Below.refl _ w).alloc (Nat.le_refl _) _).alloc (by simp) _).drew
  · skip
    by_cases h : 1024 ≤ ri
    · have HF : Hid (R = false) := by
        show _ = _
        rw [HR.out, ← Bool.not_eq_true]
        intro hm
        have := (mayB_2 _ rfl hm).1
        have := (mayB_2 _ rfl hm).2.1
        simp only at *
        omega
      go_enter Tryd.func94, Tryd.ntmps94
      go_wp2_with fail
      go_region
      go_wp2_with fail

      go_ret
      refine ⟨by rw [HF.out]; rfl, ?_⟩
      exact (((Below.refl _ w).alloc (Nat.le_refl _) _).alloc (by simp) _).drew
    · skip
      by_cases h : ¬ rd.length = 16
      · have HF : Hid (R = false) := by
          show _ = _
          rw [HR.out, ← Bool.not_eq_true]
          intro hm
          have := (mayB_2 _ rfl hm).1
          have := (mayB_2 _ rfl hm).2.1
          simp only at *
          omega
        have g3a : ((rd.length : Int) == 16) = false := by simp; omega
        have g3b : ((rd.length : Int) != 16) = true := by simp; omega
        go_enter Tryd.func94, Tryd.ntmps94
        go_wp2_with fail
        go_region
        go_wp2_with fail

        go_ret
        refine ⟨by rw [HF.out]; rfl, ?_⟩
        exact (((Below.refl _ w).alloc (Nat.le_refl _) _).alloc (by simp) _).drew
      · skip
        have HF : Hid (R = sameR ⟨2, rn, rf, rg, ro, ri, rc, rd, ⟨ra, rb, rx, ry⟩⟩ ⟨2, [], 0, 0, [], ri, 0, rd, Sm0⟩) := by
          show _ = _
          rw [HR.out, Bool.eq_iff_iff, sameR_iff]
          simp [mayB, smZ, Sm0]
          simp only [and_assoc]
          exact ⟨fun h => h.2.2.2, fun h => ⟨by omega, by omega, by omega, h⟩⟩
        have g3a : ((rd.length : Int) == 16) = true := by simp; omega
        have g3b : ((rd.length : Int) != 16) = false := by simp; omega

        go_enter Tryd.func94, Tryd.ntmps94
        go_wp2_with fail
        go_region
        go_wp2_with fail

        refine calls_gen (fun W hW => ?_)
        have hk := two_boxes w #[.int .i64 2, .string ⟨rn.toArray⟩, .int .i64 rf, .int .i64 rg, .slice A1 n c1, .int .i64 ri, .int .i64 rc, .string ⟨rd.toArray⟩, .int .u64 ra, .int .u64 rb, .int .u64 rx, .int .u64 ry] #[.int .i64 2, .string ⟨#[]⟩, .int .i64 0, .int .i64 0, .slice none 0 0, .int .i64 ri, .int .i64 0, .string ⟨rd.toArray⟩, .int .u64 0, .int .u64 0, .int .u64 0, .int .u64 0] 57
        have hb : Below w.heap.size w W := by rw [hW]; exact hk.2.2.drew
        clear hk hW
        refine (rsame_any ⟨2, rn, rf, rg, ro, ri, rc, rd, ⟨ra, rb, rx, ry⟩⟩ ⟨2, [], 0, 0, [], ri, 0, rd, Sm0⟩ n 0 HN.out rfl A1 none c1 0 W B1 W.heap.size (Nat.le_trans hB1 hb.size) (Nat.le_refl _) (HRD.out W hb) Reads.none_ hn5 (by omega)).mono ?_
        rintro e w2 ⟨rfl, hb2⟩
        have hb := hb.trans (hb2.mono hb.size)
        go_wp2_with fail
        go_ret
        exact ⟨by rw [HF.out]; rfl, hb⟩

set_option maxRecDepth 100000 in
set_option maxHeartbeats 4000000 in
theorem may3_any (rn : BS) (rf rg : Int) (ro : PL) (ri rc : Int) (rd : BS) (ra rb rx ry : Int) (n : Nat) (hn : n = ro.length) (A1 : Option Addr) (c1 : Nat) (w : World) (B1 : Nat) (hB1 : B1 ≤ w.heap.size) (hr1 : Reads w B1 2 A1 n (pcells ro)) (hn5 : n ≤ 5000000000000) (hv : ∀ x ∈ ro, x.2.length ≤ 140737488351232) :
    Calls Tryd.prog 94 #[.agg #[.int .i64 3, .string ⟨rn.toArray⟩, .int .i64 rf, .int .i64 rg, .slice A1 n c1, .int .i64 ri, .int .i64 rc, .string ⟨rd.toArray⟩, .int .u64 ra, .int .u64 rb, .int .u64 rx, .int .u64 ry]] w fun e w' => e = .returned (.bool (mayB ⟨3, rn, rf, rg, ro, ri, rc, rd, ⟨ra, rb, rx, ry⟩⟩)) ∧ Below w.heap.size w w' := by
  obtain ⟨R, hR⟩ : ∃ R, R = mayB ⟨3, rn, rf, rg, ro, ri, rc, rd, ⟨ra, rb, rx, ry⟩⟩ := ⟨_, rfl⟩
  rw [← hR]
  have HR := Lib.hid hR
  have HN := Lib.hid hn
  have HRD := Lib.hid (fun W (hb : Below w.heap.size w W) => hr1.below (hb.mono hB1))
  have HV := Lib.hid hv
  clear hR hn hv hr1
  by_cases h : ri < 0
  · have HF : Hid (R = false) := by
      show _ = _
      rw [HR.out, ← Bool.not_eq_true]
      intro hm
      have := (mayB_3 _ rfl hm).1
      have := (mayB_3 _ rfl hm).2.1
      simp only at *
      omega
    go_enter Tryd.func94, Tryd.ntmps94
    go_wp2_with fail
    go_region
    go_wp2_with fail

    go_ret
    refine ⟨by rw [HF.out]; rfl, ?_⟩
    exact (((Below.refl _ w).alloc (Nat.le_refl _) _).alloc (by simp) _).drew
  · skip
    by_cases h : 1024 ≤ ri
    · have HF : Hid (R = false) := by
        show _ = _
        rw [HR.out, ← Bool.not_eq_true]
        intro hm
        have := (mayB_3 _ rfl hm).1
        have := (mayB_3 _ rfl hm).2.1
        simp only at *
        omega
      go_enter Tryd.func94, Tryd.ntmps94
      go_wp2_with fail
      go_region
      go_wp2_with fail

      go_ret
      refine ⟨by rw [HF.out]; rfl, ?_⟩
      exact (((Below.refl _ w).alloc (Nat.le_refl _) _).alloc (by simp) _).drew
    · skip
      by_cases h : rc < 1
      · have HF : Hid (R = false) := by
          show _ = _
          rw [HR.out, ← Bool.not_eq_true]
          intro hm
          have := (mayB_3 _ rfl hm).1
          have := (mayB_3 _ rfl hm).2.1
          simp only at *
          omega
        go_enter Tryd.func94, Tryd.ntmps94
        go_wp2_with fail
        go_region
        go_wp2_with fail

        go_ret
        refine ⟨by rw [HF.out]; rfl, ?_⟩
        exact (((Below.refl _ w).alloc (Nat.le_refl _) _).alloc (by simp) _).drew
      · skip
        by_cases h : 1024 - ri < rc
        · have HF : Hid (R = false) := by
            show _ = _
            rw [HR.out, ← Bool.not_eq_true]
            intro hm
            have := (mayB_3 _ rfl hm).1
            have := (mayB_3 _ rfl hm).2.1
            simp only at *
            omega
          go_enter Tryd.func94, Tryd.ntmps94
          go_wp2_with fail
          go_region
          go_wp2_with fail

          go_ret
          refine ⟨by rw [HF.out]; rfl, ?_⟩
          exact (((Below.refl _ w).alloc (Nat.le_refl _) _).alloc (by simp) _).drew
        · skip
          have HF : Hid (R = sameR ⟨3, rn, rf, rg, ro, ri, rc, rd, ⟨ra, rb, rx, ry⟩⟩ ⟨3, [], 0, 0, [], ri, rc, [], Sm0⟩) := by
            show _ = _
            rw [HR.out, Bool.eq_iff_iff, sameR_iff]
            simp [mayB, smZ, Sm0]
            simp only [and_assoc]
            exact ⟨fun h => h.2.2.2.2, fun h => ⟨by omega, by omega, by omega, by omega, h⟩⟩

          go_enter Tryd.func94, Tryd.ntmps94
          go_wp2_with fail
          go_region
          go_wp2_with fail

          refine calls_gen (fun W hW => ?_)
          have hk := two_boxes w #[.int .i64 3, .string ⟨rn.toArray⟩, .int .i64 rf, .int .i64 rg, .slice A1 n c1, .int .i64 ri, .int .i64 rc, .string ⟨rd.toArray⟩, .int .u64 ra, .int .u64 rb, .int .u64 rx, .int .u64 ry] #[.int .i64 3, .string ⟨#[]⟩, .int .i64 0, .int .i64 0, .slice none 0 0, .int .i64 ri, .int .i64 rc, .string ⟨#[]⟩, .int .u64 0, .int .u64 0, .int .u64 0, .int .u64 0] 57
          have hb : Below w.heap.size w W := by rw [hW]; exact hk.2.2.drew
          clear hk hW
          refine (rsame_any ⟨3, rn, rf, rg, ro, ri, rc, rd, ⟨ra, rb, rx, ry⟩⟩ ⟨3, [], 0, 0, [], ri, rc, [], Sm0⟩ n 0 HN.out rfl A1 none c1 0 W B1 W.heap.size (Nat.le_trans hB1 hb.size) (Nat.le_refl _) (HRD.out W hb) Reads.none_ hn5 (by omega)).mono ?_
          rintro e w2 ⟨rfl, hb2⟩
          have hb := hb.trans (hb2.mono hb.size)
          go_wp2_with fail
          go_ret
          exact ⟨by rw [HF.out]; rfl, hb⟩

set_option maxRecDepth 100000 in
set_option maxHeartbeats 4000000 in
theorem may4_any (rn : BS) (rf rg : Int) (ro : PL) (ri rc : Int) (rd : BS) (ra rb rx ry : Int) (n : Nat) (hn : n = ro.length) (A1 : Option Addr) (c1 : Nat) (w : World) (B1 : Nat) (hB1 : B1 ≤ w.heap.size) (hr1 : Reads w B1 2 A1 n (pcells ro)) (hn5 : n ≤ 5000000000000) (hv : ∀ x ∈ ro, x.2.length ≤ 140737488351232) :
    Calls Tryd.prog 94 #[.agg #[.int .i64 4, .string ⟨rn.toArray⟩, .int .i64 rf, .int .i64 rg, .slice A1 n c1, .int .i64 ri, .int .i64 rc, .string ⟨rd.toArray⟩, .int .u64 ra, .int .u64 rb, .int .u64 rx, .int .u64 ry]] w fun e w' => e = .returned (.bool (mayB ⟨4, rn, rf, rg, ro, ri, rc, rd, ⟨ra, rb, rx, ry⟩⟩)) ∧ Below w.heap.size w w' := by
  obtain ⟨R, hR⟩ : ∃ R, R = mayB ⟨4, rn, rf, rg, ro, ri, rc, rd, ⟨ra, rb, rx, ry⟩⟩ := ⟨_, rfl⟩
  rw [← hR]
  have HR := Lib.hid hR
  have HN := Lib.hid hn
  have HRD := Lib.hid (fun W (hb : Below w.heap.size w W) => hr1.below (hb.mono hB1))
  have HV := Lib.hid hv
  clear hR hn hv hr1
  have HF : Hid (R = sameR ⟨4, rn, rf, rg, ro, ri, rc, rd, ⟨ra, rb, rx, ry⟩⟩ ⟨4, [], 0, 0, [], 0, 0, [], ⟨ra, rb, rx, ry⟩⟩) := by
    show _ = _
    rw [HR.out, Bool.eq_iff_iff, sameR_iff]
    simp [mayB]
    simp only [and_assoc]

  go_enter Tryd.func94, Tryd.ntmps94
  go_wp2_with fail

  refine calls_gen (fun W hW => ?_)
  have hk := two_boxes w #[.int .i64 4, .string ⟨rn.toArray⟩, .int .i64 rf, .int .i64 rg, .slice A1 n c1, .int .i64 ri, .int .i64 rc, .string ⟨rd.toArray⟩, .int .u64 ra, .int .u64 rb, .int .u64 rx, .int .u64 ry] #[.int .i64 4, .string ⟨#[]⟩, .int .i64 0, .int .i64 0, .slice none 0 0, .int .i64 0, .int .i64 0, .string ⟨#[]⟩, .int .u64 ra, .int .u64 rb, .int .u64 rx, .int .u64 ry] 57
  have hb : Below w.heap.size w W := by rw [hW]; exact hk.2.2
  clear hk hW
  refine (rsame_any ⟨4, rn, rf, rg, ro, ri, rc, rd, ⟨ra, rb, rx, ry⟩⟩ ⟨4, [], 0, 0, [], 0, 0, [], ⟨ra, rb, rx, ry⟩⟩ n 0 HN.out rfl A1 none c1 0 W B1 W.heap.size (Nat.le_trans hB1 hb.size) (Nat.le_refl _) (HRD.out W hb) Reads.none_ hn5 (by omega)).mono ?_
  rintro e w2 ⟨rfl, hb2⟩
  have hb := hb.trans (hb2.mono hb.size)
  go_wp2_with fail
  go_ret
  exact ⟨by rw [HF.out]; rfl, hb⟩

theorem may_any (rk : Int) (hk : rk = 1 ∨ rk = 2 ∨ rk = 3 ∨ rk = 4) (rn : BS) (rf rg : Int) (ro : PL) (ri rc : Int) (rd : BS) (ra rb rx ry : Int) (n : Nat) (hn : n = ro.length) (A1 : Option Addr) (c1 : Nat) (w : World) (B1 : Nat) (hB1 : B1 ≤ w.heap.size) (hr1 : Reads w B1 2 A1 n (pcells ro)) (hn5 : n ≤ 5000000000000) (hv : ∀ x ∈ ro, x.2.length ≤ 140737488351232) :
    Calls Tryd.prog 94 #[.agg #[.int .i64 rk, .string ⟨rn.toArray⟩, .int .i64 rf, .int .i64 rg, .slice A1 n c1, .int .i64 ri, .int .i64 rc, .string ⟨rd.toArray⟩, .int .u64 ra, .int .u64 rb, .int .u64 rx, .int .u64 ry]] w fun e w' => e = .returned (.bool (mayB ⟨rk, rn, rf, rg, ro, ri, rc, rd, ⟨ra, rb, rx, ry⟩⟩)) ∧ Below w.heap.size w w' := by
  rcases hk with rfl | rfl | rfl | rfl
  · exact may1_any rn rf rg ro ri rc rd ra rb rx ry n hn A1 c1 w B1 hB1 hr1 hn5 hv
  · exact may2_any rn rf rg ro ri rc rd ra rb rx ry n hn A1 c1 w B1 hB1 hr1 hn5 hv
  · exact may3_any rn rf rg ro ri rc rd ra rb rx ry n hn A1 c1 w B1 hB1 hr1 hn5 hv
  · exact may4_any rn rf rg ro ri rc rd ra rb rx ry n hn A1 c1 w B1 hB1 hr1 hn5 hv
set_option maxRecDepth 100000 in
set_option maxHeartbeats 4000000 in
theorem rcheck_any (r : Rc) (n : Nat) (hn : n = r.own.length) (A1 : Option Addr) (c1 : Nat) (w : World) (B1 : Nat) (hB1 : B1 ≤ w.heap.size) (hr1 : Reads w B1 2 A1 n (pcells r.own)) (hn5 : n ≤ 5000000000000) (hv : ∀ x ∈ r.own, x.2.length ≤ 140737488351232) :
    Calls Tryd.prog 76 #[rcV r (.slice A1 n c1)] w fun e w' => e = .returned (.int .i64 (recE r)) ∧ Below w.heap.size w w' := by
  obtain ⟨E, hE⟩ : ∃ E, E = recE r := ⟨_, rfl⟩
  rw [← hE]
  obtain ⟨rk, rn, rf, rg, ro, ri, rc, rd, ⟨ra, rb, rx, ry⟩⟩ := r
  simp only [] at hn hr1 hv
  show Calls _ _ #[.agg #[.int .i64 rk, .string ⟨rn.toArray⟩, .int .i64 rf, .int .i64 rg, .slice A1 n c1, .int .i64 ri, .int .i64 rc, .string ⟨rd.toArray⟩, .int .u64 ra, .int .u64 rb, .int .u64 rx, .int .u64 ry]] _ _
  have hm := fun hk W (hb : Below w.heap.size w W) => may_any rk hk rn rf rg ro ri rc rd ra rb rx ry n hn A1 c1 W B1 (Nat.le_trans hB1 hb.size) (hr1.below (hb.mono hB1)) hn5 hv
  have hb0 : Below w.heap.size w (w.alloc (.cells #[.int .i64 rk, .string ⟨rn.toArray⟩, .int .i64 rf, .int .i64 rg, .slice A1 n c1, .int .i64 ri, .int .i64 rc, .string ⟨rd.toArray⟩, .int .u64 ra, .int .u64 rb, .int .u64 rx, .int .u64 ry] 57)) := (Below.refl _ w).alloc (Nat.le_refl _) _
  have HM := Lib.hid hm
  have HE := Lib.hid hE
  clear hm hn hr1 hv hE
  by_cases h1 : rk < 1
  · have HF : Hid (E = 23) := by show _ = _; rw [HE.out]; unfold recE; rw [if_pos (.inl h1)]
    clear HE
    go_enter Tryd.func76, Tryd.ntmps76
    go_wp2_with fail
    go_ret
    exact ⟨by rw [HF.out]; rfl, hb0⟩
  · by_cases h2 : 4 < rk
    · have HF : Hid (E = 23) := by show _ = _; rw [HE.out]; unfold recE; rw [if_pos (.inr h2)]
      clear HE
      go_enter Tryd.func76, Tryd.ntmps76
      go_wp2_with fail
      go_ret
      exact ⟨by rw [HF.out]; rfl, hb0⟩
    · have hk : rk = 1 ∨ rk = 2 ∨ rk = 3 ∨ rk = 4 := by omega
      have HC := HM.out hk _ hb0
      obtain ⟨m, hmm⟩ : ∃ m, m = mayB ⟨rk, rn, rf, rg, ro, ri, rc, rd, ⟨ra, rb, rx, ry⟩⟩ := ⟨_, rfl⟩
      rw [← hmm] at HC
      have HF : Hid (E = if m = true then 0 else 9) := by show _ = _; rw [HE.out]; unfold recE; rw [if_neg (fun h => by rcases h with h | h <;> simp only at h <;> omega), hmm]
      have hsz : w.heap.size ≤ (w.alloc (.cells #[.int .i64 rk, .string ⟨rn.toArray⟩, .int .i64 rf, .int .i64 rg, .slice A1 n c1, .int .i64 ri, .int .i64 rc, .string ⟨rd.toArray⟩, .int .u64 ra, .int .u64 rb, .int .u64 rx, .int .u64 ry] 57)).heap.size := hb0.size
      have HBB := Lib.hid (fun w2 (hb2 : Below (w.alloc (.cells #[.int .i64 rk, .string ⟨rn.toArray⟩, .int .i64 rf, .int .i64 rg, .slice A1 n c1, .int .i64 ri, .int .i64 rc, .string ⟨rd.toArray⟩, .int .u64 ra, .int .u64 rb, .int .u64 rx, .int .u64 ry] 57)).heap.size (w.alloc (.cells #[.int .i64 rk, .string ⟨rn.toArray⟩, .int .i64 rf, .int .i64 rg, .slice A1 n c1, .int .i64 ri, .int .i64 rc, .string ⟨rd.toArray⟩, .int .u64 ra, .int .u64 rb, .int .u64 rx, .int .u64 ry] 57)) w2) => hb0.trans (hb2.mono hsz))
      have HCC := Lib.hid HC
      clear HE HC hmm hb0 hsz hk
      cases m with
      | true =>
        go_enter Tryd.func76, Tryd.ntmps76
        go_wp2_with fail
        refine HCC.out.mono ?_
        rintro e w2 ⟨rfl, hb2⟩
        have hb := HBB.out w2 hb2
        clear hb2 HBB
        go_wp2_with fail
        go_ret
        exact ⟨by rw [HF.out]; rfl, hb⟩
      | false =>
        go_enter Tryd.func76, Tryd.ntmps76
        go_wp2_with fail
        refine HCC.out.mono ?_
        rintro e w2 ⟨rfl, hb2⟩
        have hb := HBB.out w2 hb2
        clear hb2 HBB
        go_wp2_with fail
        go_ret
        exact ⟨by rw [HF.out]; rfl, hb⟩
end Go.Proofs.YtjdebhemoeojiaaDoor
