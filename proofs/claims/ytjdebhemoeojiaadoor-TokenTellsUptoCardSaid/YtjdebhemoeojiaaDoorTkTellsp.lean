/-
  The law TokenTells: its walk.
-/
import Derived.Test.YtjdebhemoeojiaaDoorYBk
namespace Go.Proofs.YtjdebhemoeojiaaDoor
open Go.RowKit

set_option maxRecDepth 100000 in
set_option maxHeartbeats 8000000 in
theorem tokenTells_ok (into : BS) (kind : Int) (nm : BS) (frm : Int) (o1 : Option Addr) (o2 o3 : Nat) (ol : List (BS × BS)) (ix ct : Int) (dt : BS) (sa sb sc sd : Int) (b1 : Option Addr) (b2 b3 : Nat) (bl : List BlkT) (nx ua ub uc ud : Int) (done : Bool) (na ng : Nat) (hna : na ≤ 1099511627776) (hng : ng ≤ 1099511627776) (t : BS) (ht4 : t.length ≤ 4000000000) (hnm : nm.length ≤ 4000000000) (w0 : World) (B : Nat) (hro : Reads w0 B 2 o1 o2 (pcells ol)) (hol : o2 = ol.length) (hrb : Reads w0 B 2 b1 b2 (bcells bl)) (hbl : b2 = bl.length) (hB : B ≤ w0.heap.size)
    (hin : into.length ≤ 4000000000) (ho2 : o2 ≤ 1000000000000) (hb2 : b2 ≤ 1000000000000) (hp : ∀ p ∈ ol, p.1.length ≤ 4000000000 ∧ p.2.length ≤ 4000000000) (hmx : HasMax w0)
    (hok : (!(into == []) && pathB into && beginP kind nm frm (ng : Int) ol ix ct dt ⟨sa, sb, sc, sd⟩ && okL bl && amt (na : Int) 0 && amt nx 0) = true) :
    Calls Tryd.prog 6 #[.agg #[.string ⟨into.toArray⟩, .int .i64 kind, .string ⟨nm.toArray⟩, .int .i64 frm, .int .i64 (ng : Int), .slice o1 o2 o3, .int .i64 ix, .int .i64 ct, .string ⟨dt.toArray⟩, .int .u64 sa, .int .u64 sb, .int .u64 sc, .int .u64 sd, .slice b1 b2 b3, .int .i64 (na : Int), .int .i64 nx, .int .u64 ua, .int .u64 ub, .int .u64 uc, .int .u64 ud, .bool done], .string ⟨t.toArray⟩] w0 fun e w' => e = .returned (.bool true) ∧ Below w0.heap.size w0 w' := by
  have hb1 := (Below.refl w0.heap.size w0).alloc (Nat.le_refl _) (.cells #[.string ⟨into.toArray⟩, .int .i64 kind, .string ⟨nm.toArray⟩, .int .i64 frm, .int .i64 (ng : Int), .slice o1 o2 o3, .int .i64 ix, .int .i64 ct, .string ⟨dt.toArray⟩, .int .u64 sa, .int .u64 sb, .int .u64 sc, .int .u64 sd, .slice b1 b2 b3, .int .i64 (na : Int), .int .i64 nx, .int .u64 ua, .int .u64 ub, .int .u64 uc, .int .u64 ud, .bool done] 60)
  have kT := Blk.new w0 60 #[.string ⟨into.toArray⟩, .int .i64 kind, .string ⟨nm.toArray⟩, .int .i64 frm, .int .i64 (ng : Int), .slice o1 o2 o3, .int .i64 ix, .int .i64 ct, .string ⟨dt.toArray⟩, .int .u64 sa, .int .u64 sb, .int .u64 sc, .int .u64 sd, .slice b1 b2 b3, .int .i64 (na : Int), .int .i64 nx, .int .u64 ua, .int .u64 ub, .int .u64 uc, .int .u64 ud, .bool done]
  obtain ⟨W1, hW1⟩ : ∃ W, W = w0.alloc (.cells #[.string ⟨into.toArray⟩, .int .i64 kind, .string ⟨nm.toArray⟩, .int .i64 frm, .int .i64 (ng : Int), .slice o1 o2 o3, .int .i64 ix, .int .i64 ct, .string ⟨dt.toArray⟩, .int .u64 sa, .int .u64 sb, .int .u64 sc, .int .u64 sd, .slice b1 b2 b3, .int .i64 (na : Int), .int .i64 nx, .int .u64 ua, .int .u64 ub, .int .u64 uc, .int .u64 ud, .bool done] 60) := ⟨_, rfl⟩
  have hsz1 : W1.heap.size = w0.heap.size + 1 := by rw [hW1]; simp
  rw [← hW1] at hb1 kT
  have HLG : Hid (∀ W, Below W1.heap.size W1 W → ∀ (j : Nat) (v : Value), ([.string ⟨into.toArray⟩, .int .i64 kind, .string ⟨nm.toArray⟩, .int .i64 frm, .int .i64 (ng : Int), .slice o1 o2 o3, .int .i64 ix, .int .i64 ct, .string ⟨dt.toArray⟩, .int .u64 sa, .int .u64 sb, .int .u64 sc, .int .u64 sd, .slice b1 b2 b3, .int .i64 (na : Int), .int .i64 nx, .int .u64 ua, .int .u64 ub, .int .u64 uc, .int .u64 ud, .bool done] : List Value)[j]? = some v → W.cell? ((⟨w0.heap.size, 0, none⟩ : Addr).add j) = some v) := by
    show ∀ W, _ → ∀ j v, _ → _
    intro W hb j v hj
    rw [addr_add0, (kT.below hb (by omega)).cell j, List.getElem?_toArray]
    exact hj
  have HT : Hid (∀ W, Below W1.heap.size W1 W → W.cell? ⟨w0.heap.size, 0, none⟩ = some (.string ⟨into.toArray⟩) ∧ W.cell? ⟨w0.heap.size, 4, none⟩ = some (.int .i64 (ng : Int)) ∧ W.cell? ⟨w0.heap.size, 14, none⟩ = some (.int .i64 (na : Int))) := by
    show ∀ W, _ → _
    intro W hb
    have k := kT.below hb (by omega)
    exact ⟨k.cell 0, k.cell 4, k.cell 14⟩
  have HB1 := Lib.hid hb1
  have HSZ1 := Lib.hid hsz1
  have HUP : Hid (∀ W, Below W1.heap.size W1 W → Below w0.heap.size w0 W) := fun W h => hb1.trans (h.mono (by omega))
  have HPR := Lib.hid (fun W (hb : Below W1.heap.size W1 W) => tprint_ok into kind nm frm o1 o2 o3 ol ix ct dt sa sb sc sd b1 b2 b3 bl nx ua ub uc ud done na ng hna hng W B (hro.below ((HUP.out _ hb).mono hB)) hol (hrb.below ((HUP.out _ hb).mono hB)) hbl (by have := (HUP.out _ hb).size; omega) hin ho2 hb2 hp (hmx.below (HUP.out _ hb)) hok)
  have HFI := Lib.hid (fun W (hb : Below W1.heap.size W1 W) => fits_ok into kind nm frm o1 o2 o3 ol ix ct dt sa sb sc sd b1 b2 b3 bl nx ua ub uc ud done na ng hna hng t W B (hro.below ((HUP.out _ hb).mono hB)) hol (hrb.below ((HUP.out _ hb).mono hB)) hbl (by have := (HUP.out _ hb).size; omega) hin ho2 hb2 hp (hmx.below (HUP.out _ hb)) hok)
  have HST : Hid (∀ W, Below W1.heap.size W1 W → Calls Tryd.prog 23 #[.agg #[.string ⟨into.toArray⟩, .int .i64 kind, .string ⟨nm.toArray⟩, .int .i64 frm, .int .i64 (ng : Int), .slice o1 o2 o3, .int .i64 ix, .int .i64 ct, .string ⟨dt.toArray⟩, .int .u64 sa, .int .u64 sb, .int .u64 sc, .int .u64 sd, .slice b1 b2 b3, .int .i64 (na : Int), .int .i64 nx, .int .u64 ua, .int .u64 ub, .int .u64 uc, .int .u64 ud, .bool done]] W fun e w' => e = .returned (.bool true) ∧ Below W.heap.size W w') := by
    show ∀ W, _ → _
    intro W hb
    rw [← hok]
    exact refStage_any into kind nm frm (ng : Int) o1 o2 o3 ol ix ct dt sa sb sc sd b1 b2 b3 bl (na : Int) nx ua ub uc ud done W B (hro.below ((HUP.out W hb).mono hB)) hol (hrb.below ((HUP.out W hb).mono hB)) hbl (by have := (HUP.out W hb).size; omega) hin hnm ho2 hb2 hp
  have HMX := Lib.hid (fun W (hb : Below W1.heap.size W1 W) => hmx.below (HUP.out W hb))
  have HAL := Lib.hid (fun W (hb : Below W1.heap.size W1 W) => alive23_any W (HMX.out W hb))
  have HTO := Lib.hid (fun W => rtoken_any into kind nm frm o1 o2 o3 ol ix ct dt sa sb sc sd b1 b2 b3 bl nx ua ub uc ud done na ng hna hng W hin)
  obtain ⟨tk, htk⟩ : ∃ t, t = tokL into na ng := ⟨_, rfl⟩
  rw [← htk] at HPR HFI HTO
  clear htk
  obtain ⟨b, hbT⟩ : ∃ b, b = (tk == t) := ⟨_, rfl⟩
  have hbT2 : (t == tk) = b := by rw [hbT, Bool.eq_iff_iff, beq_iff_eq, beq_iff_eq]; exact eq_comm
  rw [← hbT] at HFI
  clear hbT
  obtain ⟨⟨vp, vn, vg, vf⟩, hV⟩ : ∃ V, V = untokV t := ⟨_, rfl⟩
  have HPA : Hid (∀ W, Below W1.heap.size W1 W → Calls Tryd.prog 21 #[.string ⟨t.toArray⟩] W fun e w' => e = .returned (.tuple #[.string ⟨vp.toArray⟩, .int .i64 vn, .int .i64 vg, .int .i64 vf]) ∧ Below W.heap.size W w') := by
    show ∀ W, _ → _
    intro W hb
    refine (tparse_any ⟨t.toArray⟩ W (by show t.length ≤ _; exact ht4) (HMX.out W hb)).mono ?_
    rintro e w' ⟨rfl, hb'⟩
    refine ⟨?_, hb'⟩
    show Ending.returned (untokR (untokV t)) = _
    rw [← hV]
    rfl
  have HUN : Hid (∀ W, Calls Tryd.prog 22 #[.string ⟨t.toArray⟩] W fun e w' => e = .returned (.tuple #[.string ⟨vp.toArray⟩, .int .i64 vn, .int .i64 vg, .int .i64 vf]) ∧ Below W.heap.size W w') := by
    show ∀ W, _
    intro W
    refine (untoken_any ⟨t.toArray⟩ W (by show t.length ≤ _; exact ht4)).mono ?_
    rintro e w' ⟨rfl, hb'⟩
    refine ⟨?_, hb'⟩
    show Ending.returned (untokR (untokV t)) = _
    rw [← hV]
    rfl
  have HLD : Hid (∀ (j : Nat) (v : Value), ([.string ⟨into.toArray⟩, .int .i64 kind, .string ⟨nm.toArray⟩, .int .i64 frm, .int .i64 (ng : Int), .slice o1 o2 o3, .int .i64 ix, .int .i64 ct, .string ⟨dt.toArray⟩, .int .u64 sa, .int .u64 sb, .int .u64 sc, .int .u64 sd, .slice b1 b2 b3, .int .i64 (na : Int), .int .i64 nx, .int .u64 ua, .int .u64 ub, .int .u64 uc, .int .u64 ud, .bool done] : List Value)[j]? = some v → (w0.alloc (.cells #[.string ⟨into.toArray⟩, .int .i64 kind, .string ⟨nm.toArray⟩, .int .i64 frm, .int .i64 (ng : Int), .slice o1 o2 o3, .int .i64 ix, .int .i64 ct, .string ⟨dt.toArray⟩, .int .u64 sa, .int .u64 sb, .int .u64 sc, .int .u64 sd, .slice b1 b2 b3, .int .i64 (na : Int), .int .i64 nx, .int .u64 ua, .int .u64 ub, .int .u64 uc, .int .u64 ud, .bool done] 60)).cell? ((⟨w0.heap.size, 0, none⟩ : Addr).add j) = some v) := by
    show ∀ j v, _ → _
    rw [← hW1]
    exact HLG.out W1 (Below.refl _ _)
  have hpr := HPR.out W1 (Below.refl _ _)
  clear hsz1 kT hro hol hrb hbl hp hmx hok hb1 HMX hV HT
  go_enter Tryd.func6, Tryd.ntmps6
  go_wp2_with (refine wpList_load_at rfl 60 (.tmp 2) rfl ⟨w0.heap.size, 0, none⟩ rfl [.string ⟨into.toArray⟩, .int .i64 kind, .string ⟨nm.toArray⟩, .int .i64 frm, .int .i64 (ng : Int), .slice o1 o2 o3, .int .i64 ix, .int .i64 ct, .string ⟨dt.toArray⟩, .int .u64 sa, .int .u64 sb, .int .u64 sc, .int .u64 sd, .slice b1 b2 b3, .int .i64 (na : Int), .int .i64 nx, .int .u64 ua, .int .u64 ub, .int .u64 uc, .int .u64 ud, .bool done] _ HLD.out Tryd.underlying60 rfl (by kernel_rfl) ?_)
  rw [← hW1]
  clear hW1
  refine hpr.mono ?_
  clear hpr
  rintro e w2 ⟨rfl, hb2'⟩
  have HB2 := Lib.hid hb2'
  clear hb2'
  go_wp2_with fail
  refine (HPA.out w2 HB2.out).mono ?_
  rintro e w3 ⟨rfl, hb3⟩
  have HB3 := Lib.hid (HB2.out.trans (hb3.mono HB2.out.size))
  clear hb3
  go_wp2_with fail
  refine (HUN.out w3).mono ?_
  rintro e w4 ⟨rfl, hb4⟩
  have HB4 := Lib.hid (HB3.out.trans (hb4.mono HB3.out.size))
  clear hb4
  go_wp2_with (refine wpList_load_at rfl 60 (.tmp 2) rfl ⟨w0.heap.size, 0, none⟩ rfl [.string ⟨into.toArray⟩, .int .i64 kind, .string ⟨nm.toArray⟩, .int .i64 frm, .int .i64 (ng : Int), .slice o1 o2 o3, .int .i64 ix, .int .i64 ct, .string ⟨dt.toArray⟩, .int .u64 sa, .int .u64 sb, .int .u64 sc, .int .u64 sd, .slice b1 b2 b3, .int .i64 (na : Int), .int .i64 nx, .int .u64 ua, .int .u64 ub, .int .u64 uc, .int .u64 ud, .bool done] _ (HLG.out _ HB4.out) Tryd.underlying60 rfl (by kernel_rfl) ?_)
  refine (HST.out w4 HB4.out).mono ?_
  rintro e w5 ⟨rfl, hb5⟩
  have HB5 := Lib.hid (HB4.out.trans (hb5.mono HB4.out.size))
  clear hb5
  go_wp2_with (refine wpList_load_at rfl 60 (.tmp 2) rfl ⟨w0.heap.size, 0, none⟩ rfl [.string ⟨into.toArray⟩, .int .i64 kind, .string ⟨nm.toArray⟩, .int .i64 frm, .int .i64 (ng : Int), .slice o1 o2 o3, .int .i64 ix, .int .i64 ct, .string ⟨dt.toArray⟩, .int .u64 sa, .int .u64 sb, .int .u64 sc, .int .u64 sd, .slice b1 b2 b3, .int .i64 (na : Int), .int .i64 nx, .int .u64 ua, .int .u64 ub, .int .u64 uc, .int .u64 ud, .bool done] _ (HLG.out _ HB5.out) Tryd.underlying60 rfl (by kernel_rfl) ?_)
  refine (HTO.out w5).mono ?_
  rintro e w6 ⟨rfl, hb6⟩
  have HB6 := Lib.hid (HB5.out.trans (hb6.mono HB5.out.size))
  clear hb6
  go_wp2_with fail
  refine wp_region_good2 (by kernel_rfl) (by kernel_rfl) [(fun v _ => v = .string ⟨tk.toArray⟩),
    (fun v _ => v = .string ⟨tk.toArray⟩),
    (fun v _ => v = .bool true),
    (fun v _ => v = .bool true),
    (fun v _ => v = .int .i64 0),
    (fun v _ => v = .int .i64 0),
    (fun v _ => v = .bool true),
    (fun v _ => v = .agg #[.string ⟨into.toArray⟩, .int .i64 kind, .string ⟨nm.toArray⟩, .int .i64 frm, .int .i64 (ng : Int), .slice o1 o2 o3, .int .i64 ix, .int .i64 ct, .string ⟨dt.toArray⟩, .int .u64 sa, .int .u64 sb, .int .u64 sc, .int .u64 sd, .slice b1 b2 b3, .int .i64 (na : Int), .int .i64 nx, .int .u64 ua, .int .u64 ub, .int .u64 uc, .int .u64 ud, .bool done]),
    (fun v _ => v = .bool true),
    (fun v _ => v = .bool true),
    (fun v _ => v = .bool true),
    (fun v _ => v = .bool true),
    (fun v _ => v = .string ⟨vp.toArray⟩),
    (fun v _ => v = .string ⟨vp.toArray⟩),
    (fun v _ => v = .bool true),
    (fun v _ => v = .bool true),
    (fun v _ => v = .bool true),
    (fun v _ => v = .int .i64 vn),
    (fun v _ => v = .int .i64 vn),
    (fun v _ => v = .bool true),
    (fun v _ => v = .bool true),
    (fun v _ => v = .bool true),
    (fun v _ => v = .int .i64 vg),
    (fun v _ => v = .int .i64 vg),
    (fun v _ => v = .bool true),
    (fun v _ => v = .bool true),
    (fun v _ => v = .bool true),
    (fun v _ => v = .int .i64 vf),
    (fun v _ => v = .int .i64 vf),
    (fun v _ => v = .int .i64 vf),
    (fun v _ => v = .bool true),
    (fun v _ => v = .bool true),
    (fun v _ => v = .bool true),
    (fun v _ => v = .agg #[.string ⟨into.toArray⟩, .int .i64 kind, .string ⟨nm.toArray⟩, .int .i64 frm, .int .i64 (ng : Int), .slice o1 o2 o3, .int .i64 ix, .int .i64 ct, .string ⟨dt.toArray⟩, .int .u64 sa, .int .u64 sb, .int .u64 sc, .int .u64 sd, .slice b1 b2 b3, .int .i64 (na : Int), .int .i64 nx, .int .u64 ua, .int .u64 ub, .int .u64 uc, .int .u64 ud, .bool done]),
    (fun v _ => v = .string ⟨t.toArray⟩),
    (fun v _ => v = .bool b),
    (fun v _ => v = .agg #[.string ⟨into.toArray⟩, .int .i64 kind, .string ⟨nm.toArray⟩, .int .i64 frm, .int .i64 (ng : Int), .slice o1 o2 o3, .int .i64 ix, .int .i64 ct, .string ⟨dt.toArray⟩, .int .u64 sa, .int .u64 sb, .int .u64 sc, .int .u64 sd, .slice b1 b2 b3, .int .i64 (na : Int), .int .i64 nx, .int .u64 ua, .int .u64 ub, .int .u64 uc, .int .u64 ud, .bool done]),
    (fun v _ => v = .bool true),
    (fun v _ => v = .bool true),
    (fun v _ => v = .string ⟨t.toArray⟩),
    (fun v _ => v = .string ⟨tk.toArray⟩),
    (fun v _ => v = .bool b),
    (fun v _ => v = .bool b),
    (fun v _ => v = .bool true),
    (fun v _ => v = .bool true),
    (fun v _ => v = .bool true),
    (fun v _ => v = .bool true),
    (fun v _ => v = .bool true),
    (fun v _ => v = .bool true)] ?_ ?_ ?_
  · repeat' (first | exact stays_nil | refine stays_cons ?_ ?_ | exact Stays.pure)
  · intro i oo ho m2 W hb0 hmi hcl hdeps AA KK hA hK
    rcases i with _ | _ | _ | _ | _ | _ | _ | _ | _ | _ | _ | _ | _ | _ | _ | _ | _ | _ | _ | _ | _ | _ | _ | _ | _ | _ | _ | _ | _ | _ | _ | _ | _ | _ | _ | _ | _ | _ | _ | _ | _ | _ | _ | _ | _ | _ | _ | _ | _ | i
    · injection ho with ho
      subst ho
      have ef5 : AA.tmps[5]?.getD undef = .string ⟨tk.toArray⟩ := by rw [hA]; exact tmps_free (by kernel_rfl)
      clear hA hdeps hcl hmi
      have hK0 : KK (AA.put (some 39) _) _ := hK (.string ⟨tk.toArray⟩) _ (Below.refl _ _) (Eq.refl _)
      clear hK
      go_simp
      exact hK0
    · injection ho with ho
      subst ho
      have ef15 : AA.tmps[15]?.getD undef = .string ⟨tk.toArray⟩ := by rw [hA]; exact tmps_free (by kernel_rfl)
      clear hA hdeps hcl hmi
      have hK0 : KK (AA.put (some 40) _) _ := hK (.string ⟨tk.toArray⟩) _ (Below.refl _ _) (Eq.refl _)
      clear hK
      go_simp
      exact hK0
    · injection ho with ho
      subst ho
      obtain ⟨x0, hx0, hg0⟩ := hdeps ⟨0, .data⟩ (by simp) rfl
      have hg0 : x0 = .string ⟨tk.toArray⟩ := hg0
      subst hg0
      have e0 : AA.tmps[39]?.getD undef = .string ⟨tk.toArray⟩ := by rw [hA]; exact tmps_own (by kernel_rfl) hx0 (of_decide_eq_true (by kernel_rfl))
      obtain ⟨x1, hx1, hg1⟩ := hdeps ⟨1, .data⟩ (by simp) rfl
      have hg1 : x1 = .string ⟨tk.toArray⟩ := hg1
      subst hg1
      have e1 : AA.tmps[40]?.getD undef = .string ⟨tk.toArray⟩ := by rw [hA]; exact tmps_own (by kernel_rfl) hx1 (of_decide_eq_true (by kernel_rfl))
      clear hA hdeps hcl hmi hx0 hx1
      have hK0 : KK (AA.put (some 41) _) _ := hK (.bool true) _ (Below.refl _ _) (Eq.refl _)
      clear hK
      go_simp
      exact hK0
    · injection ho with ho
      subst ho
      obtain ⟨x2, hx2, hg2⟩ := hdeps ⟨2, .data⟩ (by simp) rfl
      have hg2 : x2 = .bool true := hg2
      subst hg2
      have e2 : AA.tmps[41]?.getD undef = .bool true := by rw [hA]; exact tmps_own (by kernel_rfl) hx2 (of_decide_eq_true (by kernel_rfl))
      clear hA hdeps hcl hmi hx2
      have hK0 : KK (AA.put (some 42) _) _ := hK (.bool true) _ (Below.refl _ _) (Eq.refl _)
      clear hK
      go_simp
      exact hK0
    · injection ho with ho
      subst ho
      obtain ⟨x3, hx3, hg3⟩ := hdeps ⟨3, .guard⟩ (by simp) rfl
      have hg3 : x3 = .bool true := hg3
      subst hg3
      have e3 : AA.tmps[42]?.getD undef = .bool true := by rw [hA]; exact tmps_own (by kernel_rfl) hx3 (of_decide_eq_true (by kernel_rfl))
      have ef6 : AA.tmps[6]?.getD undef = .int .i64 0 := by rw [hA]; exact tmps_free (by kernel_rfl)
      clear hA hdeps hcl hmi hx3
      rw [if_pos (wanted_of (k := 42) rfl rfl e3)]
      have hK0 : KK (AA.put (some 43) _) _ := hK (.int .i64 0) _ (Below.refl _ _) (Eq.refl _)
      clear hK
      go_simp
      exact hK0
    · injection ho with ho
      subst ho
      obtain ⟨x3, hx3, hg3⟩ := hdeps ⟨3, .guard⟩ (by simp) rfl
      have hg3 : x3 = .bool true := hg3
      subst hg3
      have e3 : AA.tmps[42]?.getD undef = .bool true := by rw [hA]; exact tmps_own (by kernel_rfl) hx3 (of_decide_eq_true (by kernel_rfl))
      obtain ⟨x4, hx4, hg4⟩ := hdeps ⟨4, .data⟩ (by simp) rfl
      have hg4 : x4 = .int .i64 0 := hg4
      subst hg4
      have e4 : AA.tmps[43]?.getD undef = .int .i64 0 := by rw [hA]; exact tmps_own (by kernel_rfl) hx4 (of_decide_eq_true (by kernel_rfl))
      clear hA hdeps hcl hmi hx3 hx4
      rw [if_pos (wanted_of (k := 42) rfl rfl e3)]
      have hKK := Lib.hid hK
      clear hK
      go_simp
      refine (num23_any _ _).mono ?_
      rintro e w5 ⟨rfl, hw5⟩
      rw [hw5]
      exact hKK.out _ _ (Below.refl _ _) (Eq.refl _)
    · injection ho with ho
      subst ho
      obtain ⟨x3, hx3, hg3⟩ := hdeps ⟨3, .guard⟩ (by simp) rfl
      have hg3 : x3 = .bool true := hg3
      subst hg3
      have e3 : AA.tmps[42]?.getD undef = .bool true := by rw [hA]; exact tmps_own (by kernel_rfl) hx3 (of_decide_eq_true (by kernel_rfl))
      obtain ⟨x5, hx5, hg5⟩ := hdeps ⟨5, .data⟩ (by simp) rfl
      have hg5 : x5 = .int .i64 0 := hg5
      subst hg5
      have e5 : AA.tmps[44]?.getD undef = .int .i64 0 := by rw [hA]; exact tmps_own (by kernel_rfl) hx5 (of_decide_eq_true (by kernel_rfl))
      clear hA hdeps hcl hmi hx3 hx5
      rw [if_pos (wanted_of (k := 42) rfl rfl e3)]
      have hK0 : KK (AA.put (some 45) _) _ := hK (.bool true) _ (Below.refl _ _) (Eq.refl _)
      clear hK
      go_simp
      exact hK0
    · injection ho with ho
      subst ho
      obtain ⟨x3, hx3, hg3⟩ := hdeps ⟨3, .guard⟩ (by simp) rfl
      have hg3 : x3 = .bool true := hg3
      subst hg3
      have e3 : AA.tmps[42]?.getD undef = .bool true := by rw [hA]; exact tmps_own (by kernel_rfl) hx3 (of_decide_eq_true (by kernel_rfl))
      have ef2 : AA.tmps[2]?.getD undef = .pointer (some ⟨w0.heap.size, 0, none⟩) := by rw [hA]; exact tmps_free (by kernel_rfl)
      clear hA hdeps hcl hmi hx3
      rw [if_pos (wanted_of (k := 42) rfl rfl e3)]
      have hK0 : KK (AA.put (some 46) _) _ := hK (.agg #[.string ⟨into.toArray⟩, .int .i64 kind, .string ⟨nm.toArray⟩, .int .i64 frm, .int .i64 (ng : Int), .slice o1 o2 o3, .int .i64 ix, .int .i64 ct, .string ⟨dt.toArray⟩, .int .u64 sa, .int .u64 sb, .int .u64 sc, .int .u64 sd, .slice b1 b2 b3, .int .i64 (na : Int), .int .i64 nx, .int .u64 ua, .int .u64 ub, .int .u64 uc, .int .u64 ud, .bool done]) _ (Below.refl _ _) (Eq.refl _)
      clear hK
      exact operwp_load_at 60 (.tmp 2) rfl ⟨w0.heap.size, 0, none⟩ (by unfold Act.eval; simpa using ef2) [.string ⟨into.toArray⟩, .int .i64 kind, .string ⟨nm.toArray⟩, .int .i64 frm, .int .i64 (ng : Int), .slice o1 o2 o3, .int .i64 ix, .int .i64 ct, .string ⟨dt.toArray⟩, .int .u64 sa, .int .u64 sb, .int .u64 sc, .int .u64 sd, .slice b1 b2 b3, .int .i64 (na : Int), .int .i64 nx, .int .u64 ua, .int .u64 ub, .int .u64 uc, .int .u64 ud, .bool done] _ (HLG.out W (HB6.out.trans (hb0.mono HB6.out.size))) Tryd.underlying60 rfl (by kernel_rfl) hK0
    · injection ho with ho
      subst ho
      obtain ⟨x3, hx3, hg3⟩ := hdeps ⟨3, .guard⟩ (by simp) rfl
      have hg3 : x3 = .bool true := hg3
      subst hg3
      have e3 : AA.tmps[42]?.getD undef = .bool true := by rw [hA]; exact tmps_own (by kernel_rfl) hx3 (of_decide_eq_true (by kernel_rfl))
      obtain ⟨x7, hx7, hg7⟩ := hdeps ⟨7, .data⟩ (by simp) rfl
      have hg7 : x7 = .agg #[.string ⟨into.toArray⟩, .int .i64 kind, .string ⟨nm.toArray⟩, .int .i64 frm, .int .i64 (ng : Int), .slice o1 o2 o3, .int .i64 ix, .int .i64 ct, .string ⟨dt.toArray⟩, .int .u64 sa, .int .u64 sb, .int .u64 sc, .int .u64 sd, .slice b1 b2 b3, .int .i64 (na : Int), .int .i64 nx, .int .u64 ua, .int .u64 ub, .int .u64 uc, .int .u64 ud, .bool done] := hg7
      subst hg7
      have e7 : AA.tmps[46]?.getD undef = .agg #[.string ⟨into.toArray⟩, .int .i64 kind, .string ⟨nm.toArray⟩, .int .i64 frm, .int .i64 (ng : Int), .slice o1 o2 o3, .int .i64 ix, .int .i64 ct, .string ⟨dt.toArray⟩, .int .u64 sa, .int .u64 sb, .int .u64 sc, .int .u64 sd, .slice b1 b2 b3, .int .i64 (na : Int), .int .i64 nx, .int .u64 ua, .int .u64 ub, .int .u64 uc, .int .u64 ud, .bool done] := by rw [hA]; exact tmps_own (by kernel_rfl) hx7 (of_decide_eq_true (by kernel_rfl))
      clear hA hdeps hcl hmi hx3 hx7
      rw [if_pos (wanted_of (k := 42) rfl rfl e3)]
      have hKK := Lib.hid hK
      clear hK
      go_simp
      refine (HST.out W (HB6.out.trans (hb0.mono HB6.out.size))).mono ?_
      rintro e w5 ⟨rfl, hbn⟩
      exact hKK.out _ _ hbn (Eq.refl _)
    · injection ho with ho
      subst ho
      obtain ⟨x3, hx3, hg3⟩ := hdeps ⟨3, .guard⟩ (by simp) rfl
      have hg3 : x3 = .bool true := hg3
      subst hg3
      have e3 : AA.tmps[42]?.getD undef = .bool true := by rw [hA]; exact tmps_own (by kernel_rfl) hx3 (of_decide_eq_true (by kernel_rfl))
      obtain ⟨x6, hx6, hg6⟩ := hdeps ⟨6, .data⟩ (by simp) rfl
      have hg6 : x6 = .bool true := hg6
      subst hg6
      have e6 : AA.tmps[45]?.getD undef = .bool true := by rw [hA]; exact tmps_own (by kernel_rfl) hx6 (of_decide_eq_true (by kernel_rfl))
      obtain ⟨x8, hx8, hg8⟩ := hdeps ⟨8, .data⟩ (by simp) rfl
      have hg8 : x8 = .bool true := hg8
      subst hg8
      have e8 : AA.tmps[47]?.getD undef = .bool true := by rw [hA]; exact tmps_own (by kernel_rfl) hx8 (of_decide_eq_true (by kernel_rfl))
      clear hA hdeps hcl hmi hx3 hx6 hx8
      rw [if_pos (wanted_of (k := 42) rfl rfl e3)]
      have hK0 : KK (AA.put (some 48) _) _ := hK (.bool true) _ (Below.refl _ _) (Eq.refl _)
      clear hK
      go_simp
      exact hK0
    · injection ho with ho
      subst ho
      obtain ⟨x3, hx3, hg3⟩ := hdeps ⟨3, .data⟩ (by simp) rfl
      have hg3 : x3 = .bool true := hg3
      subst hg3
      have e3 : AA.tmps[42]?.getD undef = .bool true := by rw [hA]; exact tmps_own (by kernel_rfl) hx3 (of_decide_eq_true (by kernel_rfl))
      obtain ⟨x9, hx9, hg9⟩ := hdeps ⟨9, .data⟩ (by simp) rfl
      have hg9 : x9 = .bool true := hg9
      subst hg9
      have e9 : AA.tmps[48]?.getD undef = .bool true := by rw [hA]; exact tmps_own (by kernel_rfl) hx9 (of_decide_eq_true (by kernel_rfl))
      clear hA hdeps hcl hmi hx3 hx9
      have hK0 : KK (AA.put (some 49) _) _ := hK (.bool true) _ (Below.refl _ _) (Eq.refl _)
      clear hK
      go_simp
      exact hK0
    · injection ho with ho
      subst ho
      obtain ⟨x10, hx10, hg10⟩ := hdeps ⟨10, .data⟩ (by simp) rfl
      have hg10 : x10 = .bool true := hg10
      subst hg10
      have e10 : AA.tmps[49]?.getD undef = .bool true := by rw [hA]; exact tmps_own (by kernel_rfl) hx10 (of_decide_eq_true (by kernel_rfl))
      clear hA hdeps hcl hmi hx10
      have hK0 : KK (AA.put (some 50) _) _ := hK (.bool true) _ (Below.refl _ _) (Eq.refl _)
      clear hK
      go_simp
      exact hK0
    · injection ho with ho
      subst ho
      obtain ⟨x11, hx11, hg11⟩ := hdeps ⟨11, .guard⟩ (by simp) rfl
      have hg11 : x11 = .bool true := hg11
      subst hg11
      have e11 : AA.tmps[50]?.getD undef = .bool true := by rw [hA]; exact tmps_own (by kernel_rfl) hx11 (of_decide_eq_true (by kernel_rfl))
      have ef7 : AA.tmps[7]?.getD undef = .string ⟨vp.toArray⟩ := by rw [hA]; exact tmps_free (by kernel_rfl)
      clear hA hdeps hcl hmi hx11
      rw [if_pos (wanted_of (k := 50) rfl rfl e11)]
      have hK0 : KK (AA.put (some 51) _) _ := hK (.string ⟨vp.toArray⟩) _ (Below.refl _ _) (Eq.refl _)
      clear hK
      go_simp
      exact hK0
    · injection ho with ho
      subst ho
      obtain ⟨x11, hx11, hg11⟩ := hdeps ⟨11, .guard⟩ (by simp) rfl
      have hg11 : x11 = .bool true := hg11
      subst hg11
      have e11 : AA.tmps[50]?.getD undef = .bool true := by rw [hA]; exact tmps_own (by kernel_rfl) hx11 (of_decide_eq_true (by kernel_rfl))
      have ef11 : AA.tmps[11]?.getD undef = .string ⟨vp.toArray⟩ := by rw [hA]; exact tmps_free (by kernel_rfl)
      clear hA hdeps hcl hmi hx11
      rw [if_pos (wanted_of (k := 50) rfl rfl e11)]
      have hK0 : KK (AA.put (some 52) _) _ := hK (.string ⟨vp.toArray⟩) _ (Below.refl _ _) (Eq.refl _)
      clear hK
      go_simp
      exact hK0
    · injection ho with ho
      subst ho
      obtain ⟨x11, hx11, hg11⟩ := hdeps ⟨11, .guard⟩ (by simp) rfl
      have hg11 : x11 = .bool true := hg11
      subst hg11
      have e11 : AA.tmps[50]?.getD undef = .bool true := by rw [hA]; exact tmps_own (by kernel_rfl) hx11 (of_decide_eq_true (by kernel_rfl))
      obtain ⟨x12, hx12, hg12⟩ := hdeps ⟨12, .data⟩ (by simp) rfl
      have hg12 : x12 = .string ⟨vp.toArray⟩ := hg12
      subst hg12
      have e12 : AA.tmps[51]?.getD undef = .string ⟨vp.toArray⟩ := by rw [hA]; exact tmps_own (by kernel_rfl) hx12 (of_decide_eq_true (by kernel_rfl))
      obtain ⟨x13, hx13, hg13⟩ := hdeps ⟨13, .data⟩ (by simp) rfl
      have hg13 : x13 = .string ⟨vp.toArray⟩ := hg13
      subst hg13
      have e13 : AA.tmps[52]?.getD undef = .string ⟨vp.toArray⟩ := by rw [hA]; exact tmps_own (by kernel_rfl) hx13 (of_decide_eq_true (by kernel_rfl))
      clear hA hdeps hcl hmi hx11 hx12 hx13
      rw [if_pos (wanted_of (k := 50) rfl rfl e11)]
      have hK0 : KK (AA.put (some 53) _) _ := hK (.bool true) _ (Below.refl _ _) (Eq.refl _)
      clear hK
      go_simp
      exact hK0
    · injection ho with ho
      subst ho
      obtain ⟨x11, hx11, hg11⟩ := hdeps ⟨11, .data⟩ (by simp) rfl
      have hg11 : x11 = .bool true := hg11
      subst hg11
      have e11 : AA.tmps[50]?.getD undef = .bool true := by rw [hA]; exact tmps_own (by kernel_rfl) hx11 (of_decide_eq_true (by kernel_rfl))
      obtain ⟨x14, hx14, hg14⟩ := hdeps ⟨14, .data⟩ (by simp) rfl
      have hg14 : x14 = .bool true := hg14
      subst hg14
      have e14 : AA.tmps[53]?.getD undef = .bool true := by rw [hA]; exact tmps_own (by kernel_rfl) hx14 (of_decide_eq_true (by kernel_rfl))
      clear hA hdeps hcl hmi hx11 hx14
      have hK0 : KK (AA.put (some 54) _) _ := hK (.bool true) _ (Below.refl _ _) (Eq.refl _)
      clear hK
      go_simp
      exact hK0
    · injection ho with ho
      subst ho
      obtain ⟨x15, hx15, hg15⟩ := hdeps ⟨15, .data⟩ (by simp) rfl
      have hg15 : x15 = .bool true := hg15
      subst hg15
      have e15 : AA.tmps[54]?.getD undef = .bool true := by rw [hA]; exact tmps_own (by kernel_rfl) hx15 (of_decide_eq_true (by kernel_rfl))
      clear hA hdeps hcl hmi hx15
      have hK0 : KK (AA.put (some 55) _) _ := hK (.bool true) _ (Below.refl _ _) (Eq.refl _)
      clear hK
      go_simp
      exact hK0
    · injection ho with ho
      subst ho
      obtain ⟨x16, hx16, hg16⟩ := hdeps ⟨16, .guard⟩ (by simp) rfl
      have hg16 : x16 = .bool true := hg16
      subst hg16
      have e16 : AA.tmps[55]?.getD undef = .bool true := by rw [hA]; exact tmps_own (by kernel_rfl) hx16 (of_decide_eq_true (by kernel_rfl))
      have ef8 : AA.tmps[8]?.getD undef = .int .i64 vn := by rw [hA]; exact tmps_free (by kernel_rfl)
      clear hA hdeps hcl hmi hx16
      rw [if_pos (wanted_of (k := 55) rfl rfl e16)]
      have hK0 : KK (AA.put (some 56) _) _ := hK (.int .i64 vn) _ (Below.refl _ _) (Eq.refl _)
      clear hK
      go_simp
      exact hK0
    · injection ho with ho
      subst ho
      obtain ⟨x16, hx16, hg16⟩ := hdeps ⟨16, .guard⟩ (by simp) rfl
      have hg16 : x16 = .bool true := hg16
      subst hg16
      have e16 : AA.tmps[55]?.getD undef = .bool true := by rw [hA]; exact tmps_own (by kernel_rfl) hx16 (of_decide_eq_true (by kernel_rfl))
      have ef12 : AA.tmps[12]?.getD undef = .int .i64 vn := by rw [hA]; exact tmps_free (by kernel_rfl)
      clear hA hdeps hcl hmi hx16
      rw [if_pos (wanted_of (k := 55) rfl rfl e16)]
      have hK0 : KK (AA.put (some 57) _) _ := hK (.int .i64 vn) _ (Below.refl _ _) (Eq.refl _)
      clear hK
      go_simp
      exact hK0
    · injection ho with ho
      subst ho
      obtain ⟨x16, hx16, hg16⟩ := hdeps ⟨16, .guard⟩ (by simp) rfl
      have hg16 : x16 = .bool true := hg16
      subst hg16
      have e16 : AA.tmps[55]?.getD undef = .bool true := by rw [hA]; exact tmps_own (by kernel_rfl) hx16 (of_decide_eq_true (by kernel_rfl))
      obtain ⟨x17, hx17, hg17⟩ := hdeps ⟨17, .data⟩ (by simp) rfl
      have hg17 : x17 = .int .i64 vn := hg17
      subst hg17
      have e17 : AA.tmps[56]?.getD undef = .int .i64 vn := by rw [hA]; exact tmps_own (by kernel_rfl) hx17 (of_decide_eq_true (by kernel_rfl))
      obtain ⟨x18, hx18, hg18⟩ := hdeps ⟨18, .data⟩ (by simp) rfl
      have hg18 : x18 = .int .i64 vn := hg18
      subst hg18
      have e18 : AA.tmps[57]?.getD undef = .int .i64 vn := by rw [hA]; exact tmps_own (by kernel_rfl) hx18 (of_decide_eq_true (by kernel_rfl))
      clear hA hdeps hcl hmi hx16 hx17 hx18
      rw [if_pos (wanted_of (k := 55) rfl rfl e16)]
      have hK0 : KK (AA.put (some 58) _) _ := hK (.bool true) _ (Below.refl _ _) (Eq.refl _)
      clear hK
      go_simp
      exact hK0
    · injection ho with ho
      subst ho
      obtain ⟨x16, hx16, hg16⟩ := hdeps ⟨16, .data⟩ (by simp) rfl
      have hg16 : x16 = .bool true := hg16
      subst hg16
      have e16 : AA.tmps[55]?.getD undef = .bool true := by rw [hA]; exact tmps_own (by kernel_rfl) hx16 (of_decide_eq_true (by kernel_rfl))
      obtain ⟨x19, hx19, hg19⟩ := hdeps ⟨19, .data⟩ (by simp) rfl
      have hg19 : x19 = .bool true := hg19
      subst hg19
      have e19 : AA.tmps[58]?.getD undef = .bool true := by rw [hA]; exact tmps_own (by kernel_rfl) hx19 (of_decide_eq_true (by kernel_rfl))
      clear hA hdeps hcl hmi hx16 hx19
      have hK0 : KK (AA.put (some 59) _) _ := hK (.bool true) _ (Below.refl _ _) (Eq.refl _)
      clear hK
      go_simp
      exact hK0
    · injection ho with ho
      subst ho
      obtain ⟨x20, hx20, hg20⟩ := hdeps ⟨20, .data⟩ (by simp) rfl
      have hg20 : x20 = .bool true := hg20
      subst hg20
      have e20 : AA.tmps[59]?.getD undef = .bool true := by rw [hA]; exact tmps_own (by kernel_rfl) hx20 (of_decide_eq_true (by kernel_rfl))
      clear hA hdeps hcl hmi hx20
      have hK0 : KK (AA.put (some 60) _) _ := hK (.bool true) _ (Below.refl _ _) (Eq.refl _)
      clear hK
      go_simp
      exact hK0
    · injection ho with ho
      subst ho
      obtain ⟨x21, hx21, hg21⟩ := hdeps ⟨21, .guard⟩ (by simp) rfl
      have hg21 : x21 = .bool true := hg21
      subst hg21
      have e21 : AA.tmps[60]?.getD undef = .bool true := by rw [hA]; exact tmps_own (by kernel_rfl) hx21 (of_decide_eq_true (by kernel_rfl))
      have ef9 : AA.tmps[9]?.getD undef = .int .i64 vg := by rw [hA]; exact tmps_free (by kernel_rfl)
      clear hA hdeps hcl hmi hx21
      rw [if_pos (wanted_of (k := 60) rfl rfl e21)]
      have hK0 : KK (AA.put (some 61) _) _ := hK (.int .i64 vg) _ (Below.refl _ _) (Eq.refl _)
      clear hK
      go_simp
      exact hK0
    · injection ho with ho
      subst ho
      obtain ⟨x21, hx21, hg21⟩ := hdeps ⟨21, .guard⟩ (by simp) rfl
      have hg21 : x21 = .bool true := hg21
      subst hg21
      have e21 : AA.tmps[60]?.getD undef = .bool true := by rw [hA]; exact tmps_own (by kernel_rfl) hx21 (of_decide_eq_true (by kernel_rfl))
      have ef13 : AA.tmps[13]?.getD undef = .int .i64 vg := by rw [hA]; exact tmps_free (by kernel_rfl)
      clear hA hdeps hcl hmi hx21
      rw [if_pos (wanted_of (k := 60) rfl rfl e21)]
      have hK0 : KK (AA.put (some 62) _) _ := hK (.int .i64 vg) _ (Below.refl _ _) (Eq.refl _)
      clear hK
      go_simp
      exact hK0
    · injection ho with ho
      subst ho
      obtain ⟨x21, hx21, hg21⟩ := hdeps ⟨21, .guard⟩ (by simp) rfl
      have hg21 : x21 = .bool true := hg21
      subst hg21
      have e21 : AA.tmps[60]?.getD undef = .bool true := by rw [hA]; exact tmps_own (by kernel_rfl) hx21 (of_decide_eq_true (by kernel_rfl))
      obtain ⟨x22, hx22, hg22⟩ := hdeps ⟨22, .data⟩ (by simp) rfl
      have hg22 : x22 = .int .i64 vg := hg22
      subst hg22
      have e22 : AA.tmps[61]?.getD undef = .int .i64 vg := by rw [hA]; exact tmps_own (by kernel_rfl) hx22 (of_decide_eq_true (by kernel_rfl))
      obtain ⟨x23, hx23, hg23⟩ := hdeps ⟨23, .data⟩ (by simp) rfl
      have hg23 : x23 = .int .i64 vg := hg23
      subst hg23
      have e23 : AA.tmps[62]?.getD undef = .int .i64 vg := by rw [hA]; exact tmps_own (by kernel_rfl) hx23 (of_decide_eq_true (by kernel_rfl))
      clear hA hdeps hcl hmi hx21 hx22 hx23
      rw [if_pos (wanted_of (k := 60) rfl rfl e21)]
      have hK0 : KK (AA.put (some 63) _) _ := hK (.bool true) _ (Below.refl _ _) (Eq.refl _)
      clear hK
      go_simp
      exact hK0
    · injection ho with ho
      subst ho
      obtain ⟨x21, hx21, hg21⟩ := hdeps ⟨21, .data⟩ (by simp) rfl
      have hg21 : x21 = .bool true := hg21
      subst hg21
      have e21 : AA.tmps[60]?.getD undef = .bool true := by rw [hA]; exact tmps_own (by kernel_rfl) hx21 (of_decide_eq_true (by kernel_rfl))
      obtain ⟨x24, hx24, hg24⟩ := hdeps ⟨24, .data⟩ (by simp) rfl
      have hg24 : x24 = .bool true := hg24
      subst hg24
      have e24 : AA.tmps[63]?.getD undef = .bool true := by rw [hA]; exact tmps_own (by kernel_rfl) hx24 (of_decide_eq_true (by kernel_rfl))
      clear hA hdeps hcl hmi hx21 hx24
      have hK0 : KK (AA.put (some 64) _) _ := hK (.bool true) _ (Below.refl _ _) (Eq.refl _)
      clear hK
      go_simp
      exact hK0
    · injection ho with ho
      subst ho
      obtain ⟨x25, hx25, hg25⟩ := hdeps ⟨25, .data⟩ (by simp) rfl
      have hg25 : x25 = .bool true := hg25
      subst hg25
      have e25 : AA.tmps[64]?.getD undef = .bool true := by rw [hA]; exact tmps_own (by kernel_rfl) hx25 (of_decide_eq_true (by kernel_rfl))
      clear hA hdeps hcl hmi hx25
      have hK0 : KK (AA.put (some 65) _) _ := hK (.bool true) _ (Below.refl _ _) (Eq.refl _)
      clear hK
      go_simp
      exact hK0
    · injection ho with ho
      subst ho
      obtain ⟨x26, hx26, hg26⟩ := hdeps ⟨26, .guard⟩ (by simp) rfl
      have hg26 : x26 = .bool true := hg26
      subst hg26
      have e26 : AA.tmps[65]?.getD undef = .bool true := by rw [hA]; exact tmps_own (by kernel_rfl) hx26 (of_decide_eq_true (by kernel_rfl))
      have ef10 : AA.tmps[10]?.getD undef = .int .i64 vf := by rw [hA]; exact tmps_free (by kernel_rfl)
      clear hA hdeps hcl hmi hx26
      rw [if_pos (wanted_of (k := 65) rfl rfl e26)]
      have hK0 : KK (AA.put (some 66) _) _ := hK (.int .i64 vf) _ (Below.refl _ _) (Eq.refl _)
      clear hK
      go_simp
      exact hK0
    · injection ho with ho
      subst ho
      obtain ⟨x26, hx26, hg26⟩ := hdeps ⟨26, .guard⟩ (by simp) rfl
      have hg26 : x26 = .bool true := hg26
      subst hg26
      have e26 : AA.tmps[65]?.getD undef = .bool true := by rw [hA]; exact tmps_own (by kernel_rfl) hx26 (of_decide_eq_true (by kernel_rfl))
      obtain ⟨x27, hx27, hg27⟩ := hdeps ⟨27, .data⟩ (by simp) rfl
      have hg27 : x27 = .int .i64 vf := hg27
      subst hg27
      have e27 : AA.tmps[66]?.getD undef = .int .i64 vf := by rw [hA]; exact tmps_own (by kernel_rfl) hx27 (of_decide_eq_true (by kernel_rfl))
      clear hA hdeps hcl hmi hx26 hx27
      rw [if_pos (wanted_of (k := 65) rfl rfl e26)]
      have hKK := Lib.hid hK
      clear hK
      go_simp
      refine (num23_any _ _).mono ?_
      rintro e w5 ⟨rfl, hw5⟩
      rw [hw5]
      exact hKK.out _ _ (Below.refl _ _) (Eq.refl _)
    · injection ho with ho
      subst ho
      obtain ⟨x26, hx26, hg26⟩ := hdeps ⟨26, .guard⟩ (by simp) rfl
      have hg26 : x26 = .bool true := hg26
      subst hg26
      have e26 : AA.tmps[65]?.getD undef = .bool true := by rw [hA]; exact tmps_own (by kernel_rfl) hx26 (of_decide_eq_true (by kernel_rfl))
      have ef14 : AA.tmps[14]?.getD undef = .int .i64 vf := by rw [hA]; exact tmps_free (by kernel_rfl)
      clear hA hdeps hcl hmi hx26
      rw [if_pos (wanted_of (k := 65) rfl rfl e26)]
      have hK0 : KK (AA.put (some 68) _) _ := hK (.int .i64 vf) _ (Below.refl _ _) (Eq.refl _)
      clear hK
      go_simp
      exact hK0
    · injection ho with ho
      subst ho
      obtain ⟨x26, hx26, hg26⟩ := hdeps ⟨26, .guard⟩ (by simp) rfl
      have hg26 : x26 = .bool true := hg26
      subst hg26
      have e26 : AA.tmps[65]?.getD undef = .bool true := by rw [hA]; exact tmps_own (by kernel_rfl) hx26 (of_decide_eq_true (by kernel_rfl))
      obtain ⟨x28, hx28, hg28⟩ := hdeps ⟨28, .data⟩ (by simp) rfl
      have hg28 : x28 = .int .i64 vf := hg28
      subst hg28
      have e28 : AA.tmps[67]?.getD undef = .int .i64 vf := by rw [hA]; exact tmps_own (by kernel_rfl) hx28 (of_decide_eq_true (by kernel_rfl))
      obtain ⟨x29, hx29, hg29⟩ := hdeps ⟨29, .data⟩ (by simp) rfl
      have hg29 : x29 = .int .i64 vf := hg29
      subst hg29
      have e29 : AA.tmps[68]?.getD undef = .int .i64 vf := by rw [hA]; exact tmps_own (by kernel_rfl) hx29 (of_decide_eq_true (by kernel_rfl))
      clear hA hdeps hcl hmi hx26 hx28 hx29
      rw [if_pos (wanted_of (k := 65) rfl rfl e26)]
      have hK0 : KK (AA.put (some 69) _) _ := hK (.bool true) _ (Below.refl _ _) (Eq.refl _)
      clear hK
      go_simp
      exact hK0
    · injection ho with ho
      subst ho
      obtain ⟨x26, hx26, hg26⟩ := hdeps ⟨26, .data⟩ (by simp) rfl
      have hg26 : x26 = .bool true := hg26
      subst hg26
      have e26 : AA.tmps[65]?.getD undef = .bool true := by rw [hA]; exact tmps_own (by kernel_rfl) hx26 (of_decide_eq_true (by kernel_rfl))
      obtain ⟨x30, hx30, hg30⟩ := hdeps ⟨30, .data⟩ (by simp) rfl
      have hg30 : x30 = .bool true := hg30
      subst hg30
      have e30 : AA.tmps[69]?.getD undef = .bool true := by rw [hA]; exact tmps_own (by kernel_rfl) hx30 (of_decide_eq_true (by kernel_rfl))
      clear hA hdeps hcl hmi hx26 hx30
      have hK0 : KK (AA.put (some 70) _) _ := hK (.bool true) _ (Below.refl _ _) (Eq.refl _)
      clear hK
      go_simp
      exact hK0
    · injection ho with ho
      subst ho
      obtain ⟨x31, hx31, hg31⟩ := hdeps ⟨31, .data⟩ (by simp) rfl
      have hg31 : x31 = .bool true := hg31
      subst hg31
      have e31 : AA.tmps[70]?.getD undef = .bool true := by rw [hA]; exact tmps_own (by kernel_rfl) hx31 (of_decide_eq_true (by kernel_rfl))
      clear hA hdeps hcl hmi hx31
      have hK0 : KK (AA.put (some 71) _) _ := hK (.bool true) _ (Below.refl _ _) (Eq.refl _)
      clear hK
      go_simp
      exact hK0
    · injection ho with ho
      subst ho
      obtain ⟨x32, hx32, hg32⟩ := hdeps ⟨32, .guard⟩ (by simp) rfl
      have hg32 : x32 = .bool true := hg32
      subst hg32
      have e32 : AA.tmps[71]?.getD undef = .bool true := by rw [hA]; exact tmps_own (by kernel_rfl) hx32 (of_decide_eq_true (by kernel_rfl))
      have ef2 : AA.tmps[2]?.getD undef = .pointer (some ⟨w0.heap.size, 0, none⟩) := by rw [hA]; exact tmps_free (by kernel_rfl)
      clear hA hdeps hcl hmi hx32
      rw [if_pos (wanted_of (k := 71) rfl rfl e32)]
      have hK0 : KK (AA.put (some 72) _) _ := hK (.agg #[.string ⟨into.toArray⟩, .int .i64 kind, .string ⟨nm.toArray⟩, .int .i64 frm, .int .i64 (ng : Int), .slice o1 o2 o3, .int .i64 ix, .int .i64 ct, .string ⟨dt.toArray⟩, .int .u64 sa, .int .u64 sb, .int .u64 sc, .int .u64 sd, .slice b1 b2 b3, .int .i64 (na : Int), .int .i64 nx, .int .u64 ua, .int .u64 ub, .int .u64 uc, .int .u64 ud, .bool done]) _ (Below.refl _ _) (Eq.refl _)
      clear hK
      exact operwp_load_at 60 (.tmp 2) rfl ⟨w0.heap.size, 0, none⟩ (by unfold Act.eval; simpa using ef2) [.string ⟨into.toArray⟩, .int .i64 kind, .string ⟨nm.toArray⟩, .int .i64 frm, .int .i64 (ng : Int), .slice o1 o2 o3, .int .i64 ix, .int .i64 ct, .string ⟨dt.toArray⟩, .int .u64 sa, .int .u64 sb, .int .u64 sc, .int .u64 sd, .slice b1 b2 b3, .int .i64 (na : Int), .int .i64 nx, .int .u64 ua, .int .u64 ub, .int .u64 uc, .int .u64 ud, .bool done] _ (HLG.out W (HB6.out.trans (hb0.mono HB6.out.size))) Tryd.underlying60 rfl (by kernel_rfl) hK0
    · injection ho with ho
      subst ho
      obtain ⟨x32, hx32, hg32⟩ := hdeps ⟨32, .guard⟩ (by simp) rfl
      have hg32 : x32 = .bool true := hg32
      subst hg32
      have e32 : AA.tmps[71]?.getD undef = .bool true := by rw [hA]; exact tmps_own (by kernel_rfl) hx32 (of_decide_eq_true (by kernel_rfl))
      have ef1 : AA.tmps[1]?.getD undef = .string ⟨t.toArray⟩ := by rw [hA]; exact tmps_free (by kernel_rfl)
      clear hA hdeps hcl hmi hx32
      rw [if_pos (wanted_of (k := 71) rfl rfl e32)]
      have hK0 : KK (AA.put (some 73) _) _ := hK (.string ⟨t.toArray⟩) _ (Below.refl _ _) (Eq.refl _)
      clear hK
      go_simp
      exact hK0
    · injection ho with ho
      subst ho
      obtain ⟨x32, hx32, hg32⟩ := hdeps ⟨32, .guard⟩ (by simp) rfl
      have hg32 : x32 = .bool true := hg32
      subst hg32
      have e32 : AA.tmps[71]?.getD undef = .bool true := by rw [hA]; exact tmps_own (by kernel_rfl) hx32 (of_decide_eq_true (by kernel_rfl))
      obtain ⟨x33, hx33, hg33⟩ := hdeps ⟨33, .data⟩ (by simp) rfl
      have hg33 : x33 = .agg #[.string ⟨into.toArray⟩, .int .i64 kind, .string ⟨nm.toArray⟩, .int .i64 frm, .int .i64 (ng : Int), .slice o1 o2 o3, .int .i64 ix, .int .i64 ct, .string ⟨dt.toArray⟩, .int .u64 sa, .int .u64 sb, .int .u64 sc, .int .u64 sd, .slice b1 b2 b3, .int .i64 (na : Int), .int .i64 nx, .int .u64 ua, .int .u64 ub, .int .u64 uc, .int .u64 ud, .bool done] := hg33
      subst hg33
      have e33 : AA.tmps[72]?.getD undef = .agg #[.string ⟨into.toArray⟩, .int .i64 kind, .string ⟨nm.toArray⟩, .int .i64 frm, .int .i64 (ng : Int), .slice o1 o2 o3, .int .i64 ix, .int .i64 ct, .string ⟨dt.toArray⟩, .int .u64 sa, .int .u64 sb, .int .u64 sc, .int .u64 sd, .slice b1 b2 b3, .int .i64 (na : Int), .int .i64 nx, .int .u64 ua, .int .u64 ub, .int .u64 uc, .int .u64 ud, .bool done] := by rw [hA]; exact tmps_own (by kernel_rfl) hx33 (of_decide_eq_true (by kernel_rfl))
      obtain ⟨x34, hx34, hg34⟩ := hdeps ⟨34, .data⟩ (by simp) rfl
      have hg34 : x34 = .string ⟨t.toArray⟩ := hg34
      subst hg34
      have e34 : AA.tmps[73]?.getD undef = .string ⟨t.toArray⟩ := by rw [hA]; exact tmps_own (by kernel_rfl) hx34 (of_decide_eq_true (by kernel_rfl))
      clear hA hdeps hcl hmi hx32 hx33 hx34
      rw [if_pos (wanted_of (k := 71) rfl rfl e32)]
      have hKK := Lib.hid hK
      clear hK
      go_simp
      refine (HFI.out W (HB6.out.trans (hb0.mono HB6.out.size))).mono ?_
      rintro e w5 ⟨rfl, hbn⟩
      exact hKK.out _ _ hbn (Eq.refl _)
    · injection ho with ho
      subst ho
      obtain ⟨x32, hx32, hg32⟩ := hdeps ⟨32, .guard⟩ (by simp) rfl
      have hg32 : x32 = .bool true := hg32
      subst hg32
      have e32 : AA.tmps[71]?.getD undef = .bool true := by rw [hA]; exact tmps_own (by kernel_rfl) hx32 (of_decide_eq_true (by kernel_rfl))
      have ef2 : AA.tmps[2]?.getD undef = .pointer (some ⟨w0.heap.size, 0, none⟩) := by rw [hA]; exact tmps_free (by kernel_rfl)
      clear hA hdeps hcl hmi hx32
      rw [if_pos (wanted_of (k := 71) rfl rfl e32)]
      have hK0 : KK (AA.put (some 75) _) _ := hK (.agg #[.string ⟨into.toArray⟩, .int .i64 kind, .string ⟨nm.toArray⟩, .int .i64 frm, .int .i64 (ng : Int), .slice o1 o2 o3, .int .i64 ix, .int .i64 ct, .string ⟨dt.toArray⟩, .int .u64 sa, .int .u64 sb, .int .u64 sc, .int .u64 sd, .slice b1 b2 b3, .int .i64 (na : Int), .int .i64 nx, .int .u64 ua, .int .u64 ub, .int .u64 uc, .int .u64 ud, .bool done]) _ (Below.refl _ _) (Eq.refl _)
      clear hK
      exact operwp_load_at 60 (.tmp 2) rfl ⟨w0.heap.size, 0, none⟩ (by unfold Act.eval; simpa using ef2) [.string ⟨into.toArray⟩, .int .i64 kind, .string ⟨nm.toArray⟩, .int .i64 frm, .int .i64 (ng : Int), .slice o1 o2 o3, .int .i64 ix, .int .i64 ct, .string ⟨dt.toArray⟩, .int .u64 sa, .int .u64 sb, .int .u64 sc, .int .u64 sd, .slice b1 b2 b3, .int .i64 (na : Int), .int .i64 nx, .int .u64 ua, .int .u64 ub, .int .u64 uc, .int .u64 ud, .bool done] _ (HLG.out W (HB6.out.trans (hb0.mono HB6.out.size))) Tryd.underlying60 rfl (by kernel_rfl) hK0
    · injection ho with ho
      subst ho
      obtain ⟨x32, hx32, hg32⟩ := hdeps ⟨32, .guard⟩ (by simp) rfl
      have hg32 : x32 = .bool true := hg32
      subst hg32
      have e32 : AA.tmps[71]?.getD undef = .bool true := by rw [hA]; exact tmps_own (by kernel_rfl) hx32 (of_decide_eq_true (by kernel_rfl))
      obtain ⟨x36, hx36, hg36⟩ := hdeps ⟨36, .data⟩ (by simp) rfl
      have hg36 : x36 = .agg #[.string ⟨into.toArray⟩, .int .i64 kind, .string ⟨nm.toArray⟩, .int .i64 frm, .int .i64 (ng : Int), .slice o1 o2 o3, .int .i64 ix, .int .i64 ct, .string ⟨dt.toArray⟩, .int .u64 sa, .int .u64 sb, .int .u64 sc, .int .u64 sd, .slice b1 b2 b3, .int .i64 (na : Int), .int .i64 nx, .int .u64 ua, .int .u64 ub, .int .u64 uc, .int .u64 ud, .bool done] := hg36
      subst hg36
      have e36 : AA.tmps[75]?.getD undef = .agg #[.string ⟨into.toArray⟩, .int .i64 kind, .string ⟨nm.toArray⟩, .int .i64 frm, .int .i64 (ng : Int), .slice o1 o2 o3, .int .i64 ix, .int .i64 ct, .string ⟨dt.toArray⟩, .int .u64 sa, .int .u64 sb, .int .u64 sc, .int .u64 sd, .slice b1 b2 b3, .int .i64 (na : Int), .int .i64 nx, .int .u64 ua, .int .u64 ub, .int .u64 uc, .int .u64 ud, .bool done] := by rw [hA]; exact tmps_own (by kernel_rfl) hx36 (of_decide_eq_true (by kernel_rfl))
      clear hA hdeps hcl hmi hx32 hx36
      rw [if_pos (wanted_of (k := 71) rfl rfl e32)]
      have hKK := Lib.hid hK
      clear hK
      go_simp
      refine (HST.out W (HB6.out.trans (hb0.mono HB6.out.size))).mono ?_
      rintro e w5 ⟨rfl, hbn⟩
      exact hKK.out _ _ hbn (Eq.refl _)
    · injection ho with ho
      subst ho
      obtain ⟨x32, hx32, hg32⟩ := hdeps ⟨32, .guard⟩ (by simp) rfl
      have hg32 : x32 = .bool true := hg32
      subst hg32
      have e32 : AA.tmps[71]?.getD undef = .bool true := by rw [hA]; exact tmps_own (by kernel_rfl) hx32 (of_decide_eq_true (by kernel_rfl))
      obtain ⟨x37, hx37, hg37⟩ := hdeps ⟨37, .data⟩ (by simp) rfl
      have hg37 : x37 = .bool true := hg37
      subst hg37
      have e37 : AA.tmps[76]?.getD undef = .bool true := by rw [hA]; exact tmps_own (by kernel_rfl) hx37 (of_decide_eq_true (by kernel_rfl))
      clear hA hdeps hcl hmi hx32 hx37
      rw [if_pos (wanted_of (k := 71) rfl rfl e32)]
      have hK0 : KK (AA.put (some 77) _) _ := hK (.bool true) _ (Below.refl _ _) (Eq.refl _)
      clear hK
      go_simp
      exact hK0
    · injection ho with ho
      subst ho
      obtain ⟨x38, hx38, hg38⟩ := hdeps ⟨38, .guard⟩ (by simp) rfl
      have hg38 : x38 = .bool true := hg38
      subst hg38
      have e38 : AA.tmps[77]?.getD undef = .bool true := by rw [hA]; exact tmps_own (by kernel_rfl) hx38 (of_decide_eq_true (by kernel_rfl))
      have ef1 : AA.tmps[1]?.getD undef = .string ⟨t.toArray⟩ := by rw [hA]; exact tmps_free (by kernel_rfl)
      clear hA hdeps hcl hmi hx38
      rw [if_pos (wanted_of (k := 77) rfl rfl e38)]
      have hK0 : KK (AA.put (some 78) _) _ := hK (.string ⟨t.toArray⟩) _ (Below.refl _ _) (Eq.refl _)
      clear hK
      go_simp
      exact hK0
    · injection ho with ho
      subst ho
      obtain ⟨x38, hx38, hg38⟩ := hdeps ⟨38, .guard⟩ (by simp) rfl
      have hg38 : x38 = .bool true := hg38
      subst hg38
      have e38 : AA.tmps[77]?.getD undef = .bool true := by rw [hA]; exact tmps_own (by kernel_rfl) hx38 (of_decide_eq_true (by kernel_rfl))
      have ef15 : AA.tmps[15]?.getD undef = .string ⟨tk.toArray⟩ := by rw [hA]; exact tmps_free (by kernel_rfl)
      clear hA hdeps hcl hmi hx38
      rw [if_pos (wanted_of (k := 77) rfl rfl e38)]
      have hK0 : KK (AA.put (some 79) _) _ := hK (.string ⟨tk.toArray⟩) _ (Below.refl _ _) (Eq.refl _)
      clear hK
      go_simp
      exact hK0
    · injection ho with ho
      subst ho
      obtain ⟨x38, hx38, hg38⟩ := hdeps ⟨38, .guard⟩ (by simp) rfl
      have hg38 : x38 = .bool true := hg38
      subst hg38
      have e38 : AA.tmps[77]?.getD undef = .bool true := by rw [hA]; exact tmps_own (by kernel_rfl) hx38 (of_decide_eq_true (by kernel_rfl))
      obtain ⟨x39, hx39, hg39⟩ := hdeps ⟨39, .data⟩ (by simp) rfl
      have hg39 : x39 = .string ⟨t.toArray⟩ := hg39
      subst hg39
      have e39 : AA.tmps[78]?.getD undef = .string ⟨t.toArray⟩ := by rw [hA]; exact tmps_own (by kernel_rfl) hx39 (of_decide_eq_true (by kernel_rfl))
      obtain ⟨x40, hx40, hg40⟩ := hdeps ⟨40, .data⟩ (by simp) rfl
      have hg40 : x40 = .string ⟨tk.toArray⟩ := hg40
      subst hg40
      have e40 : AA.tmps[79]?.getD undef = .string ⟨tk.toArray⟩ := by rw [hA]; exact tmps_own (by kernel_rfl) hx40 (of_decide_eq_true (by kernel_rfl))
      clear hA hdeps hcl hmi hx38 hx39 hx40
      rw [if_pos (wanted_of (k := 77) rfl rfl e38)]
      have hK0 : KK (AA.put (some 80) _) _ := hK (.bool b) _ (Below.refl _ _) (Eq.refl _)
      clear hK
      go_simp
      exact hK0
    · injection ho with ho
      subst ho
      obtain ⟨x32, hx32, hg32⟩ := hdeps ⟨32, .guard⟩ (by simp) rfl
      have hg32 : x32 = .bool true := hg32
      subst hg32
      have e32 : AA.tmps[71]?.getD undef = .bool true := by rw [hA]; exact tmps_own (by kernel_rfl) hx32 (of_decide_eq_true (by kernel_rfl))
      obtain ⟨x38, hx38, hg38⟩ := hdeps ⟨38, .data⟩ (by simp) rfl
      have hg38 : x38 = .bool true := hg38
      subst hg38
      have e38 : AA.tmps[77]?.getD undef = .bool true := by rw [hA]; exact tmps_own (by kernel_rfl) hx38 (of_decide_eq_true (by kernel_rfl))
      obtain ⟨x41, hx41, hg41⟩ := hdeps ⟨41, .data⟩ (by simp) rfl
      have hg41 : x41 = .bool b := hg41
      subst hg41
      have e41 : AA.tmps[80]?.getD undef = .bool b := by rw [hA]; exact tmps_own (by kernel_rfl) hx41 (of_decide_eq_true (by kernel_rfl))
      clear hA hdeps hcl hmi hx32 hx38 hx41
      rw [if_pos (wanted_of (k := 71) rfl rfl e32)]
      have hK0 : KK (AA.put (some 81) _) _ := hK (.bool b) _ (Below.refl _ _) (Eq.refl _)
      clear hK
      go_simp
      exact hK0
    · injection ho with ho
      subst ho
      obtain ⟨x32, hx32, hg32⟩ := hdeps ⟨32, .guard⟩ (by simp) rfl
      have hg32 : x32 = .bool true := hg32
      subst hg32
      have e32 : AA.tmps[71]?.getD undef = .bool true := by rw [hA]; exact tmps_own (by kernel_rfl) hx32 (of_decide_eq_true (by kernel_rfl))
      obtain ⟨x35, hx35, hg35⟩ := hdeps ⟨35, .data⟩ (by simp) rfl
      have hg35 : x35 = .bool b := hg35
      subst hg35
      have e35 : AA.tmps[74]?.getD undef = .bool b := by rw [hA]; exact tmps_own (by kernel_rfl) hx35 (of_decide_eq_true (by kernel_rfl))
      obtain ⟨x42, hx42, hg42⟩ := hdeps ⟨42, .data⟩ (by simp) rfl
      have hg42 : x42 = .bool b := hg42
      subst hg42
      have e42 : AA.tmps[81]?.getD undef = .bool b := by rw [hA]; exact tmps_own (by kernel_rfl) hx42 (of_decide_eq_true (by kernel_rfl))
      clear hA hdeps hcl hmi hx32 hx35 hx42
      rw [if_pos (wanted_of (k := 71) rfl rfl e32)]
      have hK0 : KK (AA.put (some 82) _) _ := hK (.bool true) _ (Below.refl _ _) (Eq.refl _)
      clear hK
      go_simp
      exact hK0
    · injection ho with ho
      subst ho
      obtain ⟨x32, hx32, hg32⟩ := hdeps ⟨32, .data⟩ (by simp) rfl
      have hg32 : x32 = .bool true := hg32
      subst hg32
      have e32 : AA.tmps[71]?.getD undef = .bool true := by rw [hA]; exact tmps_own (by kernel_rfl) hx32 (of_decide_eq_true (by kernel_rfl))
      obtain ⟨x43, hx43, hg43⟩ := hdeps ⟨43, .data⟩ (by simp) rfl
      have hg43 : x43 = .bool true := hg43
      subst hg43
      have e43 : AA.tmps[82]?.getD undef = .bool true := by rw [hA]; exact tmps_own (by kernel_rfl) hx43 (of_decide_eq_true (by kernel_rfl))
      clear hA hdeps hcl hmi hx32 hx43
      have hK0 : KK (AA.put (some 83) _) _ := hK (.bool true) _ (Below.refl _ _) (Eq.refl _)
      clear hK
      go_simp
      exact hK0
    · injection ho with ho
      subst ho
      obtain ⟨x44, hx44, hg44⟩ := hdeps ⟨44, .data⟩ (by simp) rfl
      have hg44 : x44 = .bool true := hg44
      subst hg44
      have e44 : AA.tmps[83]?.getD undef = .bool true := by rw [hA]; exact tmps_own (by kernel_rfl) hx44 (of_decide_eq_true (by kernel_rfl))
      clear hA hdeps hcl hmi hx44
      have hK0 : KK (AA.put (some 84) _) _ := hK (.bool true) _ (Below.refl _ _) (Eq.refl _)
      clear hK
      go_simp
      exact hK0
    · injection ho with ho
      subst ho
      obtain ⟨x45, hx45, hg45⟩ := hdeps ⟨45, .guard⟩ (by simp) rfl
      have hg45 : x45 = .bool true := hg45
      subst hg45
      have e45 : AA.tmps[84]?.getD undef = .bool true := by rw [hA]; exact tmps_own (by kernel_rfl) hx45 (of_decide_eq_true (by kernel_rfl))
      clear hA hdeps hcl hmi hx45
      rw [if_pos (wanted_of (k := 84) rfl rfl e45)]
      have hKK := Lib.hid hK
      clear hK
      go_simp
      refine (HAL.out W (HB6.out.trans (hb0.mono HB6.out.size))).mono ?_
      rintro e w5 ⟨rfl, hbn⟩
      exact hKK.out _ _ hbn (Eq.refl _)
    · injection ho with ho
      subst ho
      obtain ⟨x45, hx45, hg45⟩ := hdeps ⟨45, .data⟩ (by simp) rfl
      have hg45 : x45 = .bool true := hg45
      subst hg45
      have e45 : AA.tmps[84]?.getD undef = .bool true := by rw [hA]; exact tmps_own (by kernel_rfl) hx45 (of_decide_eq_true (by kernel_rfl))
      obtain ⟨x46, hx46, hg46⟩ := hdeps ⟨46, .data⟩ (by simp) rfl
      have hg46 : x46 = .bool true := hg46
      subst hg46
      have e46 : AA.tmps[85]?.getD undef = .bool true := by rw [hA]; exact tmps_own (by kernel_rfl) hx46 (of_decide_eq_true (by kernel_rfl))
      clear hA hdeps hcl hmi hx45 hx46
      have hK0 : KK (AA.put (some 86) _) _ := hK (.bool true) _ (Below.refl _ _) (Eq.refl _)
      clear hK
      go_simp
      exact hK0
    · injection ho with ho
      subst ho
      obtain ⟨x47, hx47, hg47⟩ := hdeps ⟨47, .data⟩ (by simp) rfl
      have hg47 : x47 = .bool true := hg47
      subst hg47
      have e47 : AA.tmps[86]?.getD undef = .bool true := by rw [hA]; exact tmps_own (by kernel_rfl) hx47 (of_decide_eq_true (by kernel_rfl))
      clear hA hdeps hcl hmi hx47
      have hK0 : KK (AA.put (some 4) _) _ := hK (.bool true) _ (Below.refl _ _) (Eq.refl _)
      clear hK
      go_simp
      exact hK0
    · simp at ho
  · intro m W hbx hall
    obtain ⟨x0, m0, g0⟩ := hall 0 (by simp)
    replace g0 : x0 = .string ⟨tk.toArray⟩ := g0
    subst g0
    obtain ⟨x1, m1, g1⟩ := hall 1 (by simp)
    replace g1 : x1 = .string ⟨tk.toArray⟩ := g1
    subst g1
    obtain ⟨x2, m2, g2⟩ := hall 2 (by simp)
    replace g2 : x2 = .bool true := g2
    subst g2
    obtain ⟨x3, m3, g3⟩ := hall 3 (by simp)
    replace g3 : x3 = .bool true := g3
    subst g3
    obtain ⟨x4, m4, g4⟩ := hall 4 (by simp)
    replace g4 : x4 = .int .i64 0 := g4
    subst g4
    obtain ⟨x5, m5, g5⟩ := hall 5 (by simp)
    replace g5 : x5 = .int .i64 0 := g5
    subst g5
    obtain ⟨x6, m6, g6⟩ := hall 6 (by simp)
    replace g6 : x6 = .bool true := g6
    subst g6
    obtain ⟨x7, m7, g7⟩ := hall 7 (by simp)
    replace g7 : x7 = .agg #[.string ⟨into.toArray⟩, .int .i64 kind, .string ⟨nm.toArray⟩, .int .i64 frm, .int .i64 (ng : Int), .slice o1 o2 o3, .int .i64 ix, .int .i64 ct, .string ⟨dt.toArray⟩, .int .u64 sa, .int .u64 sb, .int .u64 sc, .int .u64 sd, .slice b1 b2 b3, .int .i64 (na : Int), .int .i64 nx, .int .u64 ua, .int .u64 ub, .int .u64 uc, .int .u64 ud, .bool done] := g7
    subst g7
    obtain ⟨x8, m8, g8⟩ := hall 8 (by simp)
    replace g8 : x8 = .bool true := g8
    subst g8
    obtain ⟨x9, m9, g9⟩ := hall 9 (by simp)
    replace g9 : x9 = .bool true := g9
    subst g9
    obtain ⟨x10, m10, g10⟩ := hall 10 (by simp)
    replace g10 : x10 = .bool true := g10
    subst g10
    obtain ⟨x11, m11, g11⟩ := hall 11 (by simp)
    replace g11 : x11 = .bool true := g11
    subst g11
    obtain ⟨x12, m12, g12⟩ := hall 12 (by simp)
    replace g12 : x12 = .string ⟨vp.toArray⟩ := g12
    subst g12
    obtain ⟨x13, m13, g13⟩ := hall 13 (by simp)
    replace g13 : x13 = .string ⟨vp.toArray⟩ := g13
    subst g13
    obtain ⟨x14, m14, g14⟩ := hall 14 (by simp)
    replace g14 : x14 = .bool true := g14
    subst g14
    obtain ⟨x15, m15, g15⟩ := hall 15 (by simp)
    replace g15 : x15 = .bool true := g15
    subst g15
    obtain ⟨x16, m16, g16⟩ := hall 16 (by simp)
    replace g16 : x16 = .bool true := g16
    subst g16
    obtain ⟨x17, m17, g17⟩ := hall 17 (by simp)
    replace g17 : x17 = .int .i64 vn := g17
    subst g17
    obtain ⟨x18, m18, g18⟩ := hall 18 (by simp)
    replace g18 : x18 = .int .i64 vn := g18
    subst g18
    obtain ⟨x19, m19, g19⟩ := hall 19 (by simp)
    replace g19 : x19 = .bool true := g19
    subst g19
    obtain ⟨x20, m20, g20⟩ := hall 20 (by simp)
    replace g20 : x20 = .bool true := g20
    subst g20
    obtain ⟨x21, m21, g21⟩ := hall 21 (by simp)
    replace g21 : x21 = .bool true := g21
    subst g21
    obtain ⟨x22, m22, g22⟩ := hall 22 (by simp)
    replace g22 : x22 = .int .i64 vg := g22
    subst g22
    obtain ⟨x23, m23, g23⟩ := hall 23 (by simp)
    replace g23 : x23 = .int .i64 vg := g23
    subst g23
    obtain ⟨x24, m24, g24⟩ := hall 24 (by simp)
    replace g24 : x24 = .bool true := g24
    subst g24
    obtain ⟨x25, m25, g25⟩ := hall 25 (by simp)
    replace g25 : x25 = .bool true := g25
    subst g25
    obtain ⟨x26, m26, g26⟩ := hall 26 (by simp)
    replace g26 : x26 = .bool true := g26
    subst g26
    obtain ⟨x27, m27, g27⟩ := hall 27 (by simp)
    replace g27 : x27 = .int .i64 vf := g27
    subst g27
    obtain ⟨x28, m28, g28⟩ := hall 28 (by simp)
    replace g28 : x28 = .int .i64 vf := g28
    subst g28
    obtain ⟨x29, m29, g29⟩ := hall 29 (by simp)
    replace g29 : x29 = .int .i64 vf := g29
    subst g29
    obtain ⟨x30, m30, g30⟩ := hall 30 (by simp)
    replace g30 : x30 = .bool true := g30
    subst g30
    obtain ⟨x31, m31, g31⟩ := hall 31 (by simp)
    replace g31 : x31 = .bool true := g31
    subst g31
    obtain ⟨x32, m32, g32⟩ := hall 32 (by simp)
    replace g32 : x32 = .bool true := g32
    subst g32
    obtain ⟨x33, m33, g33⟩ := hall 33 (by simp)
    replace g33 : x33 = .agg #[.string ⟨into.toArray⟩, .int .i64 kind, .string ⟨nm.toArray⟩, .int .i64 frm, .int .i64 (ng : Int), .slice o1 o2 o3, .int .i64 ix, .int .i64 ct, .string ⟨dt.toArray⟩, .int .u64 sa, .int .u64 sb, .int .u64 sc, .int .u64 sd, .slice b1 b2 b3, .int .i64 (na : Int), .int .i64 nx, .int .u64 ua, .int .u64 ub, .int .u64 uc, .int .u64 ud, .bool done] := g33
    subst g33
    obtain ⟨x34, m34, g34⟩ := hall 34 (by simp)
    replace g34 : x34 = .string ⟨t.toArray⟩ := g34
    subst g34
    obtain ⟨x35, m35, g35⟩ := hall 35 (by simp)
    replace g35 : x35 = .bool b := g35
    subst g35
    obtain ⟨x36, m36, g36⟩ := hall 36 (by simp)
    replace g36 : x36 = .agg #[.string ⟨into.toArray⟩, .int .i64 kind, .string ⟨nm.toArray⟩, .int .i64 frm, .int .i64 (ng : Int), .slice o1 o2 o3, .int .i64 ix, .int .i64 ct, .string ⟨dt.toArray⟩, .int .u64 sa, .int .u64 sb, .int .u64 sc, .int .u64 sd, .slice b1 b2 b3, .int .i64 (na : Int), .int .i64 nx, .int .u64 ua, .int .u64 ub, .int .u64 uc, .int .u64 ud, .bool done] := g36
    subst g36
    obtain ⟨x37, m37, g37⟩ := hall 37 (by simp)
    replace g37 : x37 = .bool true := g37
    subst g37
    obtain ⟨x38, m38, g38⟩ := hall 38 (by simp)
    replace g38 : x38 = .bool true := g38
    subst g38
    obtain ⟨x39, m39, g39⟩ := hall 39 (by simp)
    replace g39 : x39 = .string ⟨t.toArray⟩ := g39
    subst g39
    obtain ⟨x40, m40, g40⟩ := hall 40 (by simp)
    replace g40 : x40 = .string ⟨tk.toArray⟩ := g40
    subst g40
    obtain ⟨x41, m41, g41⟩ := hall 41 (by simp)
    replace g41 : x41 = .bool b := g41
    subst g41
    obtain ⟨x42, m42, g42⟩ := hall 42 (by simp)
    replace g42 : x42 = .bool b := g42
    subst g42
    obtain ⟨x43, m43, g43⟩ := hall 43 (by simp)
    replace g43 : x43 = .bool true := g43
    subst g43
    obtain ⟨x44, m44, g44⟩ := hall 44 (by simp)
    replace g44 : x44 = .bool true := g44
    subst g44
    obtain ⟨x45, m45, g45⟩ := hall 45 (by simp)
    replace g45 : x45 = .bool true := g45
    subst g45
    obtain ⟨x46, m46, g46⟩ := hall 46 (by simp)
    replace g46 : x46 = .bool true := g46
    subst g46
    obtain ⟨x47, m47, g47⟩ := hall 47 (by simp)
    replace g47 : x47 = .bool true := g47
    subst g47
    obtain ⟨x48, m48, g48⟩ := hall 48 (by simp)
    replace g48 : x48 = .bool true := g48
    subst g48
    rw [frameM_all (by kernel_rfl) [.string ⟨tk.toArray⟩, .string ⟨tk.toArray⟩, .bool true, .bool true, .int .i64 0, .int .i64 0, .bool true, .agg #[.string ⟨into.toArray⟩, .int .i64 kind, .string ⟨nm.toArray⟩, .int .i64 frm, .int .i64 (ng : Int), .slice o1 o2 o3, .int .i64 ix, .int .i64 ct, .string ⟨dt.toArray⟩, .int .u64 sa, .int .u64 sb, .int .u64 sc, .int .u64 sd, .slice b1 b2 b3, .int .i64 (na : Int), .int .i64 nx, .int .u64 ua, .int .u64 ub, .int .u64 uc, .int .u64 ud, .bool done], .bool true, .bool true, .bool true, .bool true, .string ⟨vp.toArray⟩, .string ⟨vp.toArray⟩, .bool true, .bool true, .bool true, .int .i64 vn, .int .i64 vn, .bool true, .bool true, .bool true, .int .i64 vg, .int .i64 vg, .bool true, .bool true, .bool true, .int .i64 vf, .int .i64 vf, .int .i64 vf, .bool true, .bool true, .bool true, .agg #[.string ⟨into.toArray⟩, .int .i64 kind, .string ⟨nm.toArray⟩, .int .i64 frm, .int .i64 (ng : Int), .slice o1 o2 o3, .int .i64 ix, .int .i64 ct, .string ⟨dt.toArray⟩, .int .u64 sa, .int .u64 sb, .int .u64 sc, .int .u64 sd, .slice b1 b2 b3, .int .i64 (na : Int), .int .i64 nx, .int .u64 ua, .int .u64 ub, .int .u64 uc, .int .u64 ud, .bool done], .string ⟨t.toArray⟩, .bool b, .agg #[.string ⟨into.toArray⟩, .int .i64 kind, .string ⟨nm.toArray⟩, .int .i64 frm, .int .i64 (ng : Int), .slice o1 o2 o3, .int .i64 ix, .int .i64 ct, .string ⟨dt.toArray⟩, .int .u64 sa, .int .u64 sb, .int .u64 sc, .int .u64 sd, .slice b1 b2 b3, .int .i64 (na : Int), .int .i64 nx, .int .u64 ua, .int .u64 ub, .int .u64 uc, .int .u64 ud, .bool done], .bool true, .bool true, .string ⟨t.toArray⟩, .string ⟨tk.toArray⟩, .bool b, .bool b, .bool true, .bool true, .bool true, .bool true, .bool true, .bool true] rfl (fun i hi => by
        rcases i with _ | _ | _ | _ | _ | _ | _ | _ | _ | _ | _ | _ | _ | _ | _ | _ | _ | _ | _ | _ | _ | _ | _ | _ | _ | _ | _ | _ | _ | _ | _ | _ | _ | _ | _ | _ | _ | _ | _ | _ | _ | _ | _ | _ | _ | _ | _ | _ | _ | i
        · exact m0
        · exact m1
        · exact m2
        · exact m3
        · exact m4
        · exact m5
        · exact m6
        · exact m7
        · exact m8
        · exact m9
        · exact m10
        · exact m11
        · exact m12
        · exact m13
        · exact m14
        · exact m15
        · exact m16
        · exact m17
        · exact m18
        · exact m19
        · exact m20
        · exact m21
        · exact m22
        · exact m23
        · exact m24
        · exact m25
        · exact m26
        · exact m27
        · exact m28
        · exact m29
        · exact m30
        · exact m31
        · exact m32
        · exact m33
        · exact m34
        · exact m35
        · exact m36
        · exact m37
        · exact m38
        · exact m39
        · exact m40
        · exact m41
        · exact m42
        · exact m43
        · exact m44
        · exact m45
        · exact m46
        · exact m47
        · exact m48
        · simp at hi; omega)]
    clear hall m0 m1 m2 m3 m4 m5 m6 m7 m8 m9 m10 m11 m12 m13 m14 m15 m16 m17 m18 m19 m20 m21 m22 m23 m24 m25 m26 m27 m28 m29 m30 m31 m32 m33 m34 m35 m36 m37 m38 m39 m40 m41 m42 m43 m44 m45 m46 m47 m48
    simp only [putAll, Act.put, List.setIfInBounds_toArray, List.set_cons_succ, List.set_cons_zero]
    go_wp2_with fail
    go_ret
    exact ⟨rfl, HUP.out _ (HB6.out.trans (hbx.mono HB6.out.size))⟩
set_option maxRecDepth 100000 in
set_option maxHeartbeats 8000000 in
theorem tokenTells_bad (into : BS) (kind : Int) (nm : BS) (frm gd : Int) (o1 : Option Addr) (o2 o3 : Nat) (ol : List (BS × BS)) (ix ct : Int) (dt : BS) (sa sb sc sd : Int) (b1 : Option Addr) (b2 b3 : Nat) (bl : List BlkT) (at_ nx ua ub uc ud : Int) (done : Bool) (t : BS) (ht4 : t.length ≤ 4000000000) (hnm : nm.length ≤ 4000000000) (w0 : World) (B : Nat) (hro : Reads w0 B 2 o1 o2 (pcells ol)) (hol : o2 = ol.length) (hrb : Reads w0 B 2 b1 b2 (bcells bl)) (hbl : b2 = bl.length) (hB : B ≤ w0.heap.size)
    (hin : into.length ≤ 4000000000) (ho2 : o2 ≤ 1000000000000) (hb2 : b2 ≤ 1000000000000) (hp : ∀ p ∈ ol, p.1.length ≤ 4000000000 ∧ p.2.length ≤ 4000000000) (hmx : HasMax w0)
    (hno : (!(into == []) && pathB into && beginP kind nm frm gd ol ix ct dt ⟨sa, sb, sc, sd⟩ && okL bl && amt at_ 0 && amt nx 0) = false) :
    Calls Tryd.prog 6 #[.agg #[.string ⟨into.toArray⟩, .int .i64 kind, .string ⟨nm.toArray⟩, .int .i64 frm, .int .i64 gd, .slice o1 o2 o3, .int .i64 ix, .int .i64 ct, .string ⟨dt.toArray⟩, .int .u64 sa, .int .u64 sb, .int .u64 sc, .int .u64 sd, .slice b1 b2 b3, .int .i64 at_, .int .i64 nx, .int .u64 ua, .int .u64 ub, .int .u64 uc, .int .u64 ud, .bool done], .string ⟨t.toArray⟩] w0 fun e w' => e = .returned (.bool true) ∧ Below w0.heap.size w0 w' := by
  have hb1 := (Below.refl w0.heap.size w0).alloc (Nat.le_refl _) (.cells #[.string ⟨into.toArray⟩, .int .i64 kind, .string ⟨nm.toArray⟩, .int .i64 frm, .int .i64 gd, .slice o1 o2 o3, .int .i64 ix, .int .i64 ct, .string ⟨dt.toArray⟩, .int .u64 sa, .int .u64 sb, .int .u64 sc, .int .u64 sd, .slice b1 b2 b3, .int .i64 at_, .int .i64 nx, .int .u64 ua, .int .u64 ub, .int .u64 uc, .int .u64 ud, .bool done] 60)
  have kT := Blk.new w0 60 #[.string ⟨into.toArray⟩, .int .i64 kind, .string ⟨nm.toArray⟩, .int .i64 frm, .int .i64 gd, .slice o1 o2 o3, .int .i64 ix, .int .i64 ct, .string ⟨dt.toArray⟩, .int .u64 sa, .int .u64 sb, .int .u64 sc, .int .u64 sd, .slice b1 b2 b3, .int .i64 at_, .int .i64 nx, .int .u64 ua, .int .u64 ub, .int .u64 uc, .int .u64 ud, .bool done]
  obtain ⟨W1, hW1⟩ : ∃ W, W = w0.alloc (.cells #[.string ⟨into.toArray⟩, .int .i64 kind, .string ⟨nm.toArray⟩, .int .i64 frm, .int .i64 gd, .slice o1 o2 o3, .int .i64 ix, .int .i64 ct, .string ⟨dt.toArray⟩, .int .u64 sa, .int .u64 sb, .int .u64 sc, .int .u64 sd, .slice b1 b2 b3, .int .i64 at_, .int .i64 nx, .int .u64 ua, .int .u64 ub, .int .u64 uc, .int .u64 ud, .bool done] 60) := ⟨_, rfl⟩
  have hsz1 : W1.heap.size = w0.heap.size + 1 := by rw [hW1]; simp
  rw [← hW1] at hb1 kT
  have HLG : Hid (∀ W, Below W1.heap.size W1 W → ∀ (j : Nat) (v : Value), ([.string ⟨into.toArray⟩, .int .i64 kind, .string ⟨nm.toArray⟩, .int .i64 frm, .int .i64 gd, .slice o1 o2 o3, .int .i64 ix, .int .i64 ct, .string ⟨dt.toArray⟩, .int .u64 sa, .int .u64 sb, .int .u64 sc, .int .u64 sd, .slice b1 b2 b3, .int .i64 at_, .int .i64 nx, .int .u64 ua, .int .u64 ub, .int .u64 uc, .int .u64 ud, .bool done] : List Value)[j]? = some v → W.cell? ((⟨w0.heap.size, 0, none⟩ : Addr).add j) = some v) := by
    show ∀ W, _ → ∀ j v, _ → _
    intro W hb j v hj
    rw [addr_add0, (kT.below hb (by omega)).cell j, List.getElem?_toArray]
    exact hj
  have HT : Hid (∀ W, Below W1.heap.size W1 W → W.cell? ⟨w0.heap.size, 0, none⟩ = some (.string ⟨into.toArray⟩) ∧ W.cell? ⟨w0.heap.size, 4, none⟩ = some (.int .i64 gd) ∧ W.cell? ⟨w0.heap.size, 14, none⟩ = some (.int .i64 at_)) := by
    show ∀ W, _ → _
    intro W hb
    have k := kT.below hb (by omega)
    exact ⟨k.cell 0, k.cell 4, k.cell 14⟩
  have HB1 := Lib.hid hb1
  have HSZ1 := Lib.hid hsz1
  have HUP : Hid (∀ W, Below W1.heap.size W1 W → Below w0.heap.size w0 W) := fun W h => hb1.trans (h.mono (by omega))
  have HPR := Lib.hid (fun W (hb : Below W1.heap.size W1 W) => tprint_bad into kind nm frm gd o1 o2 o3 ol ix ct dt sa sb sc sd b1 b2 b3 bl at_ nx ua ub uc ud done W B (hro.below ((HUP.out _ hb).mono hB)) hol (hrb.below ((HUP.out _ hb).mono hB)) hbl (by have := (HUP.out _ hb).size; omega) hin ho2 hb2 hp (hmx.below (HUP.out _ hb)) hno)
  have HFI := Lib.hid (fun W (hb : Below W1.heap.size W1 W) => fits_bad into kind nm frm gd o1 o2 o3 ol ix ct dt sa sb sc sd b1 b2 b3 bl at_ nx ua ub uc ud done t W B (hro.below ((HUP.out _ hb).mono hB)) hol (hrb.below ((HUP.out _ hb).mono hB)) hbl (by have := (HUP.out _ hb).size; omega) hin ho2 hb2 hp (hmx.below (HUP.out _ hb)) hno)
  have HST : Hid (∀ W, Below W1.heap.size W1 W → Calls Tryd.prog 23 #[.agg #[.string ⟨into.toArray⟩, .int .i64 kind, .string ⟨nm.toArray⟩, .int .i64 frm, .int .i64 gd, .slice o1 o2 o3, .int .i64 ix, .int .i64 ct, .string ⟨dt.toArray⟩, .int .u64 sa, .int .u64 sb, .int .u64 sc, .int .u64 sd, .slice b1 b2 b3, .int .i64 at_, .int .i64 nx, .int .u64 ua, .int .u64 ub, .int .u64 uc, .int .u64 ud, .bool done]] W fun e w' => e = .returned (.bool false) ∧ Below W.heap.size W w') := by
    show ∀ W, _ → _
    intro W hb
    rw [← hno]
    exact refStage_any into kind nm frm gd o1 o2 o3 ol ix ct dt sa sb sc sd b1 b2 b3 bl at_ nx ua ub uc ud done W B (hro.below ((HUP.out W hb).mono hB)) hol (hrb.below ((HUP.out W hb).mono hB)) hbl (by have := (HUP.out W hb).size; omega) hin hnm ho2 hb2 hp
  have HMX := Lib.hid (fun W (hb : Below W1.heap.size W1 W) => hmx.below (HUP.out W hb))
  have HAL := Lib.hid (fun W (hb : Below W1.heap.size W1 W) => alive23_any W (HMX.out W hb))
  obtain ⟨⟨vp, vn, vg, vf⟩, hV⟩ : ∃ V, V = untokV t := ⟨_, rfl⟩
  have HPA : Hid (∀ W, Below W1.heap.size W1 W → Calls Tryd.prog 21 #[.string ⟨t.toArray⟩] W fun e w' => e = .returned (.tuple #[.string ⟨vp.toArray⟩, .int .i64 vn, .int .i64 vg, .int .i64 vf]) ∧ Below W.heap.size W w') := by
    show ∀ W, _ → _
    intro W hb
    refine (tparse_any ⟨t.toArray⟩ W (by show t.length ≤ _; exact ht4) (HMX.out W hb)).mono ?_
    rintro e w' ⟨rfl, hb'⟩
    refine ⟨?_, hb'⟩
    show Ending.returned (untokR (untokV t)) = _
    rw [← hV]
    rfl
  have HUN : Hid (∀ W, Calls Tryd.prog 22 #[.string ⟨t.toArray⟩] W fun e w' => e = .returned (.tuple #[.string ⟨vp.toArray⟩, .int .i64 vn, .int .i64 vg, .int .i64 vf]) ∧ Below W.heap.size W w') := by
    show ∀ W, _
    intro W
    refine (untoken_any ⟨t.toArray⟩ W (by show t.length ≤ _; exact ht4)).mono ?_
    rintro e w' ⟨rfl, hb'⟩
    refine ⟨?_, hb'⟩
    show Ending.returned (untokR (untokV t)) = _
    rw [← hV]
    rfl
  have HLD : Hid (∀ (j : Nat) (v : Value), ([.string ⟨into.toArray⟩, .int .i64 kind, .string ⟨nm.toArray⟩, .int .i64 frm, .int .i64 gd, .slice o1 o2 o3, .int .i64 ix, .int .i64 ct, .string ⟨dt.toArray⟩, .int .u64 sa, .int .u64 sb, .int .u64 sc, .int .u64 sd, .slice b1 b2 b3, .int .i64 at_, .int .i64 nx, .int .u64 ua, .int .u64 ub, .int .u64 uc, .int .u64 ud, .bool done] : List Value)[j]? = some v → (w0.alloc (.cells #[.string ⟨into.toArray⟩, .int .i64 kind, .string ⟨nm.toArray⟩, .int .i64 frm, .int .i64 gd, .slice o1 o2 o3, .int .i64 ix, .int .i64 ct, .string ⟨dt.toArray⟩, .int .u64 sa, .int .u64 sb, .int .u64 sc, .int .u64 sd, .slice b1 b2 b3, .int .i64 at_, .int .i64 nx, .int .u64 ua, .int .u64 ub, .int .u64 uc, .int .u64 ud, .bool done] 60)).cell? ((⟨w0.heap.size, 0, none⟩ : Addr).add j) = some v) := by
    show ∀ j v, _ → _
    rw [← hW1]
    exact HLG.out W1 (Below.refl _ _)
  have hpr := HPR.out W1 (Below.refl _ _)
  clear hsz1 kT hro hol hrb hbl hp hmx hno hb1 HMX hV HT
  go_enter Tryd.func6, Tryd.ntmps6
  go_wp2_with (refine wpList_load_at rfl 60 (.tmp 2) rfl ⟨w0.heap.size, 0, none⟩ rfl [.string ⟨into.toArray⟩, .int .i64 kind, .string ⟨nm.toArray⟩, .int .i64 frm, .int .i64 gd, .slice o1 o2 o3, .int .i64 ix, .int .i64 ct, .string ⟨dt.toArray⟩, .int .u64 sa, .int .u64 sb, .int .u64 sc, .int .u64 sd, .slice b1 b2 b3, .int .i64 at_, .int .i64 nx, .int .u64 ua, .int .u64 ub, .int .u64 uc, .int .u64 ud, .bool done] _ HLD.out Tryd.underlying60 rfl (by kernel_rfl) ?_)
  rw [← hW1]
  clear hW1
  refine hpr.mono ?_
  clear hpr
  rintro e w2 ⟨rfl, hb2'⟩
  have HB2 := Lib.hid hb2'
  clear hb2'
  go_wp2_with fail
  refine (HPA.out w2 HB2.out).mono ?_
  rintro e w3 ⟨rfl, hb3⟩
  have HB3 := Lib.hid (HB2.out.trans (hb3.mono HB2.out.size))
  clear hb3
  go_wp2_with fail
  refine (HUN.out w3).mono ?_
  rintro e w4 ⟨rfl, hb4⟩
  have HB4 := Lib.hid (HB3.out.trans (hb4.mono HB3.out.size))
  clear hb4
  go_wp2_with (refine wpList_load_at rfl 60 (.tmp 2) rfl ⟨w0.heap.size, 0, none⟩ rfl [.string ⟨into.toArray⟩, .int .i64 kind, .string ⟨nm.toArray⟩, .int .i64 frm, .int .i64 gd, .slice o1 o2 o3, .int .i64 ix, .int .i64 ct, .string ⟨dt.toArray⟩, .int .u64 sa, .int .u64 sb, .int .u64 sc, .int .u64 sd, .slice b1 b2 b3, .int .i64 at_, .int .i64 nx, .int .u64 ua, .int .u64 ub, .int .u64 uc, .int .u64 ud, .bool done] _ (HLG.out _ HB4.out) Tryd.underlying60 rfl (by kernel_rfl) ?_)
  refine (HST.out w4 HB4.out).mono ?_
  rintro e w5 ⟨rfl, hb5⟩
  have HB6 := Lib.hid (HB4.out.trans (hb5.mono HB4.out.size))
  clear hb5
  go_wp2_with fail
  refine wp_region_good2 (by kernel_rfl) (by kernel_rfl) [(fun v _ => v = .string ⟨#[]⟩),
    (fun v _ => v = .string ⟨#[]⟩),
    (fun v _ => v = .bool true),
    (fun v _ => v = .bool true),
    (fun v _ => v = .int .i64 9),
    (fun v _ => v = .int .i64 9),
    (fun v _ => v = .bool false),
    (fun v _ => v = .agg #[.string ⟨into.toArray⟩, .int .i64 kind, .string ⟨nm.toArray⟩, .int .i64 frm, .int .i64 gd, .slice o1 o2 o3, .int .i64 ix, .int .i64 ct, .string ⟨dt.toArray⟩, .int .u64 sa, .int .u64 sb, .int .u64 sc, .int .u64 sd, .slice b1 b2 b3, .int .i64 at_, .int .i64 nx, .int .u64 ua, .int .u64 ub, .int .u64 uc, .int .u64 ud, .bool done]),
    (fun v _ => v = .bool false),
    (fun v _ => v = .bool true),
    (fun v _ => v = .bool true),
    (fun v _ => v = .bool true),
    (fun v _ => v = .string ⟨vp.toArray⟩),
    (fun v _ => v = .string ⟨vp.toArray⟩),
    (fun v _ => v = .bool true),
    (fun v _ => v = .bool true),
    (fun v _ => v = .bool true),
    (fun v _ => v = .int .i64 vn),
    (fun v _ => v = .int .i64 vn),
    (fun v _ => v = .bool true),
    (fun v _ => v = .bool true),
    (fun v _ => v = .bool true),
    (fun v _ => v = .int .i64 vg),
    (fun v _ => v = .int .i64 vg),
    (fun v _ => v = .bool true),
    (fun v _ => v = .bool true),
    (fun v _ => v = .bool true),
    (fun v _ => v = .int .i64 vf),
    (fun v _ => v = .int .i64 vf),
    (fun v _ => v = .int .i64 vf),
    (fun v _ => v = .bool true),
    (fun v _ => v = .bool true),
    (fun v _ => v = .bool true),
    (fun v _ => v = .agg #[.string ⟨into.toArray⟩, .int .i64 kind, .string ⟨nm.toArray⟩, .int .i64 frm, .int .i64 gd, .slice o1 o2 o3, .int .i64 ix, .int .i64 ct, .string ⟨dt.toArray⟩, .int .u64 sa, .int .u64 sb, .int .u64 sc, .int .u64 sd, .slice b1 b2 b3, .int .i64 at_, .int .i64 nx, .int .u64 ua, .int .u64 ub, .int .u64 uc, .int .u64 ud, .bool done]),
    (fun v _ => v = .string ⟨t.toArray⟩),
    (fun v _ => v = .bool false),
    (fun v _ => v = .agg #[.string ⟨into.toArray⟩, .int .i64 kind, .string ⟨nm.toArray⟩, .int .i64 frm, .int .i64 gd, .slice o1 o2 o3, .int .i64 ix, .int .i64 ct, .string ⟨dt.toArray⟩, .int .u64 sa, .int .u64 sb, .int .u64 sc, .int .u64 sd, .slice b1 b2 b3, .int .i64 at_, .int .i64 nx, .int .u64 ua, .int .u64 ub, .int .u64 uc, .int .u64 ud, .bool done]),
    (fun v _ => v = .bool false),
    (fun v _ => v = .bool false),
    (fun v _ => v = undef),
    (fun v _ => v = undef),
    (fun v _ => v = undef),
    (fun v _ => v = .bool false),
    (fun v _ => v = .bool true),
    (fun v _ => v = .bool true),
    (fun v _ => v = .bool true),
    (fun v _ => v = .bool true),
    (fun v _ => v = .bool true),
    (fun v _ => v = .bool true)] ?_ ?_ ?_
  · repeat' (first | exact stays_nil | refine stays_cons ?_ ?_ | exact Stays.pure)
  · intro i oo ho m2 W hb0 hmi hcl hdeps AA KK hA hK
    rcases i with _ | _ | _ | _ | _ | _ | _ | _ | _ | _ | _ | _ | _ | _ | _ | _ | _ | _ | _ | _ | _ | _ | _ | _ | _ | _ | _ | _ | _ | _ | _ | _ | _ | _ | _ | _ | _ | _ | _ | _ | _ | _ | _ | _ | _ | _ | _ | _ | _ | i
    · injection ho with ho
      subst ho
      have ef5 : AA.tmps[5]?.getD undef = .string ⟨#[]⟩ := by rw [hA]; exact tmps_free (by kernel_rfl)
      clear hA hdeps hcl hmi
      have hK0 : KK (AA.put (some 39) _) _ := hK (.string ⟨#[]⟩) _ (Below.refl _ _) (Eq.refl _)
      clear hK
      go_simp
      exact hK0
    · injection ho with ho
      subst ho
      have ef15 : AA.tmps[15]?.getD undef = .string ⟨#[]⟩ := by rw [hA]; exact tmps_free (by kernel_rfl)
      clear hA hdeps hcl hmi
      have hK0 : KK (AA.put (some 40) _) _ := hK (.string ⟨#[]⟩) _ (Below.refl _ _) (Eq.refl _)
      clear hK
      go_simp
      exact hK0
    · injection ho with ho
      subst ho
      obtain ⟨x0, hx0, hg0⟩ := hdeps ⟨0, .data⟩ (by simp) rfl
      have hg0 : x0 = .string ⟨#[]⟩ := hg0
      subst hg0
      have e0 : AA.tmps[39]?.getD undef = .string ⟨#[]⟩ := by rw [hA]; exact tmps_own (by kernel_rfl) hx0 (of_decide_eq_true (by kernel_rfl))
      obtain ⟨x1, hx1, hg1⟩ := hdeps ⟨1, .data⟩ (by simp) rfl
      have hg1 : x1 = .string ⟨#[]⟩ := hg1
      subst hg1
      have e1 : AA.tmps[40]?.getD undef = .string ⟨#[]⟩ := by rw [hA]; exact tmps_own (by kernel_rfl) hx1 (of_decide_eq_true (by kernel_rfl))
      clear hA hdeps hcl hmi hx0 hx1
      have hK0 : KK (AA.put (some 41) _) _ := hK (.bool true) _ (Below.refl _ _) (Eq.refl _)
      clear hK
      go_simp
      exact hK0
    · injection ho with ho
      subst ho
      obtain ⟨x2, hx2, hg2⟩ := hdeps ⟨2, .data⟩ (by simp) rfl
      have hg2 : x2 = .bool true := hg2
      subst hg2
      have e2 : AA.tmps[41]?.getD undef = .bool true := by rw [hA]; exact tmps_own (by kernel_rfl) hx2 (of_decide_eq_true (by kernel_rfl))
      clear hA hdeps hcl hmi hx2
      have hK0 : KK (AA.put (some 42) _) _ := hK (.bool true) _ (Below.refl _ _) (Eq.refl _)
      clear hK
      go_simp
      exact hK0
    · injection ho with ho
      subst ho
      obtain ⟨x3, hx3, hg3⟩ := hdeps ⟨3, .guard⟩ (by simp) rfl
      have hg3 : x3 = .bool true := hg3
      subst hg3
      have e3 : AA.tmps[42]?.getD undef = .bool true := by rw [hA]; exact tmps_own (by kernel_rfl) hx3 (of_decide_eq_true (by kernel_rfl))
      have ef6 : AA.tmps[6]?.getD undef = .int .i64 9 := by rw [hA]; exact tmps_free (by kernel_rfl)
      clear hA hdeps hcl hmi hx3
      rw [if_pos (wanted_of (k := 42) rfl rfl e3)]
      have hK0 : KK (AA.put (some 43) _) _ := hK (.int .i64 9) _ (Below.refl _ _) (Eq.refl _)
      clear hK
      go_simp
      exact hK0
    · injection ho with ho
      subst ho
      obtain ⟨x3, hx3, hg3⟩ := hdeps ⟨3, .guard⟩ (by simp) rfl
      have hg3 : x3 = .bool true := hg3
      subst hg3
      have e3 : AA.tmps[42]?.getD undef = .bool true := by rw [hA]; exact tmps_own (by kernel_rfl) hx3 (of_decide_eq_true (by kernel_rfl))
      obtain ⟨x4, hx4, hg4⟩ := hdeps ⟨4, .data⟩ (by simp) rfl
      have hg4 : x4 = .int .i64 9 := hg4
      subst hg4
      have e4 : AA.tmps[43]?.getD undef = .int .i64 9 := by rw [hA]; exact tmps_own (by kernel_rfl) hx4 (of_decide_eq_true (by kernel_rfl))
      clear hA hdeps hcl hmi hx3 hx4
      rw [if_pos (wanted_of (k := 42) rfl rfl e3)]
      have hKK := Lib.hid hK
      clear hK
      go_simp
      refine (num23_any _ _).mono ?_
      rintro e w5 ⟨rfl, hw5⟩
      rw [hw5]
      exact hKK.out _ _ (Below.refl _ _) (Eq.refl _)
    · injection ho with ho
      subst ho
      obtain ⟨x3, hx3, hg3⟩ := hdeps ⟨3, .guard⟩ (by simp) rfl
      have hg3 : x3 = .bool true := hg3
      subst hg3
      have e3 : AA.tmps[42]?.getD undef = .bool true := by rw [hA]; exact tmps_own (by kernel_rfl) hx3 (of_decide_eq_true (by kernel_rfl))
      obtain ⟨x5, hx5, hg5⟩ := hdeps ⟨5, .data⟩ (by simp) rfl
      have hg5 : x5 = .int .i64 9 := hg5
      subst hg5
      have e5 : AA.tmps[44]?.getD undef = .int .i64 9 := by rw [hA]; exact tmps_own (by kernel_rfl) hx5 (of_decide_eq_true (by kernel_rfl))
      clear hA hdeps hcl hmi hx3 hx5
      rw [if_pos (wanted_of (k := 42) rfl rfl e3)]
      have hK0 : KK (AA.put (some 45) _) _ := hK (.bool false) _ (Below.refl _ _) (Eq.refl _)
      clear hK
      go_simp
      exact hK0
    · injection ho with ho
      subst ho
      obtain ⟨x3, hx3, hg3⟩ := hdeps ⟨3, .guard⟩ (by simp) rfl
      have hg3 : x3 = .bool true := hg3
      subst hg3
      have e3 : AA.tmps[42]?.getD undef = .bool true := by rw [hA]; exact tmps_own (by kernel_rfl) hx3 (of_decide_eq_true (by kernel_rfl))
      have ef2 : AA.tmps[2]?.getD undef = .pointer (some ⟨w0.heap.size, 0, none⟩) := by rw [hA]; exact tmps_free (by kernel_rfl)
      clear hA hdeps hcl hmi hx3
      rw [if_pos (wanted_of (k := 42) rfl rfl e3)]
      have hK0 : KK (AA.put (some 46) _) _ := hK (.agg #[.string ⟨into.toArray⟩, .int .i64 kind, .string ⟨nm.toArray⟩, .int .i64 frm, .int .i64 gd, .slice o1 o2 o3, .int .i64 ix, .int .i64 ct, .string ⟨dt.toArray⟩, .int .u64 sa, .int .u64 sb, .int .u64 sc, .int .u64 sd, .slice b1 b2 b3, .int .i64 at_, .int .i64 nx, .int .u64 ua, .int .u64 ub, .int .u64 uc, .int .u64 ud, .bool done]) _ (Below.refl _ _) (Eq.refl _)
      clear hK
      exact operwp_load_at 60 (.tmp 2) rfl ⟨w0.heap.size, 0, none⟩ (by unfold Act.eval; simpa using ef2) [.string ⟨into.toArray⟩, .int .i64 kind, .string ⟨nm.toArray⟩, .int .i64 frm, .int .i64 gd, .slice o1 o2 o3, .int .i64 ix, .int .i64 ct, .string ⟨dt.toArray⟩, .int .u64 sa, .int .u64 sb, .int .u64 sc, .int .u64 sd, .slice b1 b2 b3, .int .i64 at_, .int .i64 nx, .int .u64 ua, .int .u64 ub, .int .u64 uc, .int .u64 ud, .bool done] _ (HLG.out W (HB6.out.trans (hb0.mono HB6.out.size))) Tryd.underlying60 rfl (by kernel_rfl) hK0
    · injection ho with ho
      subst ho
      obtain ⟨x3, hx3, hg3⟩ := hdeps ⟨3, .guard⟩ (by simp) rfl
      have hg3 : x3 = .bool true := hg3
      subst hg3
      have e3 : AA.tmps[42]?.getD undef = .bool true := by rw [hA]; exact tmps_own (by kernel_rfl) hx3 (of_decide_eq_true (by kernel_rfl))
      obtain ⟨x7, hx7, hg7⟩ := hdeps ⟨7, .data⟩ (by simp) rfl
      have hg7 : x7 = .agg #[.string ⟨into.toArray⟩, .int .i64 kind, .string ⟨nm.toArray⟩, .int .i64 frm, .int .i64 gd, .slice o1 o2 o3, .int .i64 ix, .int .i64 ct, .string ⟨dt.toArray⟩, .int .u64 sa, .int .u64 sb, .int .u64 sc, .int .u64 sd, .slice b1 b2 b3, .int .i64 at_, .int .i64 nx, .int .u64 ua, .int .u64 ub, .int .u64 uc, .int .u64 ud, .bool done] := hg7
      subst hg7
      have e7 : AA.tmps[46]?.getD undef = .agg #[.string ⟨into.toArray⟩, .int .i64 kind, .string ⟨nm.toArray⟩, .int .i64 frm, .int .i64 gd, .slice o1 o2 o3, .int .i64 ix, .int .i64 ct, .string ⟨dt.toArray⟩, .int .u64 sa, .int .u64 sb, .int .u64 sc, .int .u64 sd, .slice b1 b2 b3, .int .i64 at_, .int .i64 nx, .int .u64 ua, .int .u64 ub, .int .u64 uc, .int .u64 ud, .bool done] := by rw [hA]; exact tmps_own (by kernel_rfl) hx7 (of_decide_eq_true (by kernel_rfl))
      clear hA hdeps hcl hmi hx3 hx7
      rw [if_pos (wanted_of (k := 42) rfl rfl e3)]
      have hKK := Lib.hid hK
      clear hK
      go_simp
      refine (HST.out W (HB6.out.trans (hb0.mono HB6.out.size))).mono ?_
      rintro e w5 ⟨rfl, hbn⟩
      exact hKK.out _ _ hbn (Eq.refl _)
    · injection ho with ho
      subst ho
      obtain ⟨x3, hx3, hg3⟩ := hdeps ⟨3, .guard⟩ (by simp) rfl
      have hg3 : x3 = .bool true := hg3
      subst hg3
      have e3 : AA.tmps[42]?.getD undef = .bool true := by rw [hA]; exact tmps_own (by kernel_rfl) hx3 (of_decide_eq_true (by kernel_rfl))
      obtain ⟨x6, hx6, hg6⟩ := hdeps ⟨6, .data⟩ (by simp) rfl
      have hg6 : x6 = .bool false := hg6
      subst hg6
      have e6 : AA.tmps[45]?.getD undef = .bool false := by rw [hA]; exact tmps_own (by kernel_rfl) hx6 (of_decide_eq_true (by kernel_rfl))
      obtain ⟨x8, hx8, hg8⟩ := hdeps ⟨8, .data⟩ (by simp) rfl
      have hg8 : x8 = .bool false := hg8
      subst hg8
      have e8 : AA.tmps[47]?.getD undef = .bool false := by rw [hA]; exact tmps_own (by kernel_rfl) hx8 (of_decide_eq_true (by kernel_rfl))
      clear hA hdeps hcl hmi hx3 hx6 hx8
      rw [if_pos (wanted_of (k := 42) rfl rfl e3)]
      have hK0 : KK (AA.put (some 48) _) _ := hK (.bool true) _ (Below.refl _ _) (Eq.refl _)
      clear hK
      go_simp
      exact hK0
    · injection ho with ho
      subst ho
      obtain ⟨x3, hx3, hg3⟩ := hdeps ⟨3, .data⟩ (by simp) rfl
      have hg3 : x3 = .bool true := hg3
      subst hg3
      have e3 : AA.tmps[42]?.getD undef = .bool true := by rw [hA]; exact tmps_own (by kernel_rfl) hx3 (of_decide_eq_true (by kernel_rfl))
      obtain ⟨x9, hx9, hg9⟩ := hdeps ⟨9, .data⟩ (by simp) rfl
      have hg9 : x9 = .bool true := hg9
      subst hg9
      have e9 : AA.tmps[48]?.getD undef = .bool true := by rw [hA]; exact tmps_own (by kernel_rfl) hx9 (of_decide_eq_true (by kernel_rfl))
      clear hA hdeps hcl hmi hx3 hx9
      have hK0 : KK (AA.put (some 49) _) _ := hK (.bool true) _ (Below.refl _ _) (Eq.refl _)
      clear hK
      go_simp
      exact hK0
    · injection ho with ho
      subst ho
      obtain ⟨x10, hx10, hg10⟩ := hdeps ⟨10, .data⟩ (by simp) rfl
      have hg10 : x10 = .bool true := hg10
      subst hg10
      have e10 : AA.tmps[49]?.getD undef = .bool true := by rw [hA]; exact tmps_own (by kernel_rfl) hx10 (of_decide_eq_true (by kernel_rfl))
      clear hA hdeps hcl hmi hx10
      have hK0 : KK (AA.put (some 50) _) _ := hK (.bool true) _ (Below.refl _ _) (Eq.refl _)
      clear hK
      go_simp
      exact hK0
    · injection ho with ho
      subst ho
      obtain ⟨x11, hx11, hg11⟩ := hdeps ⟨11, .guard⟩ (by simp) rfl
      have hg11 : x11 = .bool true := hg11
      subst hg11
      have e11 : AA.tmps[50]?.getD undef = .bool true := by rw [hA]; exact tmps_own (by kernel_rfl) hx11 (of_decide_eq_true (by kernel_rfl))
      have ef7 : AA.tmps[7]?.getD undef = .string ⟨vp.toArray⟩ := by rw [hA]; exact tmps_free (by kernel_rfl)
      clear hA hdeps hcl hmi hx11
      rw [if_pos (wanted_of (k := 50) rfl rfl e11)]
      have hK0 : KK (AA.put (some 51) _) _ := hK (.string ⟨vp.toArray⟩) _ (Below.refl _ _) (Eq.refl _)
      clear hK
      go_simp
      exact hK0
    · injection ho with ho
      subst ho
      obtain ⟨x11, hx11, hg11⟩ := hdeps ⟨11, .guard⟩ (by simp) rfl
      have hg11 : x11 = .bool true := hg11
      subst hg11
      have e11 : AA.tmps[50]?.getD undef = .bool true := by rw [hA]; exact tmps_own (by kernel_rfl) hx11 (of_decide_eq_true (by kernel_rfl))
      have ef11 : AA.tmps[11]?.getD undef = .string ⟨vp.toArray⟩ := by rw [hA]; exact tmps_free (by kernel_rfl)
      clear hA hdeps hcl hmi hx11
      rw [if_pos (wanted_of (k := 50) rfl rfl e11)]
      have hK0 : KK (AA.put (some 52) _) _ := hK (.string ⟨vp.toArray⟩) _ (Below.refl _ _) (Eq.refl _)
      clear hK
      go_simp
      exact hK0
    · injection ho with ho
      subst ho
      obtain ⟨x11, hx11, hg11⟩ := hdeps ⟨11, .guard⟩ (by simp) rfl
      have hg11 : x11 = .bool true := hg11
      subst hg11
      have e11 : AA.tmps[50]?.getD undef = .bool true := by rw [hA]; exact tmps_own (by kernel_rfl) hx11 (of_decide_eq_true (by kernel_rfl))
      obtain ⟨x12, hx12, hg12⟩ := hdeps ⟨12, .data⟩ (by simp) rfl
      have hg12 : x12 = .string ⟨vp.toArray⟩ := hg12
      subst hg12
      have e12 : AA.tmps[51]?.getD undef = .string ⟨vp.toArray⟩ := by rw [hA]; exact tmps_own (by kernel_rfl) hx12 (of_decide_eq_true (by kernel_rfl))
      obtain ⟨x13, hx13, hg13⟩ := hdeps ⟨13, .data⟩ (by simp) rfl
      have hg13 : x13 = .string ⟨vp.toArray⟩ := hg13
      subst hg13
      have e13 : AA.tmps[52]?.getD undef = .string ⟨vp.toArray⟩ := by rw [hA]; exact tmps_own (by kernel_rfl) hx13 (of_decide_eq_true (by kernel_rfl))
      clear hA hdeps hcl hmi hx11 hx12 hx13
      rw [if_pos (wanted_of (k := 50) rfl rfl e11)]
      have hK0 : KK (AA.put (some 53) _) _ := hK (.bool true) _ (Below.refl _ _) (Eq.refl _)
      clear hK
      go_simp
      exact hK0
    · injection ho with ho
      subst ho
      obtain ⟨x11, hx11, hg11⟩ := hdeps ⟨11, .data⟩ (by simp) rfl
      have hg11 : x11 = .bool true := hg11
      subst hg11
      have e11 : AA.tmps[50]?.getD undef = .bool true := by rw [hA]; exact tmps_own (by kernel_rfl) hx11 (of_decide_eq_true (by kernel_rfl))
      obtain ⟨x14, hx14, hg14⟩ := hdeps ⟨14, .data⟩ (by simp) rfl
      have hg14 : x14 = .bool true := hg14
      subst hg14
      have e14 : AA.tmps[53]?.getD undef = .bool true := by rw [hA]; exact tmps_own (by kernel_rfl) hx14 (of_decide_eq_true (by kernel_rfl))
      clear hA hdeps hcl hmi hx11 hx14
      have hK0 : KK (AA.put (some 54) _) _ := hK (.bool true) _ (Below.refl _ _) (Eq.refl _)
      clear hK
      go_simp
      exact hK0
    · injection ho with ho
      subst ho
      obtain ⟨x15, hx15, hg15⟩ := hdeps ⟨15, .data⟩ (by simp) rfl
      have hg15 : x15 = .bool true := hg15
      subst hg15
      have e15 : AA.tmps[54]?.getD undef = .bool true := by rw [hA]; exact tmps_own (by kernel_rfl) hx15 (of_decide_eq_true (by kernel_rfl))
      clear hA hdeps hcl hmi hx15
      have hK0 : KK (AA.put (some 55) _) _ := hK (.bool true) _ (Below.refl _ _) (Eq.refl _)
      clear hK
      go_simp
      exact hK0
    · injection ho with ho
      subst ho
      obtain ⟨x16, hx16, hg16⟩ := hdeps ⟨16, .guard⟩ (by simp) rfl
      have hg16 : x16 = .bool true := hg16
      subst hg16
      have e16 : AA.tmps[55]?.getD undef = .bool true := by rw [hA]; exact tmps_own (by kernel_rfl) hx16 (of_decide_eq_true (by kernel_rfl))
      have ef8 : AA.tmps[8]?.getD undef = .int .i64 vn := by rw [hA]; exact tmps_free (by kernel_rfl)
      clear hA hdeps hcl hmi hx16
      rw [if_pos (wanted_of (k := 55) rfl rfl e16)]
      have hK0 : KK (AA.put (some 56) _) _ := hK (.int .i64 vn) _ (Below.refl _ _) (Eq.refl _)
      clear hK
      go_simp
      exact hK0
    · injection ho with ho
      subst ho
      obtain ⟨x16, hx16, hg16⟩ := hdeps ⟨16, .guard⟩ (by simp) rfl
      have hg16 : x16 = .bool true := hg16
      subst hg16
      have e16 : AA.tmps[55]?.getD undef = .bool true := by rw [hA]; exact tmps_own (by kernel_rfl) hx16 (of_decide_eq_true (by kernel_rfl))
      have ef12 : AA.tmps[12]?.getD undef = .int .i64 vn := by rw [hA]; exact tmps_free (by kernel_rfl)
      clear hA hdeps hcl hmi hx16
      rw [if_pos (wanted_of (k := 55) rfl rfl e16)]
      have hK0 : KK (AA.put (some 57) _) _ := hK (.int .i64 vn) _ (Below.refl _ _) (Eq.refl _)
      clear hK
      go_simp
      exact hK0
    · injection ho with ho
      subst ho
      obtain ⟨x16, hx16, hg16⟩ := hdeps ⟨16, .guard⟩ (by simp) rfl
      have hg16 : x16 = .bool true := hg16
      subst hg16
      have e16 : AA.tmps[55]?.getD undef = .bool true := by rw [hA]; exact tmps_own (by kernel_rfl) hx16 (of_decide_eq_true (by kernel_rfl))
      obtain ⟨x17, hx17, hg17⟩ := hdeps ⟨17, .data⟩ (by simp) rfl
      have hg17 : x17 = .int .i64 vn := hg17
      subst hg17
      have e17 : AA.tmps[56]?.getD undef = .int .i64 vn := by rw [hA]; exact tmps_own (by kernel_rfl) hx17 (of_decide_eq_true (by kernel_rfl))
      obtain ⟨x18, hx18, hg18⟩ := hdeps ⟨18, .data⟩ (by simp) rfl
      have hg18 : x18 = .int .i64 vn := hg18
      subst hg18
      have e18 : AA.tmps[57]?.getD undef = .int .i64 vn := by rw [hA]; exact tmps_own (by kernel_rfl) hx18 (of_decide_eq_true (by kernel_rfl))
      clear hA hdeps hcl hmi hx16 hx17 hx18
      rw [if_pos (wanted_of (k := 55) rfl rfl e16)]
      have hK0 : KK (AA.put (some 58) _) _ := hK (.bool true) _ (Below.refl _ _) (Eq.refl _)
      clear hK
      go_simp
      exact hK0
    · injection ho with ho
      subst ho
      obtain ⟨x16, hx16, hg16⟩ := hdeps ⟨16, .data⟩ (by simp) rfl
      have hg16 : x16 = .bool true := hg16
      subst hg16
      have e16 : AA.tmps[55]?.getD undef = .bool true := by rw [hA]; exact tmps_own (by kernel_rfl) hx16 (of_decide_eq_true (by kernel_rfl))
      obtain ⟨x19, hx19, hg19⟩ := hdeps ⟨19, .data⟩ (by simp) rfl
      have hg19 : x19 = .bool true := hg19
      subst hg19
      have e19 : AA.tmps[58]?.getD undef = .bool true := by rw [hA]; exact tmps_own (by kernel_rfl) hx19 (of_decide_eq_true (by kernel_rfl))
      clear hA hdeps hcl hmi hx16 hx19
      have hK0 : KK (AA.put (some 59) _) _ := hK (.bool true) _ (Below.refl _ _) (Eq.refl _)
      clear hK
      go_simp
      exact hK0
    · injection ho with ho
      subst ho
      obtain ⟨x20, hx20, hg20⟩ := hdeps ⟨20, .data⟩ (by simp) rfl
      have hg20 : x20 = .bool true := hg20
      subst hg20
      have e20 : AA.tmps[59]?.getD undef = .bool true := by rw [hA]; exact tmps_own (by kernel_rfl) hx20 (of_decide_eq_true (by kernel_rfl))
      clear hA hdeps hcl hmi hx20
      have hK0 : KK (AA.put (some 60) _) _ := hK (.bool true) _ (Below.refl _ _) (Eq.refl _)
      clear hK
      go_simp
      exact hK0
    · injection ho with ho
      subst ho
      obtain ⟨x21, hx21, hg21⟩ := hdeps ⟨21, .guard⟩ (by simp) rfl
      have hg21 : x21 = .bool true := hg21
      subst hg21
      have e21 : AA.tmps[60]?.getD undef = .bool true := by rw [hA]; exact tmps_own (by kernel_rfl) hx21 (of_decide_eq_true (by kernel_rfl))
      have ef9 : AA.tmps[9]?.getD undef = .int .i64 vg := by rw [hA]; exact tmps_free (by kernel_rfl)
      clear hA hdeps hcl hmi hx21
      rw [if_pos (wanted_of (k := 60) rfl rfl e21)]
      have hK0 : KK (AA.put (some 61) _) _ := hK (.int .i64 vg) _ (Below.refl _ _) (Eq.refl _)
      clear hK
      go_simp
      exact hK0
    · injection ho with ho
      subst ho
      obtain ⟨x21, hx21, hg21⟩ := hdeps ⟨21, .guard⟩ (by simp) rfl
      have hg21 : x21 = .bool true := hg21
      subst hg21
      have e21 : AA.tmps[60]?.getD undef = .bool true := by rw [hA]; exact tmps_own (by kernel_rfl) hx21 (of_decide_eq_true (by kernel_rfl))
      have ef13 : AA.tmps[13]?.getD undef = .int .i64 vg := by rw [hA]; exact tmps_free (by kernel_rfl)
      clear hA hdeps hcl hmi hx21
      rw [if_pos (wanted_of (k := 60) rfl rfl e21)]
      have hK0 : KK (AA.put (some 62) _) _ := hK (.int .i64 vg) _ (Below.refl _ _) (Eq.refl _)
      clear hK
      go_simp
      exact hK0
    · injection ho with ho
      subst ho
      obtain ⟨x21, hx21, hg21⟩ := hdeps ⟨21, .guard⟩ (by simp) rfl
      have hg21 : x21 = .bool true := hg21
      subst hg21
      have e21 : AA.tmps[60]?.getD undef = .bool true := by rw [hA]; exact tmps_own (by kernel_rfl) hx21 (of_decide_eq_true (by kernel_rfl))
      obtain ⟨x22, hx22, hg22⟩ := hdeps ⟨22, .data⟩ (by simp) rfl
      have hg22 : x22 = .int .i64 vg := hg22
      subst hg22
      have e22 : AA.tmps[61]?.getD undef = .int .i64 vg := by rw [hA]; exact tmps_own (by kernel_rfl) hx22 (of_decide_eq_true (by kernel_rfl))
      obtain ⟨x23, hx23, hg23⟩ := hdeps ⟨23, .data⟩ (by simp) rfl
      have hg23 : x23 = .int .i64 vg := hg23
      subst hg23
      have e23 : AA.tmps[62]?.getD undef = .int .i64 vg := by rw [hA]; exact tmps_own (by kernel_rfl) hx23 (of_decide_eq_true (by kernel_rfl))
      clear hA hdeps hcl hmi hx21 hx22 hx23
      rw [if_pos (wanted_of (k := 60) rfl rfl e21)]
      have hK0 : KK (AA.put (some 63) _) _ := hK (.bool true) _ (Below.refl _ _) (Eq.refl _)
      clear hK
      go_simp
      exact hK0
    · injection ho with ho
      subst ho
      obtain ⟨x21, hx21, hg21⟩ := hdeps ⟨21, .data⟩ (by simp) rfl
      have hg21 : x21 = .bool true := hg21
      subst hg21
      have e21 : AA.tmps[60]?.getD undef = .bool true := by rw [hA]; exact tmps_own (by kernel_rfl) hx21 (of_decide_eq_true (by kernel_rfl))
      obtain ⟨x24, hx24, hg24⟩ := hdeps ⟨24, .data⟩ (by simp) rfl
      have hg24 : x24 = .bool true := hg24
      subst hg24
      have e24 : AA.tmps[63]?.getD undef = .bool true := by rw [hA]; exact tmps_own (by kernel_rfl) hx24 (of_decide_eq_true (by kernel_rfl))
      clear hA hdeps hcl hmi hx21 hx24
      have hK0 : KK (AA.put (some 64) _) _ := hK (.bool true) _ (Below.refl _ _) (Eq.refl _)
      clear hK
      go_simp
      exact hK0
    · injection ho with ho
      subst ho
      obtain ⟨x25, hx25, hg25⟩ := hdeps ⟨25, .data⟩ (by simp) rfl
      have hg25 : x25 = .bool true := hg25
      subst hg25
      have e25 : AA.tmps[64]?.getD undef = .bool true := by rw [hA]; exact tmps_own (by kernel_rfl) hx25 (of_decide_eq_true (by kernel_rfl))
      clear hA hdeps hcl hmi hx25
      have hK0 : KK (AA.put (some 65) _) _ := hK (.bool true) _ (Below.refl _ _) (Eq.refl _)
      clear hK
      go_simp
      exact hK0
    · injection ho with ho
      subst ho
      obtain ⟨x26, hx26, hg26⟩ := hdeps ⟨26, .guard⟩ (by simp) rfl
      have hg26 : x26 = .bool true := hg26
      subst hg26
      have e26 : AA.tmps[65]?.getD undef = .bool true := by rw [hA]; exact tmps_own (by kernel_rfl) hx26 (of_decide_eq_true (by kernel_rfl))
      have ef10 : AA.tmps[10]?.getD undef = .int .i64 vf := by rw [hA]; exact tmps_free (by kernel_rfl)
      clear hA hdeps hcl hmi hx26
      rw [if_pos (wanted_of (k := 65) rfl rfl e26)]
      have hK0 : KK (AA.put (some 66) _) _ := hK (.int .i64 vf) _ (Below.refl _ _) (Eq.refl _)
      clear hK
      go_simp
      exact hK0
    · injection ho with ho
      subst ho
      obtain ⟨x26, hx26, hg26⟩ := hdeps ⟨26, .guard⟩ (by simp) rfl
      have hg26 : x26 = .bool true := hg26
      subst hg26
      have e26 : AA.tmps[65]?.getD undef = .bool true := by rw [hA]; exact tmps_own (by kernel_rfl) hx26 (of_decide_eq_true (by kernel_rfl))
      obtain ⟨x27, hx27, hg27⟩ := hdeps ⟨27, .data⟩ (by simp) rfl
      have hg27 : x27 = .int .i64 vf := hg27
      subst hg27
      have e27 : AA.tmps[66]?.getD undef = .int .i64 vf := by rw [hA]; exact tmps_own (by kernel_rfl) hx27 (of_decide_eq_true (by kernel_rfl))
      clear hA hdeps hcl hmi hx26 hx27
      rw [if_pos (wanted_of (k := 65) rfl rfl e26)]
      have hKK := Lib.hid hK
      clear hK
      go_simp
      refine (num23_any _ _).mono ?_
      rintro e w5 ⟨rfl, hw5⟩
      rw [hw5]
      exact hKK.out _ _ (Below.refl _ _) (Eq.refl _)
    · injection ho with ho
      subst ho
      obtain ⟨x26, hx26, hg26⟩ := hdeps ⟨26, .guard⟩ (by simp) rfl
      have hg26 : x26 = .bool true := hg26
      subst hg26
      have e26 : AA.tmps[65]?.getD undef = .bool true := by rw [hA]; exact tmps_own (by kernel_rfl) hx26 (of_decide_eq_true (by kernel_rfl))
      have ef14 : AA.tmps[14]?.getD undef = .int .i64 vf := by rw [hA]; exact tmps_free (by kernel_rfl)
      clear hA hdeps hcl hmi hx26
      rw [if_pos (wanted_of (k := 65) rfl rfl e26)]
      have hK0 : KK (AA.put (some 68) _) _ := hK (.int .i64 vf) _ (Below.refl _ _) (Eq.refl _)
      clear hK
      go_simp
      exact hK0
    · injection ho with ho
      subst ho
      obtain ⟨x26, hx26, hg26⟩ := hdeps ⟨26, .guard⟩ (by simp) rfl
      have hg26 : x26 = .bool true := hg26
      subst hg26
      have e26 : AA.tmps[65]?.getD undef = .bool true := by rw [hA]; exact tmps_own (by kernel_rfl) hx26 (of_decide_eq_true (by kernel_rfl))
      obtain ⟨x28, hx28, hg28⟩ := hdeps ⟨28, .data⟩ (by simp) rfl
      have hg28 : x28 = .int .i64 vf := hg28
      subst hg28
      have e28 : AA.tmps[67]?.getD undef = .int .i64 vf := by rw [hA]; exact tmps_own (by kernel_rfl) hx28 (of_decide_eq_true (by kernel_rfl))
      obtain ⟨x29, hx29, hg29⟩ := hdeps ⟨29, .data⟩ (by simp) rfl
      have hg29 : x29 = .int .i64 vf := hg29
      subst hg29
      have e29 : AA.tmps[68]?.getD undef = .int .i64 vf := by rw [hA]; exact tmps_own (by kernel_rfl) hx29 (of_decide_eq_true (by kernel_rfl))
      clear hA hdeps hcl hmi hx26 hx28 hx29
      rw [if_pos (wanted_of (k := 65) rfl rfl e26)]
      have hK0 : KK (AA.put (some 69) _) _ := hK (.bool true) _ (Below.refl _ _) (Eq.refl _)
      clear hK
      go_simp
      exact hK0
    · injection ho with ho
      subst ho
      obtain ⟨x26, hx26, hg26⟩ := hdeps ⟨26, .data⟩ (by simp) rfl
      have hg26 : x26 = .bool true := hg26
      subst hg26
      have e26 : AA.tmps[65]?.getD undef = .bool true := by rw [hA]; exact tmps_own (by kernel_rfl) hx26 (of_decide_eq_true (by kernel_rfl))
      obtain ⟨x30, hx30, hg30⟩ := hdeps ⟨30, .data⟩ (by simp) rfl
      have hg30 : x30 = .bool true := hg30
      subst hg30
      have e30 : AA.tmps[69]?.getD undef = .bool true := by rw [hA]; exact tmps_own (by kernel_rfl) hx30 (of_decide_eq_true (by kernel_rfl))
      clear hA hdeps hcl hmi hx26 hx30
      have hK0 : KK (AA.put (some 70) _) _ := hK (.bool true) _ (Below.refl _ _) (Eq.refl _)
      clear hK
      go_simp
      exact hK0
    · injection ho with ho
      subst ho
      obtain ⟨x31, hx31, hg31⟩ := hdeps ⟨31, .data⟩ (by simp) rfl
      have hg31 : x31 = .bool true := hg31
      subst hg31
      have e31 : AA.tmps[70]?.getD undef = .bool true := by rw [hA]; exact tmps_own (by kernel_rfl) hx31 (of_decide_eq_true (by kernel_rfl))
      clear hA hdeps hcl hmi hx31
      have hK0 : KK (AA.put (some 71) _) _ := hK (.bool true) _ (Below.refl _ _) (Eq.refl _)
      clear hK
      go_simp
      exact hK0
    · injection ho with ho
      subst ho
      obtain ⟨x32, hx32, hg32⟩ := hdeps ⟨32, .guard⟩ (by simp) rfl
      have hg32 : x32 = .bool true := hg32
      subst hg32
      have e32 : AA.tmps[71]?.getD undef = .bool true := by rw [hA]; exact tmps_own (by kernel_rfl) hx32 (of_decide_eq_true (by kernel_rfl))
      have ef2 : AA.tmps[2]?.getD undef = .pointer (some ⟨w0.heap.size, 0, none⟩) := by rw [hA]; exact tmps_free (by kernel_rfl)
      clear hA hdeps hcl hmi hx32
      rw [if_pos (wanted_of (k := 71) rfl rfl e32)]
      have hK0 : KK (AA.put (some 72) _) _ := hK (.agg #[.string ⟨into.toArray⟩, .int .i64 kind, .string ⟨nm.toArray⟩, .int .i64 frm, .int .i64 gd, .slice o1 o2 o3, .int .i64 ix, .int .i64 ct, .string ⟨dt.toArray⟩, .int .u64 sa, .int .u64 sb, .int .u64 sc, .int .u64 sd, .slice b1 b2 b3, .int .i64 at_, .int .i64 nx, .int .u64 ua, .int .u64 ub, .int .u64 uc, .int .u64 ud, .bool done]) _ (Below.refl _ _) (Eq.refl _)
      clear hK
      exact operwp_load_at 60 (.tmp 2) rfl ⟨w0.heap.size, 0, none⟩ (by unfold Act.eval; simpa using ef2) [.string ⟨into.toArray⟩, .int .i64 kind, .string ⟨nm.toArray⟩, .int .i64 frm, .int .i64 gd, .slice o1 o2 o3, .int .i64 ix, .int .i64 ct, .string ⟨dt.toArray⟩, .int .u64 sa, .int .u64 sb, .int .u64 sc, .int .u64 sd, .slice b1 b2 b3, .int .i64 at_, .int .i64 nx, .int .u64 ua, .int .u64 ub, .int .u64 uc, .int .u64 ud, .bool done] _ (HLG.out W (HB6.out.trans (hb0.mono HB6.out.size))) Tryd.underlying60 rfl (by kernel_rfl) hK0
    · injection ho with ho
      subst ho
      obtain ⟨x32, hx32, hg32⟩ := hdeps ⟨32, .guard⟩ (by simp) rfl
      have hg32 : x32 = .bool true := hg32
      subst hg32
      have e32 : AA.tmps[71]?.getD undef = .bool true := by rw [hA]; exact tmps_own (by kernel_rfl) hx32 (of_decide_eq_true (by kernel_rfl))
      have ef1 : AA.tmps[1]?.getD undef = .string ⟨t.toArray⟩ := by rw [hA]; exact tmps_free (by kernel_rfl)
      clear hA hdeps hcl hmi hx32
      rw [if_pos (wanted_of (k := 71) rfl rfl e32)]
      have hK0 : KK (AA.put (some 73) _) _ := hK (.string ⟨t.toArray⟩) _ (Below.refl _ _) (Eq.refl _)
      clear hK
      go_simp
      exact hK0
    · injection ho with ho
      subst ho
      obtain ⟨x32, hx32, hg32⟩ := hdeps ⟨32, .guard⟩ (by simp) rfl
      have hg32 : x32 = .bool true := hg32
      subst hg32
      have e32 : AA.tmps[71]?.getD undef = .bool true := by rw [hA]; exact tmps_own (by kernel_rfl) hx32 (of_decide_eq_true (by kernel_rfl))
      obtain ⟨x33, hx33, hg33⟩ := hdeps ⟨33, .data⟩ (by simp) rfl
      have hg33 : x33 = .agg #[.string ⟨into.toArray⟩, .int .i64 kind, .string ⟨nm.toArray⟩, .int .i64 frm, .int .i64 gd, .slice o1 o2 o3, .int .i64 ix, .int .i64 ct, .string ⟨dt.toArray⟩, .int .u64 sa, .int .u64 sb, .int .u64 sc, .int .u64 sd, .slice b1 b2 b3, .int .i64 at_, .int .i64 nx, .int .u64 ua, .int .u64 ub, .int .u64 uc, .int .u64 ud, .bool done] := hg33
      subst hg33
      have e33 : AA.tmps[72]?.getD undef = .agg #[.string ⟨into.toArray⟩, .int .i64 kind, .string ⟨nm.toArray⟩, .int .i64 frm, .int .i64 gd, .slice o1 o2 o3, .int .i64 ix, .int .i64 ct, .string ⟨dt.toArray⟩, .int .u64 sa, .int .u64 sb, .int .u64 sc, .int .u64 sd, .slice b1 b2 b3, .int .i64 at_, .int .i64 nx, .int .u64 ua, .int .u64 ub, .int .u64 uc, .int .u64 ud, .bool done] := by rw [hA]; exact tmps_own (by kernel_rfl) hx33 (of_decide_eq_true (by kernel_rfl))
      obtain ⟨x34, hx34, hg34⟩ := hdeps ⟨34, .data⟩ (by simp) rfl
      have hg34 : x34 = .string ⟨t.toArray⟩ := hg34
      subst hg34
      have e34 : AA.tmps[73]?.getD undef = .string ⟨t.toArray⟩ := by rw [hA]; exact tmps_own (by kernel_rfl) hx34 (of_decide_eq_true (by kernel_rfl))
      clear hA hdeps hcl hmi hx32 hx33 hx34
      rw [if_pos (wanted_of (k := 71) rfl rfl e32)]
      have hKK := Lib.hid hK
      clear hK
      go_simp
      refine (HFI.out W (HB6.out.trans (hb0.mono HB6.out.size))).mono ?_
      rintro e w5 ⟨rfl, hbn⟩
      exact hKK.out _ _ hbn (Eq.refl _)
    · injection ho with ho
      subst ho
      obtain ⟨x32, hx32, hg32⟩ := hdeps ⟨32, .guard⟩ (by simp) rfl
      have hg32 : x32 = .bool true := hg32
      subst hg32
      have e32 : AA.tmps[71]?.getD undef = .bool true := by rw [hA]; exact tmps_own (by kernel_rfl) hx32 (of_decide_eq_true (by kernel_rfl))
      have ef2 : AA.tmps[2]?.getD undef = .pointer (some ⟨w0.heap.size, 0, none⟩) := by rw [hA]; exact tmps_free (by kernel_rfl)
      clear hA hdeps hcl hmi hx32
      rw [if_pos (wanted_of (k := 71) rfl rfl e32)]
      have hK0 : KK (AA.put (some 75) _) _ := hK (.agg #[.string ⟨into.toArray⟩, .int .i64 kind, .string ⟨nm.toArray⟩, .int .i64 frm, .int .i64 gd, .slice o1 o2 o3, .int .i64 ix, .int .i64 ct, .string ⟨dt.toArray⟩, .int .u64 sa, .int .u64 sb, .int .u64 sc, .int .u64 sd, .slice b1 b2 b3, .int .i64 at_, .int .i64 nx, .int .u64 ua, .int .u64 ub, .int .u64 uc, .int .u64 ud, .bool done]) _ (Below.refl _ _) (Eq.refl _)
      clear hK
      exact operwp_load_at 60 (.tmp 2) rfl ⟨w0.heap.size, 0, none⟩ (by unfold Act.eval; simpa using ef2) [.string ⟨into.toArray⟩, .int .i64 kind, .string ⟨nm.toArray⟩, .int .i64 frm, .int .i64 gd, .slice o1 o2 o3, .int .i64 ix, .int .i64 ct, .string ⟨dt.toArray⟩, .int .u64 sa, .int .u64 sb, .int .u64 sc, .int .u64 sd, .slice b1 b2 b3, .int .i64 at_, .int .i64 nx, .int .u64 ua, .int .u64 ub, .int .u64 uc, .int .u64 ud, .bool done] _ (HLG.out W (HB6.out.trans (hb0.mono HB6.out.size))) Tryd.underlying60 rfl (by kernel_rfl) hK0
    · injection ho with ho
      subst ho
      obtain ⟨x32, hx32, hg32⟩ := hdeps ⟨32, .guard⟩ (by simp) rfl
      have hg32 : x32 = .bool true := hg32
      subst hg32
      have e32 : AA.tmps[71]?.getD undef = .bool true := by rw [hA]; exact tmps_own (by kernel_rfl) hx32 (of_decide_eq_true (by kernel_rfl))
      obtain ⟨x36, hx36, hg36⟩ := hdeps ⟨36, .data⟩ (by simp) rfl
      have hg36 : x36 = .agg #[.string ⟨into.toArray⟩, .int .i64 kind, .string ⟨nm.toArray⟩, .int .i64 frm, .int .i64 gd, .slice o1 o2 o3, .int .i64 ix, .int .i64 ct, .string ⟨dt.toArray⟩, .int .u64 sa, .int .u64 sb, .int .u64 sc, .int .u64 sd, .slice b1 b2 b3, .int .i64 at_, .int .i64 nx, .int .u64 ua, .int .u64 ub, .int .u64 uc, .int .u64 ud, .bool done] := hg36
      subst hg36
      have e36 : AA.tmps[75]?.getD undef = .agg #[.string ⟨into.toArray⟩, .int .i64 kind, .string ⟨nm.toArray⟩, .int .i64 frm, .int .i64 gd, .slice o1 o2 o3, .int .i64 ix, .int .i64 ct, .string ⟨dt.toArray⟩, .int .u64 sa, .int .u64 sb, .int .u64 sc, .int .u64 sd, .slice b1 b2 b3, .int .i64 at_, .int .i64 nx, .int .u64 ua, .int .u64 ub, .int .u64 uc, .int .u64 ud, .bool done] := by rw [hA]; exact tmps_own (by kernel_rfl) hx36 (of_decide_eq_true (by kernel_rfl))
      clear hA hdeps hcl hmi hx32 hx36
      rw [if_pos (wanted_of (k := 71) rfl rfl e32)]
      have hKK := Lib.hid hK
      clear hK
      go_simp
      refine (HST.out W (HB6.out.trans (hb0.mono HB6.out.size))).mono ?_
      rintro e w5 ⟨rfl, hbn⟩
      exact hKK.out _ _ hbn (Eq.refl _)
    · injection ho with ho
      subst ho
      obtain ⟨x32, hx32, hg32⟩ := hdeps ⟨32, .guard⟩ (by simp) rfl
      have hg32 : x32 = .bool true := hg32
      subst hg32
      have e32 : AA.tmps[71]?.getD undef = .bool true := by rw [hA]; exact tmps_own (by kernel_rfl) hx32 (of_decide_eq_true (by kernel_rfl))
      obtain ⟨x37, hx37, hg37⟩ := hdeps ⟨37, .data⟩ (by simp) rfl
      have hg37 : x37 = .bool false := hg37
      subst hg37
      have e37 : AA.tmps[76]?.getD undef = .bool false := by rw [hA]; exact tmps_own (by kernel_rfl) hx37 (of_decide_eq_true (by kernel_rfl))
      clear hA hdeps hcl hmi hx32 hx37
      rw [if_pos (wanted_of (k := 71) rfl rfl e32)]
      have hK0 : KK (AA.put (some 77) _) _ := hK (.bool false) _ (Below.refl _ _) (Eq.refl _)
      clear hK
      go_simp
      exact hK0
    · injection ho with ho
      subst ho
      obtain ⟨x38, hx38, hg38⟩ := hdeps ⟨38, .guard⟩ (by simp) rfl
      have hg38 : x38 = .bool false := hg38
      subst hg38
      have e38 : AA.tmps[77]?.getD undef = .bool false := by rw [hA]; exact tmps_own (by kernel_rfl) hx38 (of_decide_eq_true (by kernel_rfl))
      have ef1 : AA.tmps[1]?.getD undef = .string ⟨t.toArray⟩ := by rw [hA]; exact tmps_free (by kernel_rfl)
      clear hA hdeps hcl hmi hx38
      rw [if_neg (unwanted_of (b := true) (k := 77) rfl rfl (.inl e38))]
      exact hK undef _ (Below.refl _ _) (Eq.refl _)
    · injection ho with ho
      subst ho
      obtain ⟨x38, hx38, hg38⟩ := hdeps ⟨38, .guard⟩ (by simp) rfl
      have hg38 : x38 = .bool false := hg38
      subst hg38
      have e38 : AA.tmps[77]?.getD undef = .bool false := by rw [hA]; exact tmps_own (by kernel_rfl) hx38 (of_decide_eq_true (by kernel_rfl))
      have ef15 : AA.tmps[15]?.getD undef = .string ⟨#[]⟩ := by rw [hA]; exact tmps_free (by kernel_rfl)
      clear hA hdeps hcl hmi hx38
      rw [if_neg (unwanted_of (b := true) (k := 77) rfl rfl (.inl e38))]
      exact hK undef _ (Below.refl _ _) (Eq.refl _)
    · injection ho with ho
      subst ho
      obtain ⟨x38, hx38, hg38⟩ := hdeps ⟨38, .guard⟩ (by simp) rfl
      have hg38 : x38 = .bool false := hg38
      subst hg38
      have e38 : AA.tmps[77]?.getD undef = .bool false := by rw [hA]; exact tmps_own (by kernel_rfl) hx38 (of_decide_eq_true (by kernel_rfl))
      obtain ⟨x39, hx39, hg39⟩ := hdeps ⟨39, .data⟩ (by simp) rfl
      have hg39 : x39 = undef := hg39
      subst hg39
      have e39 : AA.tmps[78]?.getD undef = undef := by rw [hA]; exact tmps_own (by kernel_rfl) hx39 (of_decide_eq_true (by kernel_rfl))
      obtain ⟨x40, hx40, hg40⟩ := hdeps ⟨40, .data⟩ (by simp) rfl
      have hg40 : x40 = undef := hg40
      subst hg40
      have e40 : AA.tmps[79]?.getD undef = undef := by rw [hA]; exact tmps_own (by kernel_rfl) hx40 (of_decide_eq_true (by kernel_rfl))
      clear hA hdeps hcl hmi hx38 hx39 hx40
      rw [if_neg (unwanted_of (b := true) (k := 77) rfl rfl (.inl e38))]
      exact hK undef _ (Below.refl _ _) (Eq.refl _)
    · injection ho with ho
      subst ho
      obtain ⟨x32, hx32, hg32⟩ := hdeps ⟨32, .guard⟩ (by simp) rfl
      have hg32 : x32 = .bool true := hg32
      subst hg32
      have e32 : AA.tmps[71]?.getD undef = .bool true := by rw [hA]; exact tmps_own (by kernel_rfl) hx32 (of_decide_eq_true (by kernel_rfl))
      obtain ⟨x38, hx38, hg38⟩ := hdeps ⟨38, .data⟩ (by simp) rfl
      have hg38 : x38 = .bool false := hg38
      subst hg38
      have e38 : AA.tmps[77]?.getD undef = .bool false := by rw [hA]; exact tmps_own (by kernel_rfl) hx38 (of_decide_eq_true (by kernel_rfl))
      obtain ⟨x41, hx41, hg41⟩ := hdeps ⟨41, .data⟩ (by simp) rfl
      have hg41 : x41 = undef := hg41
      subst hg41
      have e41 : AA.tmps[80]?.getD undef = undef := by rw [hA]; exact tmps_own (by kernel_rfl) hx41 (of_decide_eq_true (by kernel_rfl))
      clear hA hdeps hcl hmi hx32 hx38 hx41
      rw [if_pos (wanted_of (k := 71) rfl rfl e32)]
      have hK0 : KK (AA.put (some 81) _) _ := hK (.bool false) _ (Below.refl _ _) (Eq.refl _)
      clear hK
      go_simp
      exact hK0
    · injection ho with ho
      subst ho
      obtain ⟨x32, hx32, hg32⟩ := hdeps ⟨32, .guard⟩ (by simp) rfl
      have hg32 : x32 = .bool true := hg32
      subst hg32
      have e32 : AA.tmps[71]?.getD undef = .bool true := by rw [hA]; exact tmps_own (by kernel_rfl) hx32 (of_decide_eq_true (by kernel_rfl))
      obtain ⟨x35, hx35, hg35⟩ := hdeps ⟨35, .data⟩ (by simp) rfl
      have hg35 : x35 = .bool false := hg35
      subst hg35
      have e35 : AA.tmps[74]?.getD undef = .bool false := by rw [hA]; exact tmps_own (by kernel_rfl) hx35 (of_decide_eq_true (by kernel_rfl))
      obtain ⟨x42, hx42, hg42⟩ := hdeps ⟨42, .data⟩ (by simp) rfl
      have hg42 : x42 = .bool false := hg42
      subst hg42
      have e42 : AA.tmps[81]?.getD undef = .bool false := by rw [hA]; exact tmps_own (by kernel_rfl) hx42 (of_decide_eq_true (by kernel_rfl))
      clear hA hdeps hcl hmi hx32 hx35 hx42
      rw [if_pos (wanted_of (k := 71) rfl rfl e32)]
      have hK0 : KK (AA.put (some 82) _) _ := hK (.bool true) _ (Below.refl _ _) (Eq.refl _)
      clear hK
      go_simp
      exact hK0
    · injection ho with ho
      subst ho
      obtain ⟨x32, hx32, hg32⟩ := hdeps ⟨32, .data⟩ (by simp) rfl
      have hg32 : x32 = .bool true := hg32
      subst hg32
      have e32 : AA.tmps[71]?.getD undef = .bool true := by rw [hA]; exact tmps_own (by kernel_rfl) hx32 (of_decide_eq_true (by kernel_rfl))
      obtain ⟨x43, hx43, hg43⟩ := hdeps ⟨43, .data⟩ (by simp) rfl
      have hg43 : x43 = .bool true := hg43
      subst hg43
      have e43 : AA.tmps[82]?.getD undef = .bool true := by rw [hA]; exact tmps_own (by kernel_rfl) hx43 (of_decide_eq_true (by kernel_rfl))
      clear hA hdeps hcl hmi hx32 hx43
      have hK0 : KK (AA.put (some 83) _) _ := hK (.bool true) _ (Below.refl _ _) (Eq.refl _)
      clear hK
      go_simp
      exact hK0
    · injection ho with ho
      subst ho
      obtain ⟨x44, hx44, hg44⟩ := hdeps ⟨44, .data⟩ (by simp) rfl
      have hg44 : x44 = .bool true := hg44
      subst hg44
      have e44 : AA.tmps[83]?.getD undef = .bool true := by rw [hA]; exact tmps_own (by kernel_rfl) hx44 (of_decide_eq_true (by kernel_rfl))
      clear hA hdeps hcl hmi hx44
      have hK0 : KK (AA.put (some 84) _) _ := hK (.bool true) _ (Below.refl _ _) (Eq.refl _)
      clear hK
      go_simp
      exact hK0
    · injection ho with ho
      subst ho
      obtain ⟨x45, hx45, hg45⟩ := hdeps ⟨45, .guard⟩ (by simp) rfl
      have hg45 : x45 = .bool true := hg45
      subst hg45
      have e45 : AA.tmps[84]?.getD undef = .bool true := by rw [hA]; exact tmps_own (by kernel_rfl) hx45 (of_decide_eq_true (by kernel_rfl))
      clear hA hdeps hcl hmi hx45
      rw [if_pos (wanted_of (k := 84) rfl rfl e45)]
      have hKK := Lib.hid hK
      clear hK
      go_simp
      refine (HAL.out W (HB6.out.trans (hb0.mono HB6.out.size))).mono ?_
      rintro e w5 ⟨rfl, hbn⟩
      exact hKK.out _ _ hbn (Eq.refl _)
    · injection ho with ho
      subst ho
      obtain ⟨x45, hx45, hg45⟩ := hdeps ⟨45, .data⟩ (by simp) rfl
      have hg45 : x45 = .bool true := hg45
      subst hg45
      have e45 : AA.tmps[84]?.getD undef = .bool true := by rw [hA]; exact tmps_own (by kernel_rfl) hx45 (of_decide_eq_true (by kernel_rfl))
      obtain ⟨x46, hx46, hg46⟩ := hdeps ⟨46, .data⟩ (by simp) rfl
      have hg46 : x46 = .bool true := hg46
      subst hg46
      have e46 : AA.tmps[85]?.getD undef = .bool true := by rw [hA]; exact tmps_own (by kernel_rfl) hx46 (of_decide_eq_true (by kernel_rfl))
      clear hA hdeps hcl hmi hx45 hx46
      have hK0 : KK (AA.put (some 86) _) _ := hK (.bool true) _ (Below.refl _ _) (Eq.refl _)
      clear hK
      go_simp
      exact hK0
    · injection ho with ho
      subst ho
      obtain ⟨x47, hx47, hg47⟩ := hdeps ⟨47, .data⟩ (by simp) rfl
      have hg47 : x47 = .bool true := hg47
      subst hg47
      have e47 : AA.tmps[86]?.getD undef = .bool true := by rw [hA]; exact tmps_own (by kernel_rfl) hx47 (of_decide_eq_true (by kernel_rfl))
      clear hA hdeps hcl hmi hx47
      have hK0 : KK (AA.put (some 4) _) _ := hK (.bool true) _ (Below.refl _ _) (Eq.refl _)
      clear hK
      go_simp
      exact hK0
    · simp at ho
  · intro m W hbx hall
    obtain ⟨x0, m0, g0⟩ := hall 0 (by simp)
    replace g0 : x0 = .string ⟨#[]⟩ := g0
    subst g0
    obtain ⟨x1, m1, g1⟩ := hall 1 (by simp)
    replace g1 : x1 = .string ⟨#[]⟩ := g1
    subst g1
    obtain ⟨x2, m2, g2⟩ := hall 2 (by simp)
    replace g2 : x2 = .bool true := g2
    subst g2
    obtain ⟨x3, m3, g3⟩ := hall 3 (by simp)
    replace g3 : x3 = .bool true := g3
    subst g3
    obtain ⟨x4, m4, g4⟩ := hall 4 (by simp)
    replace g4 : x4 = .int .i64 9 := g4
    subst g4
    obtain ⟨x5, m5, g5⟩ := hall 5 (by simp)
    replace g5 : x5 = .int .i64 9 := g5
    subst g5
    obtain ⟨x6, m6, g6⟩ := hall 6 (by simp)
    replace g6 : x6 = .bool false := g6
    subst g6
    obtain ⟨x7, m7, g7⟩ := hall 7 (by simp)
    replace g7 : x7 = .agg #[.string ⟨into.toArray⟩, .int .i64 kind, .string ⟨nm.toArray⟩, .int .i64 frm, .int .i64 gd, .slice o1 o2 o3, .int .i64 ix, .int .i64 ct, .string ⟨dt.toArray⟩, .int .u64 sa, .int .u64 sb, .int .u64 sc, .int .u64 sd, .slice b1 b2 b3, .int .i64 at_, .int .i64 nx, .int .u64 ua, .int .u64 ub, .int .u64 uc, .int .u64 ud, .bool done] := g7
    subst g7
    obtain ⟨x8, m8, g8⟩ := hall 8 (by simp)
    replace g8 : x8 = .bool false := g8
    subst g8
    obtain ⟨x9, m9, g9⟩ := hall 9 (by simp)
    replace g9 : x9 = .bool true := g9
    subst g9
    obtain ⟨x10, m10, g10⟩ := hall 10 (by simp)
    replace g10 : x10 = .bool true := g10
    subst g10
    obtain ⟨x11, m11, g11⟩ := hall 11 (by simp)
    replace g11 : x11 = .bool true := g11
    subst g11
    obtain ⟨x12, m12, g12⟩ := hall 12 (by simp)
    replace g12 : x12 = .string ⟨vp.toArray⟩ := g12
    subst g12
    obtain ⟨x13, m13, g13⟩ := hall 13 (by simp)
    replace g13 : x13 = .string ⟨vp.toArray⟩ := g13
    subst g13
    obtain ⟨x14, m14, g14⟩ := hall 14 (by simp)
    replace g14 : x14 = .bool true := g14
    subst g14
    obtain ⟨x15, m15, g15⟩ := hall 15 (by simp)
    replace g15 : x15 = .bool true := g15
    subst g15
    obtain ⟨x16, m16, g16⟩ := hall 16 (by simp)
    replace g16 : x16 = .bool true := g16
    subst g16
    obtain ⟨x17, m17, g17⟩ := hall 17 (by simp)
    replace g17 : x17 = .int .i64 vn := g17
    subst g17
    obtain ⟨x18, m18, g18⟩ := hall 18 (by simp)
    replace g18 : x18 = .int .i64 vn := g18
    subst g18
    obtain ⟨x19, m19, g19⟩ := hall 19 (by simp)
    replace g19 : x19 = .bool true := g19
    subst g19
    obtain ⟨x20, m20, g20⟩ := hall 20 (by simp)
    replace g20 : x20 = .bool true := g20
    subst g20
    obtain ⟨x21, m21, g21⟩ := hall 21 (by simp)
    replace g21 : x21 = .bool true := g21
    subst g21
    obtain ⟨x22, m22, g22⟩ := hall 22 (by simp)
    replace g22 : x22 = .int .i64 vg := g22
    subst g22
    obtain ⟨x23, m23, g23⟩ := hall 23 (by simp)
    replace g23 : x23 = .int .i64 vg := g23
    subst g23
    obtain ⟨x24, m24, g24⟩ := hall 24 (by simp)
    replace g24 : x24 = .bool true := g24
    subst g24
    obtain ⟨x25, m25, g25⟩ := hall 25 (by simp)
    replace g25 : x25 = .bool true := g25
    subst g25
    obtain ⟨x26, m26, g26⟩ := hall 26 (by simp)
    replace g26 : x26 = .bool true := g26
    subst g26
    obtain ⟨x27, m27, g27⟩ := hall 27 (by simp)
    replace g27 : x27 = .int .i64 vf := g27
    subst g27
    obtain ⟨x28, m28, g28⟩ := hall 28 (by simp)
    replace g28 : x28 = .int .i64 vf := g28
    subst g28
    obtain ⟨x29, m29, g29⟩ := hall 29 (by simp)
    replace g29 : x29 = .int .i64 vf := g29
    subst g29
    obtain ⟨x30, m30, g30⟩ := hall 30 (by simp)
    replace g30 : x30 = .bool true := g30
    subst g30
    obtain ⟨x31, m31, g31⟩ := hall 31 (by simp)
    replace g31 : x31 = .bool true := g31
    subst g31
    obtain ⟨x32, m32, g32⟩ := hall 32 (by simp)
    replace g32 : x32 = .bool true := g32
    subst g32
    obtain ⟨x33, m33, g33⟩ := hall 33 (by simp)
    replace g33 : x33 = .agg #[.string ⟨into.toArray⟩, .int .i64 kind, .string ⟨nm.toArray⟩, .int .i64 frm, .int .i64 gd, .slice o1 o2 o3, .int .i64 ix, .int .i64 ct, .string ⟨dt.toArray⟩, .int .u64 sa, .int .u64 sb, .int .u64 sc, .int .u64 sd, .slice b1 b2 b3, .int .i64 at_, .int .i64 nx, .int .u64 ua, .int .u64 ub, .int .u64 uc, .int .u64 ud, .bool done] := g33
    subst g33
    obtain ⟨x34, m34, g34⟩ := hall 34 (by simp)
    replace g34 : x34 = .string ⟨t.toArray⟩ := g34
    subst g34
    obtain ⟨x35, m35, g35⟩ := hall 35 (by simp)
    replace g35 : x35 = .bool false := g35
    subst g35
    obtain ⟨x36, m36, g36⟩ := hall 36 (by simp)
    replace g36 : x36 = .agg #[.string ⟨into.toArray⟩, .int .i64 kind, .string ⟨nm.toArray⟩, .int .i64 frm, .int .i64 gd, .slice o1 o2 o3, .int .i64 ix, .int .i64 ct, .string ⟨dt.toArray⟩, .int .u64 sa, .int .u64 sb, .int .u64 sc, .int .u64 sd, .slice b1 b2 b3, .int .i64 at_, .int .i64 nx, .int .u64 ua, .int .u64 ub, .int .u64 uc, .int .u64 ud, .bool done] := g36
    subst g36
    obtain ⟨x37, m37, g37⟩ := hall 37 (by simp)
    replace g37 : x37 = .bool false := g37
    subst g37
    obtain ⟨x38, m38, g38⟩ := hall 38 (by simp)
    replace g38 : x38 = .bool false := g38
    subst g38
    obtain ⟨x39, m39, g39⟩ := hall 39 (by simp)
    replace g39 : x39 = undef := g39
    subst g39
    obtain ⟨x40, m40, g40⟩ := hall 40 (by simp)
    replace g40 : x40 = undef := g40
    subst g40
    obtain ⟨x41, m41, g41⟩ := hall 41 (by simp)
    replace g41 : x41 = undef := g41
    subst g41
    obtain ⟨x42, m42, g42⟩ := hall 42 (by simp)
    replace g42 : x42 = .bool false := g42
    subst g42
    obtain ⟨x43, m43, g43⟩ := hall 43 (by simp)
    replace g43 : x43 = .bool true := g43
    subst g43
    obtain ⟨x44, m44, g44⟩ := hall 44 (by simp)
    replace g44 : x44 = .bool true := g44
    subst g44
    obtain ⟨x45, m45, g45⟩ := hall 45 (by simp)
    replace g45 : x45 = .bool true := g45
    subst g45
    obtain ⟨x46, m46, g46⟩ := hall 46 (by simp)
    replace g46 : x46 = .bool true := g46
    subst g46
    obtain ⟨x47, m47, g47⟩ := hall 47 (by simp)
    replace g47 : x47 = .bool true := g47
    subst g47
    obtain ⟨x48, m48, g48⟩ := hall 48 (by simp)
    replace g48 : x48 = .bool true := g48
    subst g48
    rw [frameM_all (by kernel_rfl) [.string ⟨#[]⟩, .string ⟨#[]⟩, .bool true, .bool true, .int .i64 9, .int .i64 9, .bool false, .agg #[.string ⟨into.toArray⟩, .int .i64 kind, .string ⟨nm.toArray⟩, .int .i64 frm, .int .i64 gd, .slice o1 o2 o3, .int .i64 ix, .int .i64 ct, .string ⟨dt.toArray⟩, .int .u64 sa, .int .u64 sb, .int .u64 sc, .int .u64 sd, .slice b1 b2 b3, .int .i64 at_, .int .i64 nx, .int .u64 ua, .int .u64 ub, .int .u64 uc, .int .u64 ud, .bool done], .bool false, .bool true, .bool true, .bool true, .string ⟨vp.toArray⟩, .string ⟨vp.toArray⟩, .bool true, .bool true, .bool true, .int .i64 vn, .int .i64 vn, .bool true, .bool true, .bool true, .int .i64 vg, .int .i64 vg, .bool true, .bool true, .bool true, .int .i64 vf, .int .i64 vf, .int .i64 vf, .bool true, .bool true, .bool true, .agg #[.string ⟨into.toArray⟩, .int .i64 kind, .string ⟨nm.toArray⟩, .int .i64 frm, .int .i64 gd, .slice o1 o2 o3, .int .i64 ix, .int .i64 ct, .string ⟨dt.toArray⟩, .int .u64 sa, .int .u64 sb, .int .u64 sc, .int .u64 sd, .slice b1 b2 b3, .int .i64 at_, .int .i64 nx, .int .u64 ua, .int .u64 ub, .int .u64 uc, .int .u64 ud, .bool done], .string ⟨t.toArray⟩, .bool false, .agg #[.string ⟨into.toArray⟩, .int .i64 kind, .string ⟨nm.toArray⟩, .int .i64 frm, .int .i64 gd, .slice o1 o2 o3, .int .i64 ix, .int .i64 ct, .string ⟨dt.toArray⟩, .int .u64 sa, .int .u64 sb, .int .u64 sc, .int .u64 sd, .slice b1 b2 b3, .int .i64 at_, .int .i64 nx, .int .u64 ua, .int .u64 ub, .int .u64 uc, .int .u64 ud, .bool done], .bool false, .bool false, undef, undef, undef, .bool false, .bool true, .bool true, .bool true, .bool true, .bool true, .bool true] rfl (fun i hi => by
        rcases i with _ | _ | _ | _ | _ | _ | _ | _ | _ | _ | _ | _ | _ | _ | _ | _ | _ | _ | _ | _ | _ | _ | _ | _ | _ | _ | _ | _ | _ | _ | _ | _ | _ | _ | _ | _ | _ | _ | _ | _ | _ | _ | _ | _ | _ | _ | _ | _ | _ | i
        · exact m0
        · exact m1
        · exact m2
        · exact m3
        · exact m4
        · exact m5
        · exact m6
        · exact m7
        · exact m8
        · exact m9
        · exact m10
        · exact m11
        · exact m12
        · exact m13
        · exact m14
        · exact m15
        · exact m16
        · exact m17
        · exact m18
        · exact m19
        · exact m20
        · exact m21
        · exact m22
        · exact m23
        · exact m24
        · exact m25
        · exact m26
        · exact m27
        · exact m28
        · exact m29
        · exact m30
        · exact m31
        · exact m32
        · exact m33
        · exact m34
        · exact m35
        · exact m36
        · exact m37
        · exact m38
        · exact m39
        · exact m40
        · exact m41
        · exact m42
        · exact m43
        · exact m44
        · exact m45
        · exact m46
        · exact m47
        · exact m48
        · simp at hi; omega)]
    clear hall m0 m1 m2 m3 m4 m5 m6 m7 m8 m9 m10 m11 m12 m13 m14 m15 m16 m17 m18 m19 m20 m21 m22 m23 m24 m25 m26 m27 m28 m29 m30 m31 m32 m33 m34 m35 m36 m37 m38 m39 m40 m41 m42 m43 m44 m45 m46 m47 m48
    simp only [putAll, Act.put, List.setIfInBounds_toArray, List.set_cons_succ, List.set_cons_zero]
    go_wp2_with fail
    go_ret
    exact ⟨rfl, HUP.out _ (HB6.out.trans (hbx.mono HB6.out.size))⟩
theorem tokenTells_any (x : StageR) (t : BS) (ht4 : t.length ≤ 4000000000) (w : World) (hr : x.rd w w.heap.size) (hz : x.sz) (hmx : HasMax w) :
    Calls Tryd.prog 6 #[.agg (encStage x).toArray, .string ⟨t.toArray⟩] w fun e w' => e = .returned (.bool true) ∧ Below w.heap.size w w' := by
  obtain ⟨into, kind, nm, frm, gd, ⟨o1, o2, o3, ol⟩, ix, ct, dt, ⟨sa, sb, sc, sd⟩, ⟨b1, b2, b3, bl⟩, at_, nx, ⟨ua, ub, uc, ud⟩, done⟩ := x
  cases hok : (!(into == []) && pathB into && beginP kind nm frm gd ol ix ct dt ⟨sa, sb, sc, sd⟩ && okL bl && amt at_ 0 && amt nx 0) with
  | false => exact tokenTells_bad into kind nm frm gd o1 o2 o3 ol ix ct dt sa sb sc sd b1 b2 b3 bl at_ nx ua ub uc ud done t ht4 hz.nm w w.heap.size hr.own.2.2 hr.own.1 hr.body.2.2 hr.body.1 (Nat.le_refl _) hz.into hz.own hz.body hz.props hmx hok
  | true =>
    obtain ⟨h1, h2⟩ := stage_amts hok
    obtain ⟨na, rfl, hna⟩ := nat_of h1
    obtain ⟨ng, rfl, hng⟩ := nat_of1 h2
    exact tokenTells_ok into kind nm frm o1 o2 o3 ol ix ct dt sa sb sc sd b1 b2 b3 bl nx ua ub uc ud done na ng hna hng t ht4 hz.nm w w.heap.size hr.own.2.2 hr.own.1 hr.body.2.2 hr.body.1 (Nat.le_refl _) hz.into hz.own hz.body hz.props hmx hok
end Go.Proofs.YtjdebhemoeojiaaDoor
