/-
  staging.amount, staging.Check, by their contracts.
-/
import Derived.Test.YtjdebhemoeojiaaDoorRcMayp
import Derived.Test.YtjdebhemoeojiaaDoorYTr
namespace Go.Proofs.YtjdebhemoeojiaaDoor
open Go.RowKit

theorem samount_any (n : Int) (w : World) : Calls Tryd.prog 78 #[.int .i64 n] w fun e w' => e = .returned (.bool (amt n 0)) ∧ Below w.heap.size w w' := by
  go_enter Tryd.func78, Tryd.ntmps78
  go_wp2_with fail
  all_goals (go_ret; refine ⟨?_, Below.refl _ _⟩; unfold amt; first | (rw [decide_eq_true (by omega)]; try rfl) | (rw [decide_eq_false (by omega)]; try rfl) | (congr; simp <;> omega))
set_option maxRecDepth 100000 in
set_option maxHeartbeats 4000000 in
theorem scheck_any (into : BS) (kind : Int) (nm : BS) (frm gd : Int) (o1 : Option Addr) (o2 o3 : Nat) (ol : List (BS × BS)) (ix ct : Int) (dt : BS) (sa sb sc sd : Int) (b1 : Option Addr) (b2 b3 : Nat) (bl : List BlkT) (at_ nx ua ub uc ud : Int) (done : Bool) (w : World) (B : Nat) (hro : Reads w B 2 o1 o2 (pcells ol)) (hol : o2 = ol.length) (hrb : Reads w B 2 b1 b2 (bcells bl)) (hbl : b2 = bl.length) (hB : B ≤ w.heap.size)
    (hin : into.length ≤ 4000000000) (ho2 : o2 ≤ 1000000000000) (hb2 : b2 ≤ 1000000000000) (hp : ∀ p ∈ ol, p.1.length ≤ 4000000000 ∧ p.2.length ≤ 4000000000) (hmx : HasMax w) :
    Calls Tryd.prog 47 #[.agg #[.string ⟨into.toArray⟩, .int .i64 kind, .string ⟨nm.toArray⟩, .int .i64 frm, .int .i64 gd, .slice o1 o2 o3, .int .i64 ix, .int .i64 ct, .string ⟨dt.toArray⟩, .int .u64 sa, .int .u64 sb, .int .u64 sc, .int .u64 sd, .slice b1 b2 b3, .int .i64 at_, .int .i64 nx, .int .u64 ua, .int .u64 ub, .int .u64 uc, .int .u64 ud, .bool done]] w fun e w' => e = .returned (.int .i64 (if (!(into == []) && pathB into && beginP kind nm frm gd ol ix ct dt ⟨sa, sb, sc, sd⟩ && okL bl && amt at_ 0 && amt nx 0) = true then 0 else 9)) ∧ Below w.heap.size w w' := by
  have hb1 := (Below.refl w.heap.size w).alloc (Nat.le_refl _) (.cells #[.string ⟨into.toArray⟩, .int .i64 kind, .string ⟨nm.toArray⟩, .int .i64 frm, .int .i64 gd, .slice o1 o2 o3, .int .i64 ix, .int .i64 ct, .string ⟨dt.toArray⟩, .int .u64 sa, .int .u64 sb, .int .u64 sc, .int .u64 sd, .slice b1 b2 b3, .int .i64 at_, .int .i64 nx, .int .u64 ua, .int .u64 ub, .int .u64 uc, .int .u64 ud, .bool done] 60)
  have kT := Blk.new w 60 #[.string ⟨into.toArray⟩, .int .i64 kind, .string ⟨nm.toArray⟩, .int .i64 frm, .int .i64 gd, .slice o1 o2 o3, .int .i64 ix, .int .i64 ct, .string ⟨dt.toArray⟩, .int .u64 sa, .int .u64 sb, .int .u64 sc, .int .u64 sd, .slice b1 b2 b3, .int .i64 at_, .int .i64 nx, .int .u64 ua, .int .u64 ub, .int .u64 uc, .int .u64 ud, .bool done]
  obtain ⟨W1, hW1⟩ : ∃ W, W = w.alloc (.cells #[.string ⟨into.toArray⟩, .int .i64 kind, .string ⟨nm.toArray⟩, .int .i64 frm, .int .i64 gd, .slice o1 o2 o3, .int .i64 ix, .int .i64 ct, .string ⟨dt.toArray⟩, .int .u64 sa, .int .u64 sb, .int .u64 sc, .int .u64 sd, .slice b1 b2 b3, .int .i64 at_, .int .i64 nx, .int .u64 ua, .int .u64 ub, .int .u64 uc, .int .u64 ud, .bool done] 60) := ⟨_, rfl⟩
  have hsz1 : W1.heap.size = w.heap.size + 1 := by rw [hW1]; simp
  rw [← hW1] at hb1 kT
  have hT := Lib.hid (fun (W' : World) (hB' : Below W1.heap.size W1 W') => (⟨(kT.below hB' (by omega)).cell 0, (kT.below hB' (by omega)).cell 1, (kT.below hB' (by omega)).cell 2, (kT.below hB' (by omega)).cell 3, (kT.below hB' (by omega)).cell 4, (kT.below hB' (by omega)).cell 5, (kT.below hB' (by omega)).cell 6, (kT.below hB' (by omega)).cell 7, (kT.below hB' (by omega)).cell 8, (kT.below hB' (by omega)).cell 9, (kT.below hB' (by omega)).cell 10, (kT.below hB' (by omega)).cell 11, (kT.below hB' (by omega)).cell 12, (kT.below hB' (by omega)).cell 13, (kT.below hB' (by omega)).cell 14, (kT.below hB' (by omega)).cell 15⟩ : W'.cell? ⟨w.heap.size, 0, none⟩ = some (.string ⟨into.toArray⟩) ∧ W'.cell? ⟨w.heap.size, 1, none⟩ = some (.int .i64 kind) ∧ W'.cell? ⟨w.heap.size, 2, none⟩ = some (.string ⟨nm.toArray⟩) ∧ W'.cell? ⟨w.heap.size, 3, none⟩ = some (.int .i64 frm) ∧ W'.cell? ⟨w.heap.size, 4, none⟩ = some (.int .i64 gd) ∧ W'.cell? ⟨w.heap.size, 5, none⟩ = some (.slice o1 o2 o3) ∧ W'.cell? ⟨w.heap.size, 6, none⟩ = some (.int .i64 ix) ∧ W'.cell? ⟨w.heap.size, 7, none⟩ = some (.int .i64 ct) ∧ W'.cell? ⟨w.heap.size, 8, none⟩ = some (.string ⟨dt.toArray⟩) ∧ W'.cell? ⟨w.heap.size, 9, none⟩ = some (.int .u64 sa) ∧ W'.cell? ⟨w.heap.size, 10, none⟩ = some (.int .u64 sb) ∧ W'.cell? ⟨w.heap.size, 11, none⟩ = some (.int .u64 sc) ∧ W'.cell? ⟨w.heap.size, 12, none⟩ = some (.int .u64 sd) ∧ W'.cell? ⟨w.heap.size, 13, none⟩ = some (.slice b1 b2 b3) ∧ W'.cell? ⟨w.heap.size, 14, none⟩ = some (.int .i64 at_) ∧ W'.cell? ⟨w.heap.size, 15, none⟩ = some (.int .i64 nx)))
  have hrw : ∀ W', Below W1.heap.size W1 W' → Reads W' B 2 o1 o2 (pcells ol) ∧ Reads W' B 2 b1 b2 (bcells bl) := fun W' hb => ⟨hro.below ((hb1.trans (hb.mono (by omega))).mono hB), hrb.below ((hb1.trans (hb.mono (by omega))).mono hB)⟩
  have hPa : Hid (∀ W, Below W1.heap.size W1 W → Calls Tryd.prog 51 #[.string ⟨into.toArray⟩] W fun e W' => e = .returned (.bool (pathB into)) ∧ Below W.heap.size W W') := fun W hb => path_any ⟨into.toArray⟩ W (by show into.length ≤ _; exact hin) (hmx.below (hb1.trans (hb.mono (by omega))))
  have hBg : Hid (∀ W, Below W1.heap.size W1 W → Calls Tryd.prog 76 #[.agg #[.int .i64 kind, .string ⟨nm.toArray⟩, .int .i64 frm, .int .i64 gd, .slice o1 o2 o3, .int .i64 ix, .int .i64 ct, .string ⟨dt.toArray⟩, .int .u64 sa, .int .u64 sb, .int .u64 sc, .int .u64 sd]] W fun e W' => e = .returned (.int .i64 (recE ⟨kind, nm, frm, gd, ol, ix, ct, dt, ⟨sa, sb, sc, sd⟩⟩)) ∧ Below W.heap.size W W') := fun W hb =>
    rcheck_any ⟨kind, nm, frm, gd, ol, ix, ct, dt, ⟨sa, sb, sc, sd⟩⟩ o2 hol o1 o3 W B (by have := hb.size; omega) (hrw W hb).1 (by omega) (fun x hx => by have := (hp x hx).2; omega)
  have hBk : Hid (∀ W, Below W1.heap.size W1 W → Calls Tryd.prog 77 #[.slice b1 b2 b3] W fun e W' => e = .returned (.int .i64 (if okL bl = true then 0 else 9)) ∧ Below W.heap.size W W') := fun W hb =>
    checkBk_any bl b2 hbl b1 b3 W B (hrw W hb).2 (by have := hb.size; omega) (by omega)
  have hA0 : Hid (∀ W, Below W1.heap.size W1 W → Calls Tryd.prog 78 #[.int .i64 at_] W fun e W' => e = .returned (.bool (amt at_ 0)) ∧ Below W.heap.size W W') := fun W _ => samount_any at_ W
  have hA1 : Hid (∀ W, Below W1.heap.size W1 W → Calls Tryd.prog 78 #[.int .i64 nx] W fun e W' => e = .returned (.bool (amt nx 0)) ∧ Below W.heap.size W W') := fun W _ => samount_any nx W
  have HV : Hid ((!(into == []) && pathB into && beginP kind nm frm gd ol ix ct dt ⟨sa, sb, sc, sd⟩ && okL bl && amt at_ 0 && amt nx 0) = (!(into == []) && (pathB into && (beginP kind nm frm gd ol ix ct dt ⟨sa, sb, sc, sd⟩ && (okL bl && (amt at_ 0 && amt nx 0)))))) := by
    show _ = _
    simp only [Bool.and_assoc]
  obtain ⟨V, hV⟩ : ∃ V, V = (!(into == []) && pathB into && beginP kind nm frm gd ol ix ct dt ⟨sa, sb, sc, sd⟩ && okL bl && amt at_ 0 && amt nx 0) := ⟨_, rfl⟩
  obtain ⟨bPa, hbPa⟩ : ∃ b, b = pathB into := ⟨_, rfl⟩
  obtain ⟨bB, hbB⟩ : ∃ b, b = okL bl := ⟨_, rfl⟩
  obtain ⟨bA, hbA⟩ : ∃ b, b = amt at_ 0 := ⟨_, rfl⟩
  obtain ⟨bX, hbX⟩ : ∃ b, b = amt nx 0 := ⟨_, rfl⟩
  rw [← hV] at HV ⊢
  obtain ⟨EV, hEV⟩ : ∃ EV, EV = (if V = true then (0 : Int) else 9) := ⟨_, rfl⟩
  rw [← hEV]
  have HEV := Lib.hid hEV
  clear hEV
  rw [← hbPa] at HV hPa
  rw [← hbB] at HV hBk
  rw [← hbA] at HV hA0
  rw [← hbX] at HV hA1
  have HB1 := Lib.hid hb1
  have HSZ1 := Lib.hid hsz1
  clear hV hbPa hbB hbA hbX hb1 hsz1 kT hro hrb hol hbl hrw hp hmx
  have hW0 := Below.refl W1.heap.size W1
  by_cases hi : into = []
  · subst hi
    have HB : Hid (EV = 9) := by show _ = _; rw [HEV.out, HV.out]; rfl
    go_enter Tryd.func47, Tryd.ntmps47
    go_wp2_with fail
    rw [← hW1]
    go_ret
    exact ⟨by rw [HB.out]; rfl, HB1.out⟩
  · have hi1 : (into == []) = false := by simpa using hi
    have hi2 : into.isEmpty = false := by cases into <;> simp_all
    by_cases hk : kind = 1
    · subst hk
      have hre : recE ⟨1, nm, frm, gd, ol, ix, ct, dt, ⟨sa, sb, sc, sd⟩⟩ = if beginP 1 nm frm gd ol ix ct dt ⟨sa, sb, sc, sd⟩ = true then 0 else 9 := by
        unfold recE
        rw [if_neg (by simp)]
        have : mayB ⟨1, nm, frm, gd, ol, ix, ct, dt, ⟨sa, sb, sc, sd⟩⟩ = beginP 1 nm frm gd ol ix ct dt ⟨sa, sb, sc, sd⟩ := by
          unfold mayB beginP
          simp
        rw [this]
      rw [hre] at hBg
      obtain ⟨bBg, hbBg⟩ : ∃ b, b = beginP 1 nm frm gd ol ix ct dt ⟨sa, sb, sc, sd⟩ := ⟨_, rfl⟩
      rw [← hbBg] at HV hBg
      have HV : Hid (V = (bPa && (bBg && (bB && (bA && bX))))) := by show _ = _; rw [HV.out, hi1]; rfl
      clear hi hre hbBg
      go_enter Tryd.func47, Tryd.ntmps47
      have hc := hPa.out _ hW0
      cases bPa with
      | false =>
        go_wp2_with fail
        rw [← hW1]
        refine hc.mono ?_
        clear hc
        rintro e w11 ⟨rfl, hbw11⟩
        have hWw11 := hW0.trans (hbw11.mono hW0.size)
        clear hbw11 
        obtain ⟨q0, q1, q2, q3, q4, q5, q6, q7, q8, q9, q10, q11, q12, q13, q14, q15⟩ := hT.out _ hWw11
        have HB : Hid (EV = 9) := by show _ = _; rw [HEV.out, HV.out]; rfl
        go_wp2_with fail
        go_ret
        exact ⟨by rw [HB.out]; rfl, HB1.out.trans (hWw11.mono (by have := HSZ1.out; omega))⟩
      | true =>
        go_wp2_with fail
        rw [← hW1]
        refine hc.mono ?_
        clear hc
        rintro e w11 ⟨rfl, hbw11⟩
        have hWw11 := hW0.trans (hbw11.mono hW0.size)
        clear hbw11 
        obtain ⟨q0, q1, q2, q3, q4, q5, q6, q7, q8, q9, q10, q11, q12, q13, q14, q15⟩ := hT.out _ hWw11
        have hc := hBg.out _ hWw11
        cases bBg with
        | false =>
          rw [if_neg (by decide)] at hc
          go_wp2_with fail
          refine hc.mono ?_
          clear hc
          rintro e w12 ⟨rfl, hbw12⟩
          have hWw12 := hWw11.trans (hbw12.mono hWw11.size)
          clear hbw12 
          obtain ⟨q0, q1, q2, q3, q4, q5, q6, q7, q8, q9, q10, q11, q12, q13, q14, q15⟩ := hT.out _ hWw12
          have HB : Hid (EV = 9) := by show _ = _; rw [HEV.out, HV.out]; rfl
          go_wp2_with fail
          go_ret
          exact ⟨by rw [HB.out]; rfl, HB1.out.trans (hWw12.mono (by have := HSZ1.out; omega))⟩
        | true =>
          rw [if_pos rfl] at hc
          go_wp2_with fail
          refine hc.mono ?_
          clear hc
          rintro e w12 ⟨rfl, hbw12⟩
          have hWw12 := hWw11.trans (hbw12.mono hWw11.size)
          clear hbw12 
          obtain ⟨q0, q1, q2, q3, q4, q5, q6, q7, q8, q9, q10, q11, q12, q13, q14, q15⟩ := hT.out _ hWw12
          have hc := hBk.out _ hWw12
          cases bB with
          | false =>
            rw [if_neg (by decide)] at hc
            go_wp2_with fail
            refine hc.mono ?_
            clear hc
            rintro e w13 ⟨rfl, hbw13⟩
            have hWw13 := hWw12.trans (hbw13.mono hWw12.size)
            clear hbw13 
            obtain ⟨q0, q1, q2, q3, q4, q5, q6, q7, q8, q9, q10, q11, q12, q13, q14, q15⟩ := hT.out _ hWw13
            have HB : Hid (EV = 9) := by show _ = _; rw [HEV.out, HV.out]; rfl
            go_wp2_with fail
            go_ret
            exact ⟨by rw [HB.out]; rfl, HB1.out.trans (hWw13.mono (by have := HSZ1.out; omega))⟩
          | true =>
            rw [if_pos rfl] at hc
            go_wp2_with fail
            refine hc.mono ?_
            clear hc
            rintro e w13 ⟨rfl, hbw13⟩
            have hWw13 := hWw12.trans (hbw13.mono hWw12.size)
            clear hbw13 
            obtain ⟨q0, q1, q2, q3, q4, q5, q6, q7, q8, q9, q10, q11, q12, q13, q14, q15⟩ := hT.out _ hWw13
            have hc := hA0.out _ hWw13
            cases bA with
            | false =>
              go_wp2_with fail
              refine hc.mono ?_
              clear hc
              rintro e w14 ⟨rfl, hbw14⟩
              have hWw14 := hWw13.trans (hbw14.mono hWw13.size)
              clear hbw14 
              obtain ⟨q0, q1, q2, q3, q4, q5, q6, q7, q8, q9, q10, q11, q12, q13, q14, q15⟩ := hT.out _ hWw14
              have HB : Hid (EV = 9) := by show _ = _; rw [HEV.out, HV.out]; rfl
              go_wp2_with fail
              go_ret
              exact ⟨by rw [HB.out]; rfl, HB1.out.trans (hWw14.mono (by have := HSZ1.out; omega))⟩
            | true =>
              go_wp2_with fail
              refine hc.mono ?_
              clear hc
              rintro e w14 ⟨rfl, hbw14⟩
              have hWw14 := hWw13.trans (hbw14.mono hWw13.size)
              clear hbw14 
              obtain ⟨q0, q1, q2, q3, q4, q5, q6, q7, q8, q9, q10, q11, q12, q13, q14, q15⟩ := hT.out _ hWw14
              have hc := hA1.out _ hWw14
              cases bX with
              | false =>
                go_wp2_with fail
                refine hc.mono ?_
                clear hc
                rintro e w15 ⟨rfl, hbw15⟩
                have hWw15 := hWw14.trans (hbw15.mono hWw14.size)
                clear hbw15 
                obtain ⟨q0, q1, q2, q3, q4, q5, q6, q7, q8, q9, q10, q11, q12, q13, q14, q15⟩ := hT.out _ hWw15
                have HB : Hid (EV = 9) := by show _ = _; rw [HEV.out, HV.out]; rfl
                go_wp2_with fail
                go_ret
                exact ⟨by rw [HB.out]; rfl, HB1.out.trans (hWw15.mono (by have := HSZ1.out; omega))⟩
              | true =>
                go_wp2_with fail
                refine hc.mono ?_
                clear hc
                rintro e w15 ⟨rfl, hbw15⟩
                have hWw15 := hWw14.trans (hbw15.mono hWw14.size)
                clear hbw15 
                obtain ⟨q0, q1, q2, q3, q4, q5, q6, q7, q8, q9, q10, q11, q12, q13, q14, q15⟩ := hT.out _ hWw15
                have HB : Hid (EV = 0) := by show _ = _; rw [HEV.out, HV.out]; rfl
                go_wp2_with fail
                go_ret
                exact ⟨by rw [HB.out]; rfl, HB1.out.trans (hWw15.mono (by have := HSZ1.out; omega))⟩
    · have hkb : beginP kind nm frm gd ol ix ct dt ⟨sa, sb, sc, sd⟩ = false := by unfold beginP; rw [decide_eq_false hk]; rfl
      have HV : Hid (V = (bPa && false)) := by show _ = _; rw [HV.out, hi1, hkb]; cases bPa <;> rfl
      have hk1 : (kind != 1) = true := by simpa using hk
      have hk2 : (kind == 1) = false := by simpa using hk
      clear hi hkb hBg
      go_enter Tryd.func47, Tryd.ntmps47
      have hc := hPa.out _ hW0
      cases bPa with
      | false =>
        go_wp2_with fail
        rw [← hW1]
        refine hc.mono ?_
        clear hc
        rintro e w11 ⟨rfl, hbw11⟩
        have hWw11 := hW0.trans (hbw11.mono hW0.size)
        clear hbw11 
        obtain ⟨q0, q1, q2, q3, q4, q5, q6, q7, q8, q9, q10, q11, q12, q13, q14, q15⟩ := hT.out _ hWw11
        have HB : Hid (EV = 9) := by show _ = _; rw [HEV.out, HV.out]; rfl
        go_wp2_with fail
        go_ret
        exact ⟨by rw [HB.out]; rfl, HB1.out.trans (hWw11.mono (by have := HSZ1.out; omega))⟩
      | true =>
        go_wp2_with fail
        rw [← hW1]
        refine hc.mono ?_
        clear hc
        rintro e w11 ⟨rfl, hbw11⟩
        have hWw11 := hW0.trans (hbw11.mono hW0.size)
        clear hbw11 
        obtain ⟨q0, q1, q2, q3, q4, q5, q6, q7, q8, q9, q10, q11, q12, q13, q14, q15⟩ := hT.out _ hWw11
        have HB : Hid (EV = 9) := by show _ = _; rw [HEV.out, HV.out]; rfl
        go_wp2_with fail
        go_ret
        exact ⟨by rw [HB.out]; rfl, HB1.out.trans (hWw11.mono (by have := HSZ1.out; omega))⟩
end Go.Proofs.YtjdebhemoeojiaaDoor
