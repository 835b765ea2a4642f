/-
  The page's Check of tables of sessions, by its contract.
-/
import Derived.Test.YtcoaaljgaooeoaaDoorSeRf1
import Derived.Test.YtcoaaljgaooeoaaDoorSeCnt
import Derived.Test.YtcoaaljgaooeoaaDoorCls2
namespace Go.Proofs.YtcoaaljgaooeoaaDoor
open Go.RowKit

theorem bl_leq (a b : BS) : (Op.bytesLess a b || a == b) = !(Op.bytesLess b a) := by
  cases h1 : Op.bytesLess b a with
  | true =>
    have h2 : Op.bytesLess a b = false := by
      cases h : Op.bytesLess a b with
      | false => rfl
      | true => have := bl_trans h h1; rw [bl_irrefl] at this; cases this
    have h3 : (a == b) = false := by rw [beq_eq_false_iff_ne]; exact fun e => bl_ne h1 e.symm
    rw [h2, h3]; rfl
  | false =>
    by_cases e : a = b
    · simp [e]
    · have := bl_tri b a h1 (fun h => e h.symm)
      rw [this]; rfl
set_option maxRecDepth 100000 in
set_option maxHeartbeats 8000000 in
theorem rcheck26_any (t : TabR) (w : World) (B : Nat) (hr : t.rd w B) (hB : B ≤ w.heap.size) (hz : t.sz) :
    Calls Tryd.prog 17 #[t.val] w fun e w' => e = .returned (.int .i64 (tabE t.con)) ∧ Below w.heap.size w w' := by
  have hHdg := fun x W (hb : Below w.heap.size w W) => rhad_any t x W B (hr.below (hb.mono hB)) (Nat.le_trans hB hb.size) hz
  have hCtg := fun x W (hb : Below w.heap.size w W) => rcount_any t x W B (hr.below (hb.mono hB)) (Nat.le_trans hB hb.size) hz
  obtain ⟨V, hV⟩ : ∃ V, V = tabE t.con := ⟨_, rfl⟩
  rw [← hV]
  obtain ⟨T, hT0⟩ : ∃ T, T = t.con := ⟨_, rfl⟩
  have hTo : T.opn = t.opn.l.map SesR.con := by rw [hT0]; rfl
  have hTh : T.had = t.had.l := by rw [hT0]; rfl
  rw [← hT0] at hHdg hCtg hV
  clear hT0
  obtain ⟨⟨oA, on, oc, ol⟩, ⟨dA, dn, dc, l⟩⟩ := t
  have HNO := Lib.hid (show on = ol.length from hr.opn.1)
  have HN := Lib.hid (show dn = l.length from hr.had.1)
  have hszo : on ≤ 1000000000 := hz.opn
  have hszd : dn ≤ 1000000000 := hz.had
  have hrh : Reads w B 5 oA on (cellsK encSes ol) := hr.opn.2.2
  have hrd : Reads w B 2 dA dn (cellsK (fun x : HadT => [.string ⟨x.1.toArray⟩, .int .i64 x.2]) l) := hr.had.2.2
  have hre : ∀ y ∈ ol, y.sz := hz.each
  have hrn : ∀ y ∈ ol, y.rest.n = y.rest.l.length := fun y hy => (hr.each y hy).1
  have hrl : ∀ y ∈ l, y.1.length ≤ 4000000000 := hz.eachH
  show Calls Tryd.prog 17 #[.agg #[.slice oA on oc, .slice dA dn dc]] w _
  have hb1 := (Below.refl w.heap.size w).alloc (Nat.le_refl _) (.cells #[.slice oA on oc, .slice dA dn dc] 25)
  have kT := Blk.new w 25 #[.slice oA on oc, .slice dA dn dc]
  obtain ⟨W1, hW1⟩ : ∃ W, W = w.alloc (.cells #[.slice oA on oc, .slice dA dn dc] 25) := ⟨_, rfl⟩
  have hsz1 : W1.heap.size = w.heap.size + 1 := by rw [hW1]; simp
  rw [← hW1] at hb1 kT
  have hT := Lib.hid (fun (W' : World) (hB' : Below W1.heap.size W1 W') => (⟨(kT.below hB' (by omega)).cell 0, (kT.below hB' (by omega)).cell 1⟩ : W'.cell? ⟨w.heap.size, 0, none⟩ = some (.slice oA on oc) ∧ W'.cell? ⟨w.heap.size, 1, none⟩ = some (.slice dA dn dc)))
  have HUP : Hid (∀ W, Below W1.heap.size W1 W → Below w.heap.size w W) := fun W h => hb1.trans (h.mono (by omega))
  have HRD : Hid (∀ W, Below W1.heap.size W1 W → Reads W B 5 oA on (cellsK encSes ol) ∧ Reads W B 2 dA dn (cellsK (fun x : HadT => [.string ⟨x.1.toArray⟩, .int .i64 x.2]) l) ∧ w.heap.size < W.heap.size ∧ B ≤ W.heap.size) := by
    show ∀ W, _ → _
    intro W h
    have h1 := HUP.out W h
    exact ⟨hrh.below (h1.mono hB), hrd.below (h1.mono hB), by have := h.size; omega, by have := h1.size; omega⟩
  have HV : Hid (V = if (hadFrom none l && ropnFrom T [] T.opn) = true then 0 else 9) := by
    show _ = _
    rw [hV, show l = T.had from hTh.symm]
    unfold tabE
    rw [← rtabB_eq]
    rfl
  have HTO := Lib.hid hTo
  have HSE := Lib.hid hre
  have HRN := Lib.hid hrn
  have HLE := Lib.hid hrl
  have hHa : Hid (∀ x W, Below W1.heap.size W1 W → Calls Tryd.prog 44 #[.agg #[.slice oA on oc, .slice dA dn dc], .string ⟨x.toArray⟩] W fun e W' => e = .returned (.int .i64 (seHad T.had x)) ∧ Below W.heap.size W W') := fun x W h => hHdg x W (HUP.out W h)
  have hCt : Hid (∀ x W, Below W1.heap.size W1 W → Calls Tryd.prog 43 #[.agg #[.slice oA on oc, .slice dA dn dc], .string ⟨x.toArray⟩] W fun e W' => e = .returned (.int .i64 ((seOf T.opn x).length : Int)) ∧ Below W.heap.size W W') := fun x W h => hCtg x W (HUP.out W h)
  have HSZ1 := Lib.hid hsz1
  have HB1 := Lib.hid hb1
  clear hb1 kT hr hz hsz1 hrh hrd hre hrn hV hTo hTh hHdg hCtg hrl
  go_enter Tryd.func17, Tryd.ntmps17
  go_wp2_with fail
  rw [← hW1]
  clear hW1
  go_loopw [3] (fun j wr => ∃ k : Nat, k ≤ dn ∧ j = .int .i64 (k : Int) ∧ Hid (hadFrom none l = hadFrom (prevH l k) (l.drop k)) ∧ Below W1.heap.size W1 wr) (fun j _ => dn - (intOf j).toNat)
  case atStart => exact ⟨0, Nat.zero_le _, rfl, rfl, Below.refl _ _⟩
  case round =>
    obtain ⟨k, hk, rfl, hok, hbw⟩ := hrel
    obtain ⟨-, hrw, hsl, hBr⟩ := HRD.out wr hbw
    obtain ⟨c0, c1⟩ := hT.out wr hbw
    by_cases hlt : k < dn
    · obtain ⟨ad, rfl, hadB, q0, q1⟩ := hrw.el2 HN.out hlt
      have hki : (k : Int) < (dn : Int) := by omega
      have hkl : k < l.length := by have := HN.out; omega
      have hxl := HLE.out _ (List.getElem_mem hkl)
      obtain ⟨x, hx⟩ : ∃ x, x = l[k]'hkl := ⟨_, rfl⟩
      rw [← hx] at q0 q1 hxl
      have hdr := List.drop_eq_getElem_cons hkl
      rw [← hx] at hdr
      have HX := Lib.hid hx
      have HDR := Lib.hid hdr
      obtain ⟨xn, xc⟩ := x
      simp only at q0 q1 hxl
      obtain ⟨W0, hW0⟩ : ∃ W0, W0 = wr.alloc (.cells #[.string ⟨xn.toArray⟩, .int .i64 xc] 38) := ⟨_, rfl⟩
      have k0 : W0.cell? ⟨wr.heap.size, 0, none⟩ = some (.string ⟨xn.toArray⟩) := by rw [hW0]; exact (Blk.new wr _ _).cell 0
      have k1 : W0.cell? ⟨wr.heap.size, 1, none⟩ = some (.int .i64 xc) := by rw [hW0]; exact (Blk.new wr _ _).cell 1
      have hszW : W0.heap.size = wr.heap.size + 1 := by rw [hW0]; show (wr.heap.push _).size = _; rw [Array.size_push]
      have hlt0 : wr.heap.size < W0.heap.size := by omega
      have hbW1 : Below W1.heap.size W1 W0 := by rw [hW0]; exact hbw.alloc hbw.size _
      have hS0 := (Below.refl W0.heap.size W0).drew
      have hbad : Hid ((nameB xn = false ∨ xc < 1 ∨ 1099511627776 < xc ∨ (∃ y, prevH l k = some y ∧ Op.bytesLess y xn = false)) → V = 9) := by
        show _ → _
        intro h
        rw [HV.out, if_neg]
        rw [hok.out, HDR.out, hadFrom_cons]
        rcases h with h | h | h | ⟨y, hy, h⟩
        · simp only [h]; simp
        · simp only [decide_eq_false (show ¬ 1 ≤ xc by omega)]; simp
        · simp only [decide_eq_false (show ¬ xc ≤ 1099511627776 by omega)]; simp
        · rw [hy]; simp only [h]; simp
      have hgood : Hid (nameB xn = true → 1 ≤ xc → xc ≤ 1099511627776 → (∀ y, prevH l k = some y → Op.bytesLess y xn = true) → hadFrom none l = hadFrom (prevH l (k + 1)) (l.drop (k + 1))) := by
        show _ → _ → _ → _ → _
        intro h1 h4 h5 h3
        rw [hok.out, HDR.out]
        have hp : prevH l (k + 1) = some xn := by
          show (l[k]?).map _ = _
          rw [List.getElem?_eq_getElem hkl, ← HX.out]
          rfl
        rw [hp, hadFrom_cons]
        simp only [h1, decide_eq_true h4, decide_eq_true h5]
        cases hq : prevH l k with
        | none => rfl
        | some y => simp only [h3 y hq]; rfl
      have hN : ∀ W, Calls Tryd.prog 40 #[.string ⟨xn.toArray⟩] W fun e W' => e = .returned (.bool (nameB xn)) ∧ Below W.heap.size W W' := fun W => (refName_any xn W (by omega)).mono fun e w' h => ⟨h.1, by rw [h.2]; exact Below.refl _ _⟩
      clear hx hdr hok hxl
      obtain ⟨bn, hbn0⟩ : ∃ b, b = nameB xn := ⟨_, rfl⟩
      rw [← hbn0] at hbad hgood hN
      clear hbn0
      cases bn with
      | false =>
        have HB := Lib.hid (hbad.out (.inl rfl))
        have hS := Lib.hid (fun (W' : World) (hB : Below W0.heap.size W0 W') => (⟨(hT.out _ (hbW1.trans (hB.mono hbW1.size))).2, (hB.cell (p := ⟨wr.heap.size, 0, none⟩) hlt0).trans k0, (hB.cell (p := ⟨wr.heap.size, 1, none⟩) hlt0).trans k1, hB⟩ : W'.cell? ⟨w.heap.size, 1, none⟩ = some (.slice (some ad) dn dc) ∧ W'.cell? ⟨wr.heap.size, 0, none⟩ = some (.string ⟨xn.toArray⟩) ∧ W'.cell? ⟨wr.heap.size, 1, none⟩ = some (.int .i64 xc) ∧ Below W0.heap.size W0 W'))
        clear hrw hbad hgood
        go_wp2_with fail
        rw [← hW0]
        clear hW0 hszW c0 c1
        refine wpC_region (fun W' => W'.cell? ⟨w.heap.size, 1, none⟩ = some (.slice (some ad) dn dc) ∧ W'.cell? ⟨wr.heap.size, 0, none⟩ = some (.string ⟨xn.toArray⟩) ∧ W'.cell? ⟨wr.heap.size, 1, none⟩ = some (.int .i64 xc) ∧ Below W0.heap.size W0 W') (by kernel_rfl) (by kernel_rfl) (hS.out _ hS0) (fun OPS D QQ HO hD hD2 hQQ => ?_)
        have hgo4 : Hid ((OPS[4]?).bind (·.dst) = some 25) := by show _ = _; rw [HO.out]; rfl
        have hgo9 : Hid ((OPS[9]?).bind (·.dst) = some 30) := by show _ = _; rw [HO.out]; rfl
        have hgo14 : Hid ((OPS[14]?).bind (·.dst) = some 35) := by show _ = _; rw [HO.out]; rfl
        have hgo17 : Hid ((OPS[17]?).bind (·.dst) = some 38) := by show _ = _; rw [HO.out]; rfl
        clear HO
        have HD := Lib.hid hD
        have HD2 := Lib.hid hD2
        have HQQ := Lib.hid hQQ
        clear hD hD2 hQQ
        refine wpC_read (v := ?_) rfl (fun W hW => ?_) ?_
        rotate_left
        · clear hW; go_simp; try (with_reducible rfl)
        try simp only [Act.put, List.setIfInBounds_toArray, List.set_cons_zero, List.set_cons_succ]
        refine wpC_read (v := ?_) rfl (fun W hW => ?_) ?_
        rotate_left
        · replace hW := HD.out W hW
          obtain ⟨q0, q1, q2, hcW⟩ := hW
          go_simp; try (with_reducible rfl)
        try simp only [Act.put, List.setIfInBounds_toArray, List.set_cons_zero, List.set_cons_succ]
        refine wpC_read (v := .bool false) rfl (fun W hW => ?_) ?_
        · replace hW := HD.out W hW
          obtain ⟨q0, q1, q2, hcW⟩ := hW
          go_simp
          refine (hN _).mono ?_
          rintro e w4 ⟨rfl, hbn⟩
          exact ⟨rfl, HD2.out _ (hS.out _ (below_step hcW hbn))⟩
        try simp only [Act.put, List.setIfInBounds_toArray, List.set_cons_zero, List.set_cons_succ]
        refine wpC_read (v := ?_) rfl (fun W hW => ?_) ?_
        rotate_left
        · clear hW; go_simp; try (with_reducible rfl)
        try simp only [Act.put, List.setIfInBounds_toArray, List.set_cons_zero, List.set_cons_succ]
        refine wpC_read (v := ?_) rfl (fun W hW => ?_) ?_
        rotate_left
        · clear hW; go_simp; try (with_reducible rfl)
        try simp only [Act.put, List.setIfInBounds_toArray, List.set_cons_zero, List.set_cons_succ]
        refine wpC_skip rfl hgo4.out (.inl rfl) ?_
        try simp only [Act.put, List.setIfInBounds_toArray, List.set_cons_zero, List.set_cons_succ]
        refine wpC_skip rfl hgo4.out (.inl rfl) ?_
        try simp only [Act.put, List.setIfInBounds_toArray, List.set_cons_zero, List.set_cons_succ]
        refine wpC_skip rfl hgo4.out (.inl rfl) ?_
        try simp only [Act.put, List.setIfInBounds_toArray, List.set_cons_zero, List.set_cons_succ]
        refine wpC_read (v := ?_) rfl (fun W hW => ?_) ?_
        rotate_left
        · clear hW; go_simp; try (with_reducible rfl)
        try simp only [Act.put, List.setIfInBounds_toArray, List.set_cons_zero, List.set_cons_succ]
        refine wpC_read (v := ?_) rfl (fun W hW => ?_) ?_
        rotate_left
        · clear hW; go_simp; try (with_reducible rfl)
        try simp only [Act.put, List.setIfInBounds_toArray, List.set_cons_zero, List.set_cons_succ]
        refine wpC_skip rfl hgo9.out (.inl rfl) ?_
        try simp only [Act.put, List.setIfInBounds_toArray, List.set_cons_zero, List.set_cons_succ]
        refine wpC_skip rfl hgo9.out (.inl rfl) ?_
        try simp only [Act.put, List.setIfInBounds_toArray, List.set_cons_zero, List.set_cons_succ]
        refine wpC_skip rfl hgo9.out (.inl rfl) ?_
        try simp only [Act.put, List.setIfInBounds_toArray, List.set_cons_zero, List.set_cons_succ]
        refine wpC_read (v := ?_) rfl (fun W hW => ?_) ?_
        rotate_left
        · clear hW; go_simp; try (with_reducible rfl)
        try simp only [Act.put, List.setIfInBounds_toArray, List.set_cons_zero, List.set_cons_succ]
        refine wpC_read (v := ?_) rfl (fun W hW => ?_) ?_
        rotate_left
        · clear hW; go_simp; try (with_reducible rfl)
        try simp only [Act.put, List.setIfInBounds_toArray, List.set_cons_zero, List.set_cons_succ]
        refine wpC_skip rfl hgo14.out (.inl rfl) ?_
        try simp only [Act.put, List.setIfInBounds_toArray, List.set_cons_zero, List.set_cons_succ]
        refine wpC_skip rfl hgo14.out (.inl rfl) ?_
        try simp only [Act.put, List.setIfInBounds_toArray, List.set_cons_zero, List.set_cons_succ]
        refine wpC_skip rfl hgo14.out (.inl rfl) ?_
        try simp only [Act.put, List.setIfInBounds_toArray, List.set_cons_zero, List.set_cons_succ]
        refine wpC_skip rfl hgo17.out (.inr rfl) ?_
        try simp only [Act.put, List.setIfInBounds_toArray, List.set_cons_zero, List.set_cons_succ]
        refine wpC_skip rfl hgo17.out (.inr rfl) ?_
        try simp only [Act.put, List.setIfInBounds_toArray, List.set_cons_zero, List.set_cons_succ]
        refine wpC_skip rfl hgo17.out (.inr rfl) ?_
        try simp only [Act.put, List.setIfInBounds_toArray, List.set_cons_zero, List.set_cons_succ]
        refine wpC_skip rfl hgo17.out (.inr rfl) ?_
        try simp only [Act.put, List.setIfInBounds_toArray, List.set_cons_zero, List.set_cons_succ]
        refine wpC_skip rfl hgo17.out (.inr rfl) ?_
        try simp only [Act.put, List.setIfInBounds_toArray, List.set_cons_zero, List.set_cons_succ]
        refine wpC_skip rfl hgo17.out (.inr rfl) ?_
        try simp only [Act.put, List.setIfInBounds_toArray, List.set_cons_zero, List.set_cons_succ]
        refine wpC_skip rfl hgo17.out (.inr rfl) ?_
        try simp only [Act.put, List.setIfInBounds_toArray, List.set_cons_zero, List.set_cons_succ]
        refine wpC_skip rfl hgo17.out (.inr rfl) ?_
        try simp only [Act.put, List.setIfInBounds_toArray, List.set_cons_zero, List.set_cons_succ]
        refine wpC_skip rfl hgo17.out (.inr rfl) ?_
        try simp only [Act.put, List.setIfInBounds_toArray, List.set_cons_zero, List.set_cons_succ]
        refine wpC_skip rfl hgo17.out (.inr rfl) ?_
        try simp only [Act.put, List.setIfInBounds_toArray, List.set_cons_zero, List.set_cons_succ]
        refine wpC_skip rfl hgo14.out (.inl rfl) ?_
        try simp only [Act.put, List.setIfInBounds_toArray, List.set_cons_zero, List.set_cons_succ]
        refine wpC_read (v := ?_) rfl (fun W hW => ?_) ?_
        rotate_left
        · clear hW; go_simp; try (with_reducible rfl)
        try simp only [Act.put, List.setIfInBounds_toArray, List.set_cons_zero, List.set_cons_succ]
        refine wpQuiet_nil (HQQ.out _ (fun W hW => ?_))
        obtain ⟨q0, q1, q2, hcW⟩ := hW
        go_wp2_with fail
        go_ret
        exact ⟨by rw [HB.out]; rfl, HUP.out _ (hbW1.trans (hcW.mono hbW1.size))⟩
      | true =>
        by_cases z1 : xc < 1
        · have z1' : decide (xc < 1) = true := by simpa using z1
          have HB := Lib.hid (hbad.out (.inr (.inl z1)))
          have hS := Lib.hid (fun (W' : World) (hB : Below W0.heap.size W0 W') => (⟨(hT.out _ (hbW1.trans (hB.mono hbW1.size))).2, (hB.cell (p := ⟨wr.heap.size, 0, none⟩) hlt0).trans k0, (hB.cell (p := ⟨wr.heap.size, 1, none⟩) hlt0).trans k1, hB⟩ : W'.cell? ⟨w.heap.size, 1, none⟩ = some (.slice (some ad) dn dc) ∧ W'.cell? ⟨wr.heap.size, 0, none⟩ = some (.string ⟨xn.toArray⟩) ∧ W'.cell? ⟨wr.heap.size, 1, none⟩ = some (.int .i64 xc) ∧ Below W0.heap.size W0 W'))
          clear hrw hbad hgood
          go_wp2_with fail
          rw [← hW0]
          clear hW0 hszW c0 c1
          refine wpC_region (fun W' => W'.cell? ⟨w.heap.size, 1, none⟩ = some (.slice (some ad) dn dc) ∧ W'.cell? ⟨wr.heap.size, 0, none⟩ = some (.string ⟨xn.toArray⟩) ∧ W'.cell? ⟨wr.heap.size, 1, none⟩ = some (.int .i64 xc) ∧ Below W0.heap.size W0 W') (by kernel_rfl) (by kernel_rfl) (hS.out _ hS0) (fun OPS D QQ HO hD hD2 hQQ => ?_)
          have hgo4 : Hid ((OPS[4]?).bind (·.dst) = some 25) := by show _ = _; rw [HO.out]; rfl
          have hgo9 : Hid ((OPS[9]?).bind (·.dst) = some 30) := by show _ = _; rw [HO.out]; rfl
          have hgo14 : Hid ((OPS[14]?).bind (·.dst) = some 35) := by show _ = _; rw [HO.out]; rfl
          have hgo17 : Hid ((OPS[17]?).bind (·.dst) = some 38) := by show _ = _; rw [HO.out]; rfl
          clear HO
          have HD := Lib.hid hD
          have HD2 := Lib.hid hD2
          have HQQ := Lib.hid hQQ
          clear hD hD2 hQQ
          refine wpC_read (v := ?_) rfl (fun W hW => ?_) ?_
          rotate_left
          · clear hW; go_simp; try (with_reducible rfl)
          try simp only [Act.put, List.setIfInBounds_toArray, List.set_cons_zero, List.set_cons_succ]
          refine wpC_read (v := ?_) rfl (fun W hW => ?_) ?_
          rotate_left
          · replace hW := HD.out W hW
            obtain ⟨q0, q1, q2, hcW⟩ := hW
            go_simp; try (with_reducible rfl)
          try simp only [Act.put, List.setIfInBounds_toArray, List.set_cons_zero, List.set_cons_succ]
          refine wpC_read (v := .bool true) rfl (fun W hW => ?_) ?_
          · replace hW := HD.out W hW
            obtain ⟨q0, q1, q2, hcW⟩ := hW
            go_simp
            refine (hN _).mono ?_
            rintro e w4 ⟨rfl, hbn⟩
            exact ⟨rfl, HD2.out _ (hS.out _ (below_step hcW hbn))⟩
          try simp only [Act.put, List.setIfInBounds_toArray, List.set_cons_zero, List.set_cons_succ]
          refine wpC_read (v := ?_) rfl (fun W hW => ?_) ?_
          rotate_left
          · clear hW; go_simp; try (with_reducible rfl)
          try simp only [Act.put, List.setIfInBounds_toArray, List.set_cons_zero, List.set_cons_succ]
          refine wpC_read (v := ?_) rfl (fun W hW => ?_) ?_
          rotate_left
          · clear hW; go_simp; try (with_reducible rfl)
          try simp only [Act.put, List.setIfInBounds_toArray, List.set_cons_zero, List.set_cons_succ]
          refine wpC_gread (v := ?_) rfl hgo4.out rfl (fun W hW => ?_) ?_
          rotate_left
          · clear hW; go_simp; try (with_reducible rfl)
          try simp only [Act.put, List.setIfInBounds_toArray, List.set_cons_zero, List.set_cons_succ]
          refine wpC_gread (v := ?_) rfl hgo4.out rfl (fun W hW => ?_) ?_
          rotate_left
          · replace hW := HD.out W hW
            obtain ⟨q0, q1, q2, hcW⟩ := hW
            go_simp; try (with_reducible rfl)
          try simp only [Act.put, List.setIfInBounds_toArray, List.set_cons_zero, List.set_cons_succ]
          refine wpC_gread (v := ?_) rfl hgo4.out rfl (fun W hW => ?_) ?_
          rotate_left
          · clear hW; go_simp; try (with_reducible rfl)
          try simp only [Act.put, List.setIfInBounds_toArray, List.set_cons_zero, List.set_cons_succ]
          refine wpC_read (v := ?_) rfl (fun W hW => ?_) ?_
          rotate_left
          · clear hW; go_simp; try (with_reducible rfl)
          try simp only [Act.put, List.setIfInBounds_toArray, List.set_cons_zero, List.set_cons_succ]
          refine wpC_read (v := ?_) rfl (fun W hW => ?_) ?_
          rotate_left
          · clear hW; go_simp; try (with_reducible rfl)
          try simp only [Act.put, List.setIfInBounds_toArray, List.set_cons_zero, List.set_cons_succ]
          refine wpC_skip rfl hgo9.out (.inl rfl) ?_
          try simp only [Act.put, List.setIfInBounds_toArray, List.set_cons_zero, List.set_cons_succ]
          refine wpC_skip rfl hgo9.out (.inl rfl) ?_
          try simp only [Act.put, List.setIfInBounds_toArray, List.set_cons_zero, List.set_cons_succ]
          refine wpC_skip rfl hgo9.out (.inl rfl) ?_
          try simp only [Act.put, List.setIfInBounds_toArray, List.set_cons_zero, List.set_cons_succ]
          refine wpC_read (v := ?_) rfl (fun W hW => ?_) ?_
          rotate_left
          · clear hW; go_simp; try (with_reducible rfl)
          try simp only [Act.put, List.setIfInBounds_toArray, List.set_cons_zero, List.set_cons_succ]
          refine wpC_read (v := ?_) rfl (fun W hW => ?_) ?_
          rotate_left
          · clear hW; go_simp; try (with_reducible rfl)
          try simp only [Act.put, List.setIfInBounds_toArray, List.set_cons_zero, List.set_cons_succ]
          refine wpC_skip rfl hgo14.out (.inl rfl) ?_
          try simp only [Act.put, List.setIfInBounds_toArray, List.set_cons_zero, List.set_cons_succ]
          refine wpC_skip rfl hgo14.out (.inl rfl) ?_
          try simp only [Act.put, List.setIfInBounds_toArray, List.set_cons_zero, List.set_cons_succ]
          refine wpC_skip rfl hgo14.out (.inl rfl) ?_
          try simp only [Act.put, List.setIfInBounds_toArray, List.set_cons_zero, List.set_cons_succ]
          refine wpC_skip rfl hgo17.out (.inr rfl) ?_
          try simp only [Act.put, List.setIfInBounds_toArray, List.set_cons_zero, List.set_cons_succ]
          refine wpC_skip rfl hgo17.out (.inr rfl) ?_
          try simp only [Act.put, List.setIfInBounds_toArray, List.set_cons_zero, List.set_cons_succ]
          refine wpC_skip rfl hgo17.out (.inr rfl) ?_
          try simp only [Act.put, List.setIfInBounds_toArray, List.set_cons_zero, List.set_cons_succ]
          refine wpC_skip rfl hgo17.out (.inr rfl) ?_
          try simp only [Act.put, List.setIfInBounds_toArray, List.set_cons_zero, List.set_cons_succ]
          refine wpC_skip rfl hgo17.out (.inr rfl) ?_
          try simp only [Act.put, List.setIfInBounds_toArray, List.set_cons_zero, List.set_cons_succ]
          refine wpC_skip rfl hgo17.out (.inr rfl) ?_
          try simp only [Act.put, List.setIfInBounds_toArray, List.set_cons_zero, List.set_cons_succ]
          refine wpC_skip rfl hgo17.out (.inr rfl) ?_
          try simp only [Act.put, List.setIfInBounds_toArray, List.set_cons_zero, List.set_cons_succ]
          refine wpC_skip rfl hgo17.out (.inr rfl) ?_
          try simp only [Act.put, List.setIfInBounds_toArray, List.set_cons_zero, List.set_cons_succ]
          refine wpC_skip rfl hgo17.out (.inr rfl) ?_
          try simp only [Act.put, List.setIfInBounds_toArray, List.set_cons_zero, List.set_cons_succ]
          refine wpC_skip rfl hgo17.out (.inr rfl) ?_
          try simp only [Act.put, List.setIfInBounds_toArray, List.set_cons_zero, List.set_cons_succ]
          refine wpC_skip rfl hgo14.out (.inl rfl) ?_
          try simp only [Act.put, List.setIfInBounds_toArray, List.set_cons_zero, List.set_cons_succ]
          refine wpC_read (v := ?_) rfl (fun W hW => ?_) ?_
          rotate_left
          · clear hW; go_simp; try (with_reducible rfl)
          try simp only [Act.put, List.setIfInBounds_toArray, List.set_cons_zero, List.set_cons_succ]
          refine wpQuiet_nil (HQQ.out _ (fun W hW => ?_))
          obtain ⟨q0, q1, q2, hcW⟩ := hW
          go_wp2_with fail
          go_ret
          exact ⟨by rw [HB.out]; rfl, HUP.out _ (hbW1.trans (hcW.mono hbW1.size))⟩
        by_cases z2 : 1099511627776 < xc
        · have z1' : decide (xc < 1) = false := by simpa using z1
          have z2' : decide (1099511627776 < xc) = true := by simpa using z2
          have HB := Lib.hid (hbad.out (.inr (.inr (.inl z2))))
          have hS := Lib.hid (fun (W' : World) (hB : Below W0.heap.size W0 W') => (⟨(hT.out _ (hbW1.trans (hB.mono hbW1.size))).2, (hB.cell (p := ⟨wr.heap.size, 0, none⟩) hlt0).trans k0, (hB.cell (p := ⟨wr.heap.size, 1, none⟩) hlt0).trans k1, hB⟩ : W'.cell? ⟨w.heap.size, 1, none⟩ = some (.slice (some ad) dn dc) ∧ W'.cell? ⟨wr.heap.size, 0, none⟩ = some (.string ⟨xn.toArray⟩) ∧ W'.cell? ⟨wr.heap.size, 1, none⟩ = some (.int .i64 xc) ∧ Below W0.heap.size W0 W'))
          clear hrw hbad hgood
          go_wp2_with fail
          rw [← hW0]
          clear hW0 hszW c0 c1
          refine wpC_region (fun W' => W'.cell? ⟨w.heap.size, 1, none⟩ = some (.slice (some ad) dn dc) ∧ W'.cell? ⟨wr.heap.size, 0, none⟩ = some (.string ⟨xn.toArray⟩) ∧ W'.cell? ⟨wr.heap.size, 1, none⟩ = some (.int .i64 xc) ∧ Below W0.heap.size W0 W') (by kernel_rfl) (by kernel_rfl) (hS.out _ hS0) (fun OPS D QQ HO hD hD2 hQQ => ?_)
          have hgo4 : Hid ((OPS[4]?).bind (·.dst) = some 25) := by show _ = _; rw [HO.out]; rfl
          have hgo9 : Hid ((OPS[9]?).bind (·.dst) = some 30) := by show _ = _; rw [HO.out]; rfl
          have hgo14 : Hid ((OPS[14]?).bind (·.dst) = some 35) := by show _ = _; rw [HO.out]; rfl
          have hgo17 : Hid ((OPS[17]?).bind (·.dst) = some 38) := by show _ = _; rw [HO.out]; rfl
          clear HO
          have HD := Lib.hid hD
          have HD2 := Lib.hid hD2
          have HQQ := Lib.hid hQQ
          clear hD hD2 hQQ
          refine wpC_read (v := ?_) rfl (fun W hW => ?_) ?_
          rotate_left
          · clear hW; go_simp; try (with_reducible rfl)
          try simp only [Act.put, List.setIfInBounds_toArray, List.set_cons_zero, List.set_cons_succ]
          refine wpC_read (v := ?_) rfl (fun W hW => ?_) ?_
          rotate_left
          · replace hW := HD.out W hW
            obtain ⟨q0, q1, q2, hcW⟩ := hW
            go_simp; try (with_reducible rfl)
          try simp only [Act.put, List.setIfInBounds_toArray, List.set_cons_zero, List.set_cons_succ]
          refine wpC_read (v := .bool true) rfl (fun W hW => ?_) ?_
          · replace hW := HD.out W hW
            obtain ⟨q0, q1, q2, hcW⟩ := hW
            go_simp
            refine (hN _).mono ?_
            rintro e w4 ⟨rfl, hbn⟩
            exact ⟨rfl, HD2.out _ (hS.out _ (below_step hcW hbn))⟩
          try simp only [Act.put, List.setIfInBounds_toArray, List.set_cons_zero, List.set_cons_succ]
          refine wpC_read (v := ?_) rfl (fun W hW => ?_) ?_
          rotate_left
          · clear hW; go_simp; try (with_reducible rfl)
          try simp only [Act.put, List.setIfInBounds_toArray, List.set_cons_zero, List.set_cons_succ]
          refine wpC_read (v := ?_) rfl (fun W hW => ?_) ?_
          rotate_left
          · clear hW; go_simp; try (with_reducible rfl)
          try simp only [Act.put, List.setIfInBounds_toArray, List.set_cons_zero, List.set_cons_succ]
          refine wpC_gread (v := ?_) rfl hgo4.out rfl (fun W hW => ?_) ?_
          rotate_left
          · clear hW; go_simp; try (with_reducible rfl)
          try simp only [Act.put, List.setIfInBounds_toArray, List.set_cons_zero, List.set_cons_succ]
          refine wpC_gread (v := ?_) rfl hgo4.out rfl (fun W hW => ?_) ?_
          rotate_left
          · replace hW := HD.out W hW
            obtain ⟨q0, q1, q2, hcW⟩ := hW
            go_simp; try (with_reducible rfl)
          try simp only [Act.put, List.setIfInBounds_toArray, List.set_cons_zero, List.set_cons_succ]
          refine wpC_gread (v := ?_) rfl hgo4.out rfl (fun W hW => ?_) ?_
          rotate_left
          · clear hW; go_simp; try (with_reducible rfl)
          try simp only [Act.put, List.setIfInBounds_toArray, List.set_cons_zero, List.set_cons_succ]
          refine wpC_read (v := ?_) rfl (fun W hW => ?_) ?_
          rotate_left
          · clear hW; go_simp; try (with_reducible rfl)
          try simp only [Act.put, List.setIfInBounds_toArray, List.set_cons_zero, List.set_cons_succ]
          refine wpC_read (v := ?_) rfl (fun W hW => ?_) ?_
          rotate_left
          · clear hW; go_simp; try (with_reducible rfl)
          try simp only [Act.put, List.setIfInBounds_toArray, List.set_cons_zero, List.set_cons_succ]
          refine wpC_gread (v := ?_) rfl hgo9.out rfl (fun W hW => ?_) ?_
          rotate_left
          · clear hW; go_simp; try (with_reducible rfl)
          try simp only [Act.put, List.setIfInBounds_toArray, List.set_cons_zero, List.set_cons_succ]
          refine wpC_gread (v := ?_) rfl hgo9.out rfl (fun W hW => ?_) ?_
          rotate_left
          · replace hW := HD.out W hW
            obtain ⟨q0, q1, q2, hcW⟩ := hW
            go_simp; try (with_reducible rfl)
          try simp only [Act.put, List.setIfInBounds_toArray, List.set_cons_zero, List.set_cons_succ]
          refine wpC_gread (v := ?_) rfl hgo9.out rfl (fun W hW => ?_) ?_
          rotate_left
          · clear hW; go_simp; try (with_reducible rfl)
          try simp only [Act.put, List.setIfInBounds_toArray, List.set_cons_zero, List.set_cons_succ]
          refine wpC_read (v := ?_) rfl (fun W hW => ?_) ?_
          rotate_left
          · clear hW; go_simp; try (with_reducible rfl)
          try simp only [Act.put, List.setIfInBounds_toArray, List.set_cons_zero, List.set_cons_succ]
          refine wpC_read (v := ?_) rfl (fun W hW => ?_) ?_
          rotate_left
          · clear hW; go_simp; try (with_reducible rfl)
          try simp only [Act.put, List.setIfInBounds_toArray, List.set_cons_zero, List.set_cons_succ]
          refine wpC_skip rfl hgo14.out (.inl rfl) ?_
          try simp only [Act.put, List.setIfInBounds_toArray, List.set_cons_zero, List.set_cons_succ]
          refine wpC_skip rfl hgo14.out (.inl rfl) ?_
          try simp only [Act.put, List.setIfInBounds_toArray, List.set_cons_zero, List.set_cons_succ]
          refine wpC_skip rfl hgo14.out (.inl rfl) ?_
          try simp only [Act.put, List.setIfInBounds_toArray, List.set_cons_zero, List.set_cons_succ]
          refine wpC_skip rfl hgo17.out (.inr rfl) ?_
          try simp only [Act.put, List.setIfInBounds_toArray, List.set_cons_zero, List.set_cons_succ]
          refine wpC_skip rfl hgo17.out (.inr rfl) ?_
          try simp only [Act.put, List.setIfInBounds_toArray, List.set_cons_zero, List.set_cons_succ]
          refine wpC_skip rfl hgo17.out (.inr rfl) ?_
          try simp only [Act.put, List.setIfInBounds_toArray, List.set_cons_zero, List.set_cons_succ]
          refine wpC_skip rfl hgo17.out (.inr rfl) ?_
          try simp only [Act.put, List.setIfInBounds_toArray, List.set_cons_zero, List.set_cons_succ]
          refine wpC_skip rfl hgo17.out (.inr rfl) ?_
          try simp only [Act.put, List.setIfInBounds_toArray, List.set_cons_zero, List.set_cons_succ]
          refine wpC_skip rfl hgo17.out (.inr rfl) ?_
          try simp only [Act.put, List.setIfInBounds_toArray, List.set_cons_zero, List.set_cons_succ]
          refine wpC_skip rfl hgo17.out (.inr rfl) ?_
          try simp only [Act.put, List.setIfInBounds_toArray, List.set_cons_zero, List.set_cons_succ]
          refine wpC_skip rfl hgo17.out (.inr rfl) ?_
          try simp only [Act.put, List.setIfInBounds_toArray, List.set_cons_zero, List.set_cons_succ]
          refine wpC_skip rfl hgo17.out (.inr rfl) ?_
          try simp only [Act.put, List.setIfInBounds_toArray, List.set_cons_zero, List.set_cons_succ]
          refine wpC_skip rfl hgo17.out (.inr rfl) ?_
          try simp only [Act.put, List.setIfInBounds_toArray, List.set_cons_zero, List.set_cons_succ]
          refine wpC_skip rfl hgo14.out (.inl rfl) ?_
          try simp only [Act.put, List.setIfInBounds_toArray, List.set_cons_zero, List.set_cons_succ]
          refine wpC_read (v := ?_) rfl (fun W hW => ?_) ?_
          rotate_left
          · clear hW; go_simp; try (with_reducible rfl)
          try simp only [Act.put, List.setIfInBounds_toArray, List.set_cons_zero, List.set_cons_succ]
          refine wpQuiet_nil (HQQ.out _ (fun W hW => ?_))
          obtain ⟨q0, q1, q2, hcW⟩ := hW
          go_wp2_with fail
          go_ret
          exact ⟨by rw [HB.out]; rfl, HUP.out _ (hbW1.trans (hcW.mono hbW1.size))⟩
        have z1' : decide (xc < 1) = false := by simpa using z1
        have z2' : decide (1099511627776 < xc) = false := by simpa using z2
        rcases Nat.eq_zero_or_pos k with h0 | h0
        · have HG := Lib.hid (hgood.out rfl (by omega) (by omega) (fun y hy => by subst h0; cases hy))
          have d4 : decide ((0 : Int) < (k : Int)) = false := by simp; omega
          have d4' : decide (0 < k) = false := by simp; omega
          clear h0
          have hS := Lib.hid (fun (W' : World) (hB : Below W0.heap.size W0 W') => (⟨(hT.out _ (hbW1.trans (hB.mono hbW1.size))).2, (hB.cell (p := ⟨wr.heap.size, 0, none⟩) hlt0).trans k0, (hB.cell (p := ⟨wr.heap.size, 1, none⟩) hlt0).trans k1, hB⟩ : W'.cell? ⟨w.heap.size, 1, none⟩ = some (.slice (some ad) dn dc) ∧ W'.cell? ⟨wr.heap.size, 0, none⟩ = some (.string ⟨xn.toArray⟩) ∧ W'.cell? ⟨wr.heap.size, 1, none⟩ = some (.int .i64 xc) ∧ Below W0.heap.size W0 W'))
          clear hrw hbad hgood
          go_wp2_with fail
          rw [← hW0]
          clear hW0 hszW c0 c1
          refine wpC_region (fun W' => W'.cell? ⟨w.heap.size, 1, none⟩ = some (.slice (some ad) dn dc) ∧ W'.cell? ⟨wr.heap.size, 0, none⟩ = some (.string ⟨xn.toArray⟩) ∧ W'.cell? ⟨wr.heap.size, 1, none⟩ = some (.int .i64 xc) ∧ Below W0.heap.size W0 W') (by kernel_rfl) (by kernel_rfl) (hS.out _ hS0) (fun OPS D QQ HO hD hD2 hQQ => ?_)
          have hgo4 : Hid ((OPS[4]?).bind (·.dst) = some 25) := by show _ = _; rw [HO.out]; rfl
          have hgo9 : Hid ((OPS[9]?).bind (·.dst) = some 30) := by show _ = _; rw [HO.out]; rfl
          have hgo14 : Hid ((OPS[14]?).bind (·.dst) = some 35) := by show _ = _; rw [HO.out]; rfl
          have hgo17 : Hid ((OPS[17]?).bind (·.dst) = some 38) := by show _ = _; rw [HO.out]; rfl
          clear HO
          have HD := Lib.hid hD
          have HD2 := Lib.hid hD2
          have HQQ := Lib.hid hQQ
          clear hD hD2 hQQ
          refine wpC_read (v := ?_) rfl (fun W hW => ?_) ?_
          rotate_left
          · clear hW; go_simp; try (with_reducible rfl)
          try simp only [Act.put, List.setIfInBounds_toArray, List.set_cons_zero, List.set_cons_succ]
          refine wpC_read (v := ?_) rfl (fun W hW => ?_) ?_
          rotate_left
          · replace hW := HD.out W hW
            obtain ⟨q0, q1, q2, hcW⟩ := hW
            go_simp; try (with_reducible rfl)
          try simp only [Act.put, List.setIfInBounds_toArray, List.set_cons_zero, List.set_cons_succ]
          refine wpC_read (v := .bool true) rfl (fun W hW => ?_) ?_
          · replace hW := HD.out W hW
            obtain ⟨q0, q1, q2, hcW⟩ := hW
            go_simp
            refine (hN _).mono ?_
            rintro e w4 ⟨rfl, hbn⟩
            exact ⟨rfl, HD2.out _ (hS.out _ (below_step hcW hbn))⟩
          try simp only [Act.put, List.setIfInBounds_toArray, List.set_cons_zero, List.set_cons_succ]
          refine wpC_read (v := ?_) rfl (fun W hW => ?_) ?_
          rotate_left
          · clear hW; go_simp; try (with_reducible rfl)
          try simp only [Act.put, List.setIfInBounds_toArray, List.set_cons_zero, List.set_cons_succ]
          refine wpC_read (v := ?_) rfl (fun W hW => ?_) ?_
          rotate_left
          · clear hW; go_simp; try (with_reducible rfl)
          try simp only [Act.put, List.setIfInBounds_toArray, List.set_cons_zero, List.set_cons_succ]
          refine wpC_gread (v := ?_) rfl hgo4.out rfl (fun W hW => ?_) ?_
          rotate_left
          · clear hW; go_simp; try (with_reducible rfl)
          try simp only [Act.put, List.setIfInBounds_toArray, List.set_cons_zero, List.set_cons_succ]
          refine wpC_gread (v := ?_) rfl hgo4.out rfl (fun W hW => ?_) ?_
          rotate_left
          · replace hW := HD.out W hW
            obtain ⟨q0, q1, q2, hcW⟩ := hW
            go_simp; try (with_reducible rfl)
          try simp only [Act.put, List.setIfInBounds_toArray, List.set_cons_zero, List.set_cons_succ]
          refine wpC_gread (v := ?_) rfl hgo4.out rfl (fun W hW => ?_) ?_
          rotate_left
          · clear hW; go_simp; try (with_reducible rfl)
          try simp only [Act.put, List.setIfInBounds_toArray, List.set_cons_zero, List.set_cons_succ]
          refine wpC_read (v := ?_) rfl (fun W hW => ?_) ?_
          rotate_left
          · clear hW; go_simp; try (with_reducible rfl)
          try simp only [Act.put, List.setIfInBounds_toArray, List.set_cons_zero, List.set_cons_succ]
          refine wpC_read (v := ?_) rfl (fun W hW => ?_) ?_
          rotate_left
          · clear hW; go_simp; try (with_reducible rfl)
          try simp only [Act.put, List.setIfInBounds_toArray, List.set_cons_zero, List.set_cons_succ]
          refine wpC_gread (v := ?_) rfl hgo9.out rfl (fun W hW => ?_) ?_
          rotate_left
          · clear hW; go_simp; try (with_reducible rfl)
          try simp only [Act.put, List.setIfInBounds_toArray, List.set_cons_zero, List.set_cons_succ]
          refine wpC_gread (v := ?_) rfl hgo9.out rfl (fun W hW => ?_) ?_
          rotate_left
          · replace hW := HD.out W hW
            obtain ⟨q0, q1, q2, hcW⟩ := hW
            go_simp; try (with_reducible rfl)
          try simp only [Act.put, List.setIfInBounds_toArray, List.set_cons_zero, List.set_cons_succ]
          refine wpC_gread (v := ?_) rfl hgo9.out rfl (fun W hW => ?_) ?_
          rotate_left
          · clear hW; go_simp; try (with_reducible rfl)
          try simp only [Act.put, List.setIfInBounds_toArray, List.set_cons_zero, List.set_cons_succ]
          refine wpC_read (v := ?_) rfl (fun W hW => ?_) ?_
          rotate_left
          · clear hW; go_simp; try (with_reducible rfl)
          try simp only [Act.put, List.setIfInBounds_toArray, List.set_cons_zero, List.set_cons_succ]
          refine wpC_read (v := ?_) rfl (fun W hW => ?_) ?_
          rotate_left
          · clear hW; go_simp; try (with_reducible rfl)
          try simp only [Act.put, List.setIfInBounds_toArray, List.set_cons_zero, List.set_cons_succ]
          refine wpC_gread (v := ?_) rfl hgo14.out rfl (fun W hW => ?_) ?_
          rotate_left
          · clear hW; go_simp; try (with_reducible rfl)
          try simp only [Act.put, List.setIfInBounds_toArray, List.set_cons_zero, List.set_cons_succ]
          refine wpC_gread (v := ?_) rfl hgo14.out rfl (fun W hW => ?_) ?_
          rotate_left
          · clear hW; go_simp; try (with_reducible rfl)
          try simp only [Act.put, List.setIfInBounds_toArray, List.set_cons_zero, List.set_cons_succ]
          refine wpC_gread (v := ?_) rfl hgo14.out rfl (fun W hW => ?_) ?_
          rotate_left
          · clear hW; go_simp; try (with_reducible rfl)
          try simp only [Act.put, List.setIfInBounds_toArray, List.set_cons_zero, List.set_cons_succ]
          refine wpC_skip rfl hgo17.out (.inl rfl) ?_
          try simp only [Act.put, List.setIfInBounds_toArray, List.set_cons_zero, List.set_cons_succ]
          refine wpC_skip rfl hgo17.out (.inl rfl) ?_
          try simp only [Act.put, List.setIfInBounds_toArray, List.set_cons_zero, List.set_cons_succ]
          refine wpC_skip rfl hgo17.out (.inl rfl) ?_
          try simp only [Act.put, List.setIfInBounds_toArray, List.set_cons_zero, List.set_cons_succ]
          refine wpC_skip rfl hgo17.out (.inl rfl) ?_
          try simp only [Act.put, List.setIfInBounds_toArray, List.set_cons_zero, List.set_cons_succ]
          refine wpC_skip rfl hgo17.out (.inl rfl) ?_
          try simp only [Act.put, List.setIfInBounds_toArray, List.set_cons_zero, List.set_cons_succ]
          refine wpC_skip rfl hgo17.out (.inl rfl) ?_
          try simp only [Act.put, List.setIfInBounds_toArray, List.set_cons_zero, List.set_cons_succ]
          refine wpC_skip rfl hgo17.out (.inl rfl) ?_
          try simp only [Act.put, List.setIfInBounds_toArray, List.set_cons_zero, List.set_cons_succ]
          refine wpC_skip rfl hgo17.out (.inl rfl) ?_
          try simp only [Act.put, List.setIfInBounds_toArray, List.set_cons_zero, List.set_cons_succ]
          refine wpC_skip rfl hgo17.out (.inl rfl) ?_
          try simp only [Act.put, List.setIfInBounds_toArray, List.set_cons_zero, List.set_cons_succ]
          refine wpC_skip rfl hgo17.out (.inl rfl) ?_
          try simp only [Act.put, List.setIfInBounds_toArray, List.set_cons_zero, List.set_cons_succ]
          refine wpC_gread (v := ?_) rfl hgo14.out rfl (fun W hW => ?_) ?_
          rotate_left
          · clear hW; go_simp; try (with_reducible rfl)
          try simp only [Act.put, List.setIfInBounds_toArray, List.set_cons_zero, List.set_cons_succ]
          refine wpC_read (v := ?_) rfl (fun W hW => ?_) ?_
          rotate_left
          · clear hW; go_simp; try (with_reducible rfl)
          try simp only [Act.put, List.setIfInBounds_toArray, List.set_cons_zero, List.set_cons_succ]
          refine wpQuiet_nil (HQQ.out _ (fun W hW => ?_))
          obtain ⟨q0, q1, q2, hcW⟩ := hW
          go_wp2_with fail
          go_roundw
          case rel => exact ⟨k + 1, by omega, by go_num, HG, hbW1.trans (hcW.mono hbW1.size)⟩
          case measure => simp [intOf]; omega
        · have d4 : decide ((0 : Int) < (k : Int)) = true := by simp; omega
          have d4' : decide (0 < k) = true := by simp; omega
          have hk1l : k - 1 < l.length := by omega
          obtain ⟨y, hy⟩ : ∃ y, y = l[k - 1]'hk1l := ⟨_, rfl⟩
          have hpv : prevH l k = some y.1 := by
            obtain ⟨j, rfl⟩ : ∃ j, k = j + 1 := ⟨k - 1, by omega⟩
            show (l[j]?).map _ = _
            have hj : j < l.length := by simpa using hk1l
            rw [List.getElem?_eq_getElem hj, hy]
            rfl
          obtain ⟨ad2, e2, -, p0, p1⟩ := (hrw.el2 HN.out (i := k - 1) (by omega))
          injection e2 with e2
          subst e2
          rw [← hy] at p0 p1
          obtain ⟨yn, yc⟩ := y
          simp only at p0 p1 hpv
          have hltw : (ad.add ((k - 1) * 2)).block < wr.heap.size := by rw [block_of_add]; omega
          have hltp : (ad.add ((k - 1) * 2)).block < W0.heap.size := by omega
          have kp0 : W0.cell? (ad.add ((k - 1) * 2)) = some (.string ⟨yn.toArray⟩) := by rw [hW0]; exact (World.cell?_alloc_lt wr _ _ hltw).trans p0
          have i1 : (1 : Int) ≤ (k : Int) := by omega
          have i2 : (k : Int) - 1 < (dn : Int) := by omega
          have i3 : IntKind.i64.wrap ((k : Int) - 1) = (k : Int) - 1 := IntWalk.i64_in _ (by omega)
          have i4 : ((k : Int) - 1).toNat = k - 1 := by omega
          have hleq := leqS 9 xn yn
          rw [bl_leq] at hleq
          have hbadO := fun (h : Op.bytesLess yn xn = false) => hbad.out (.inr (.inr (.inr ⟨_, hpv, h⟩)))
          have hgoodO := fun (h : Op.bytesLess yn xn = true) => hgood.out rfl (by omega) (by omega) (fun y' hy' => by rw [hpv] at hy'; cases hy'; exact h)
          obtain ⟨z, hz⟩ : ∃ z, z = Op.bytesLess yn xn := ⟨_, rfl⟩
          rw [← hz] at hleq hbadO hgoodO
          clear hz
          cases z with
          | true =>
            have HG := Lib.hid (hgoodO rfl)
            simp only [Bool.not_true] at hleq
            clear h0 hpv hy p0 p1 hbadO hgoodO
            have hS := Lib.hid (fun (W' : World) (hB : Below W0.heap.size W0 W') => (⟨(hT.out _ (hbW1.trans (hB.mono hbW1.size))).2, (hB.cell (p := ⟨wr.heap.size, 0, none⟩) hlt0).trans k0, (hB.cell (p := ⟨wr.heap.size, 1, none⟩) hlt0).trans k1, (hB.cell (p := ad.add ((k - 1) * 2)) hltp).trans kp0, hB⟩ : W'.cell? ⟨w.heap.size, 1, none⟩ = some (.slice (some ad) dn dc) ∧ W'.cell? ⟨wr.heap.size, 0, none⟩ = some (.string ⟨xn.toArray⟩) ∧ W'.cell? ⟨wr.heap.size, 1, none⟩ = some (.int .i64 xc) ∧ W'.cell? (ad.add ((k - 1) * 2)) = some (.string ⟨yn.toArray⟩) ∧ Below W0.heap.size W0 W'))
            clear hrw hbad hgood
            go_wp2_with fail
            rw [← hW0]
            clear hW0 hszW c0 c1
            refine wpC_region (fun W' => W'.cell? ⟨w.heap.size, 1, none⟩ = some (.slice (some ad) dn dc) ∧ W'.cell? ⟨wr.heap.size, 0, none⟩ = some (.string ⟨xn.toArray⟩) ∧ W'.cell? ⟨wr.heap.size, 1, none⟩ = some (.int .i64 xc) ∧ W'.cell? (ad.add ((k - 1) * 2)) = some (.string ⟨yn.toArray⟩) ∧ Below W0.heap.size W0 W') (by kernel_rfl) (by kernel_rfl) (hS.out _ hS0) (fun OPS D QQ HO hD hD2 hQQ => ?_)
            have hgo4 : Hid ((OPS[4]?).bind (·.dst) = some 25) := by show _ = _; rw [HO.out]; rfl
            have hgo9 : Hid ((OPS[9]?).bind (·.dst) = some 30) := by show _ = _; rw [HO.out]; rfl
            have hgo14 : Hid ((OPS[14]?).bind (·.dst) = some 35) := by show _ = _; rw [HO.out]; rfl
            have hgo17 : Hid ((OPS[17]?).bind (·.dst) = some 38) := by show _ = _; rw [HO.out]; rfl
            clear HO
            have HD := Lib.hid hD
            have HD2 := Lib.hid hD2
            have HQQ := Lib.hid hQQ
            clear hD hD2 hQQ
            refine wpC_read (v := ?_) rfl (fun W hW => ?_) ?_
            rotate_left
            · clear hW; go_simp; try (with_reducible rfl)
            try simp only [Act.put, List.setIfInBounds_toArray, List.set_cons_zero, List.set_cons_succ]
            refine wpC_read (v := ?_) rfl (fun W hW => ?_) ?_
            rotate_left
            · replace hW := HD.out W hW
              obtain ⟨q0, q1, q2, q3, hcW⟩ := hW
              go_simp; try (with_reducible rfl)
            try simp only [Act.put, List.setIfInBounds_toArray, List.set_cons_zero, List.set_cons_succ]
            refine wpC_read (v := .bool true) rfl (fun W hW => ?_) ?_
            · replace hW := HD.out W hW
              obtain ⟨q0, q1, q2, q3, hcW⟩ := hW
              go_simp
              refine (hN _).mono ?_
              rintro e w4 ⟨rfl, hbn⟩
              exact ⟨rfl, HD2.out _ (hS.out _ (below_step hcW hbn))⟩
            try simp only [Act.put, List.setIfInBounds_toArray, List.set_cons_zero, List.set_cons_succ]
            refine wpC_read (v := ?_) rfl (fun W hW => ?_) ?_
            rotate_left
            · clear hW; go_simp; try (with_reducible rfl)
            try simp only [Act.put, List.setIfInBounds_toArray, List.set_cons_zero, List.set_cons_succ]
            refine wpC_read (v := ?_) rfl (fun W hW => ?_) ?_
            rotate_left
            · clear hW; go_simp; try (with_reducible rfl)
            try simp only [Act.put, List.setIfInBounds_toArray, List.set_cons_zero, List.set_cons_succ]
            refine wpC_gread (v := ?_) rfl hgo4.out rfl (fun W hW => ?_) ?_
            rotate_left
            · clear hW; go_simp; try (with_reducible rfl)
            try simp only [Act.put, List.setIfInBounds_toArray, List.set_cons_zero, List.set_cons_succ]
            refine wpC_gread (v := ?_) rfl hgo4.out rfl (fun W hW => ?_) ?_
            rotate_left
            · replace hW := HD.out W hW
              obtain ⟨q0, q1, q2, q3, hcW⟩ := hW
              go_simp; try (with_reducible rfl)
            try simp only [Act.put, List.setIfInBounds_toArray, List.set_cons_zero, List.set_cons_succ]
            refine wpC_gread (v := ?_) rfl hgo4.out rfl (fun W hW => ?_) ?_
            rotate_left
            · clear hW; go_simp; try (with_reducible rfl)
            try simp only [Act.put, List.setIfInBounds_toArray, List.set_cons_zero, List.set_cons_succ]
            refine wpC_read (v := ?_) rfl (fun W hW => ?_) ?_
            rotate_left
            · clear hW; go_simp; try (with_reducible rfl)
            try simp only [Act.put, List.setIfInBounds_toArray, List.set_cons_zero, List.set_cons_succ]
            refine wpC_read (v := ?_) rfl (fun W hW => ?_) ?_
            rotate_left
            · clear hW; go_simp; try (with_reducible rfl)
            try simp only [Act.put, List.setIfInBounds_toArray, List.set_cons_zero, List.set_cons_succ]
            refine wpC_gread (v := ?_) rfl hgo9.out rfl (fun W hW => ?_) ?_
            rotate_left
            · clear hW; go_simp; try (with_reducible rfl)
            try simp only [Act.put, List.setIfInBounds_toArray, List.set_cons_zero, List.set_cons_succ]
            refine wpC_gread (v := ?_) rfl hgo9.out rfl (fun W hW => ?_) ?_
            rotate_left
            · replace hW := HD.out W hW
              obtain ⟨q0, q1, q2, q3, hcW⟩ := hW
              go_simp; try (with_reducible rfl)
            try simp only [Act.put, List.setIfInBounds_toArray, List.set_cons_zero, List.set_cons_succ]
            refine wpC_gread (v := ?_) rfl hgo9.out rfl (fun W hW => ?_) ?_
            rotate_left
            · clear hW; go_simp; try (with_reducible rfl)
            try simp only [Act.put, List.setIfInBounds_toArray, List.set_cons_zero, List.set_cons_succ]
            refine wpC_read (v := ?_) rfl (fun W hW => ?_) ?_
            rotate_left
            · clear hW; go_simp; try (with_reducible rfl)
            try simp only [Act.put, List.setIfInBounds_toArray, List.set_cons_zero, List.set_cons_succ]
            refine wpC_read (v := ?_) rfl (fun W hW => ?_) ?_
            rotate_left
            · clear hW; go_simp; try (with_reducible rfl)
            try simp only [Act.put, List.setIfInBounds_toArray, List.set_cons_zero, List.set_cons_succ]
            refine wpC_gread (v := ?_) rfl hgo14.out rfl (fun W hW => ?_) ?_
            rotate_left
            · clear hW; go_simp; try (with_reducible rfl)
            try simp only [Act.put, List.setIfInBounds_toArray, List.set_cons_zero, List.set_cons_succ]
            refine wpC_gread (v := ?_) rfl hgo14.out rfl (fun W hW => ?_) ?_
            rotate_left
            · clear hW; go_simp; try (with_reducible rfl)
            try simp only [Act.put, List.setIfInBounds_toArray, List.set_cons_zero, List.set_cons_succ]
            refine wpC_gread (v := ?_) rfl hgo14.out rfl (fun W hW => ?_) ?_
            rotate_left
            · clear hW; go_simp; try (with_reducible rfl)
            try simp only [Act.put, List.setIfInBounds_toArray, List.set_cons_zero, List.set_cons_succ]
            refine wpC_gread (v := ?_) rfl hgo17.out rfl (fun W hW => ?_) ?_
            rotate_left
            · clear hW; go_simp; try (with_reducible rfl)
            try simp only [Act.put, List.setIfInBounds_toArray, List.set_cons_zero, List.set_cons_succ]
            refine wpC_gread (v := ?_) rfl hgo17.out rfl (fun W hW => ?_) ?_
            rotate_left
            · replace hW := HD.out W hW
              obtain ⟨q0, q1, q2, q3, hcW⟩ := hW
              go_simp; try (with_reducible rfl)
            try simp only [Act.put, List.setIfInBounds_toArray, List.set_cons_zero, List.set_cons_succ]
            refine wpC_gread (v := ?_) rfl hgo17.out rfl (fun W hW => ?_) ?_
            rotate_left
            · clear hW; go_simp; try (with_reducible rfl)
            try simp only [Act.put, List.setIfInBounds_toArray, List.set_cons_zero, List.set_cons_succ]
            refine wpC_gread (v := ?_) rfl hgo17.out rfl (fun W hW => ?_) ?_
            rotate_left
            · replace hW := HD.out W hW
              obtain ⟨q0, q1, q2, q3, hcW⟩ := hW
              go_simp; try (with_reducible rfl)
            try simp only [Act.put, List.setIfInBounds_toArray, List.set_cons_zero, List.set_cons_succ]
            refine wpC_gread (v := ?_) rfl hgo17.out rfl (fun W hW => ?_) ?_
            rotate_left
            · clear hW; go_simp; try (with_reducible rfl)
            try simp only [Act.put, List.setIfInBounds_toArray, List.set_cons_zero, List.set_cons_succ]
            refine wpC_gread (v := ?_) rfl hgo17.out rfl (fun W hW => ?_) ?_
            rotate_left
            · clear hW; go_simp; try (with_reducible rfl)
            try simp only [Act.put, List.setIfInBounds_toArray, List.set_cons_zero, List.set_cons_succ]
            refine wpC_gread (v := ?_) rfl hgo17.out rfl (fun W hW => ?_) ?_
            rotate_left
            · clear hW; go_simp; try (with_reducible rfl)
            try simp only [Act.put, List.setIfInBounds_toArray, List.set_cons_zero, List.set_cons_succ]
            refine wpC_gread (v := ?_) rfl hgo17.out rfl (fun W hW => ?_) ?_
            rotate_left
            · clear hW; go_simp; try (with_reducible rfl)
            try simp only [Act.put, List.setIfInBounds_toArray, List.set_cons_zero, List.set_cons_succ]
            refine wpC_gread (v := ?_) rfl hgo17.out rfl (fun W hW => ?_) ?_
            rotate_left
            · replace hW := HD.out W hW
              obtain ⟨q0, q1, q2, q3, hcW⟩ := hW
              go_simp; try (with_reducible rfl)
            try simp only [Act.put, List.setIfInBounds_toArray, List.set_cons_zero, List.set_cons_succ]
            refine wpC_gread (v := ?_) rfl hgo17.out rfl (fun W hW => ?_) ?_
            rotate_left
            · clear hW; go_simp; try (with_reducible rfl)
            try simp only [Act.put, List.setIfInBounds_toArray, List.set_cons_zero, List.set_cons_succ]
            refine wpC_gread (v := ?_) rfl hgo14.out rfl (fun W hW => ?_) ?_
            rotate_left
            · clear hW; go_simp; try (with_reducible rfl)
            try simp only [Act.put, List.setIfInBounds_toArray, List.set_cons_zero, List.set_cons_succ]
            refine wpC_read (v := ?_) rfl (fun W hW => ?_) ?_
            rotate_left
            · clear hW; go_simp; try (with_reducible rfl)
            try simp only [Act.put, List.setIfInBounds_toArray, List.set_cons_zero, List.set_cons_succ]
            refine wpQuiet_nil (HQQ.out _ (fun W hW => ?_))
            obtain ⟨q0, q1, q2, q3, hcW⟩ := hW
            go_wp2_with fail
            go_roundw
            case rel => exact ⟨k + 1, by omega, by go_num, HG, hbW1.trans (hcW.mono hbW1.size)⟩
            case measure => simp [intOf]; omega
          | false =>
            have HB := Lib.hid (hbadO rfl)
            simp only [Bool.not_false] at hleq
            clear h0 hpv hy p0 p1 hbadO hgoodO
            have hS := Lib.hid (fun (W' : World) (hB : Below W0.heap.size W0 W') => (⟨(hT.out _ (hbW1.trans (hB.mono hbW1.size))).2, (hB.cell (p := ⟨wr.heap.size, 0, none⟩) hlt0).trans k0, (hB.cell (p := ⟨wr.heap.size, 1, none⟩) hlt0).trans k1, (hB.cell (p := ad.add ((k - 1) * 2)) hltp).trans kp0, hB⟩ : W'.cell? ⟨w.heap.size, 1, none⟩ = some (.slice (some ad) dn dc) ∧ W'.cell? ⟨wr.heap.size, 0, none⟩ = some (.string ⟨xn.toArray⟩) ∧ W'.cell? ⟨wr.heap.size, 1, none⟩ = some (.int .i64 xc) ∧ W'.cell? (ad.add ((k - 1) * 2)) = some (.string ⟨yn.toArray⟩) ∧ Below W0.heap.size W0 W'))
            clear hrw hbad hgood
            go_wp2_with fail
            rw [← hW0]
            clear hW0 hszW c0 c1
            refine wpC_region (fun W' => W'.cell? ⟨w.heap.size, 1, none⟩ = some (.slice (some ad) dn dc) ∧ W'.cell? ⟨wr.heap.size, 0, none⟩ = some (.string ⟨xn.toArray⟩) ∧ W'.cell? ⟨wr.heap.size, 1, none⟩ = some (.int .i64 xc) ∧ W'.cell? (ad.add ((k - 1) * 2)) = some (.string ⟨yn.toArray⟩) ∧ Below W0.heap.size W0 W') (by kernel_rfl) (by kernel_rfl) (hS.out _ hS0) (fun OPS D QQ HO hD hD2 hQQ => ?_)
            have hgo4 : Hid ((OPS[4]?).bind (·.dst) = some 25) := by show _ = _; rw [HO.out]; rfl
            have hgo9 : Hid ((OPS[9]?).bind (·.dst) = some 30) := by show _ = _; rw [HO.out]; rfl
            have hgo14 : Hid ((OPS[14]?).bind (·.dst) = some 35) := by show _ = _; rw [HO.out]; rfl
            have hgo17 : Hid ((OPS[17]?).bind (·.dst) = some 38) := by show _ = _; rw [HO.out]; rfl
            clear HO
            have HD := Lib.hid hD
            have HD2 := Lib.hid hD2
            have HQQ := Lib.hid hQQ
            clear hD hD2 hQQ
            refine wpC_read (v := ?_) rfl (fun W hW => ?_) ?_
            rotate_left
            · clear hW; go_simp; try (with_reducible rfl)
            try simp only [Act.put, List.setIfInBounds_toArray, List.set_cons_zero, List.set_cons_succ]
            refine wpC_read (v := ?_) rfl (fun W hW => ?_) ?_
            rotate_left
            · replace hW := HD.out W hW
              obtain ⟨q0, q1, q2, q3, hcW⟩ := hW
              go_simp; try (with_reducible rfl)
            try simp only [Act.put, List.setIfInBounds_toArray, List.set_cons_zero, List.set_cons_succ]
            refine wpC_read (v := .bool true) rfl (fun W hW => ?_) ?_
            · replace hW := HD.out W hW
              obtain ⟨q0, q1, q2, q3, hcW⟩ := hW
              go_simp
              refine (hN _).mono ?_
              rintro e w4 ⟨rfl, hbn⟩
              exact ⟨rfl, HD2.out _ (hS.out _ (below_step hcW hbn))⟩
            try simp only [Act.put, List.setIfInBounds_toArray, List.set_cons_zero, List.set_cons_succ]
            refine wpC_read (v := ?_) rfl (fun W hW => ?_) ?_
            rotate_left
            · clear hW; go_simp; try (with_reducible rfl)
            try simp only [Act.put, List.setIfInBounds_toArray, List.set_cons_zero, List.set_cons_succ]
            refine wpC_read (v := ?_) rfl (fun W hW => ?_) ?_
            rotate_left
            · clear hW; go_simp; try (with_reducible rfl)
            try simp only [Act.put, List.setIfInBounds_toArray, List.set_cons_zero, List.set_cons_succ]
            refine wpC_gread (v := ?_) rfl hgo4.out rfl (fun W hW => ?_) ?_
            rotate_left
            · clear hW; go_simp; try (with_reducible rfl)
            try simp only [Act.put, List.setIfInBounds_toArray, List.set_cons_zero, List.set_cons_succ]
            refine wpC_gread (v := ?_) rfl hgo4.out rfl (fun W hW => ?_) ?_
            rotate_left
            · replace hW := HD.out W hW
              obtain ⟨q0, q1, q2, q3, hcW⟩ := hW
              go_simp; try (with_reducible rfl)
            try simp only [Act.put, List.setIfInBounds_toArray, List.set_cons_zero, List.set_cons_succ]
            refine wpC_gread (v := ?_) rfl hgo4.out rfl (fun W hW => ?_) ?_
            rotate_left
            · clear hW; go_simp; try (with_reducible rfl)
            try simp only [Act.put, List.setIfInBounds_toArray, List.set_cons_zero, List.set_cons_succ]
            refine wpC_read (v := ?_) rfl (fun W hW => ?_) ?_
            rotate_left
            · clear hW; go_simp; try (with_reducible rfl)
            try simp only [Act.put, List.setIfInBounds_toArray, List.set_cons_zero, List.set_cons_succ]
            refine wpC_read (v := ?_) rfl (fun W hW => ?_) ?_
            rotate_left
            · clear hW; go_simp; try (with_reducible rfl)
            try simp only [Act.put, List.setIfInBounds_toArray, List.set_cons_zero, List.set_cons_succ]
            refine wpC_gread (v := ?_) rfl hgo9.out rfl (fun W hW => ?_) ?_
            rotate_left
            · clear hW; go_simp; try (with_reducible rfl)
            try simp only [Act.put, List.setIfInBounds_toArray, List.set_cons_zero, List.set_cons_succ]
            refine wpC_gread (v := ?_) rfl hgo9.out rfl (fun W hW => ?_) ?_
            rotate_left
            · replace hW := HD.out W hW
              obtain ⟨q0, q1, q2, q3, hcW⟩ := hW
              go_simp; try (with_reducible rfl)
            try simp only [Act.put, List.setIfInBounds_toArray, List.set_cons_zero, List.set_cons_succ]
            refine wpC_gread (v := ?_) rfl hgo9.out rfl (fun W hW => ?_) ?_
            rotate_left
            · clear hW; go_simp; try (with_reducible rfl)
            try simp only [Act.put, List.setIfInBounds_toArray, List.set_cons_zero, List.set_cons_succ]
            refine wpC_read (v := ?_) rfl (fun W hW => ?_) ?_
            rotate_left
            · clear hW; go_simp; try (with_reducible rfl)
            try simp only [Act.put, List.setIfInBounds_toArray, List.set_cons_zero, List.set_cons_succ]
            refine wpC_read (v := ?_) rfl (fun W hW => ?_) ?_
            rotate_left
            · clear hW; go_simp; try (with_reducible rfl)
            try simp only [Act.put, List.setIfInBounds_toArray, List.set_cons_zero, List.set_cons_succ]
            refine wpC_gread (v := ?_) rfl hgo14.out rfl (fun W hW => ?_) ?_
            rotate_left
            · clear hW; go_simp; try (with_reducible rfl)
            try simp only [Act.put, List.setIfInBounds_toArray, List.set_cons_zero, List.set_cons_succ]
            refine wpC_gread (v := ?_) rfl hgo14.out rfl (fun W hW => ?_) ?_
            rotate_left
            · clear hW; go_simp; try (with_reducible rfl)
            try simp only [Act.put, List.setIfInBounds_toArray, List.set_cons_zero, List.set_cons_succ]
            refine wpC_gread (v := ?_) rfl hgo14.out rfl (fun W hW => ?_) ?_
            rotate_left
            · clear hW; go_simp; try (with_reducible rfl)
            try simp only [Act.put, List.setIfInBounds_toArray, List.set_cons_zero, List.set_cons_succ]
            refine wpC_gread (v := ?_) rfl hgo17.out rfl (fun W hW => ?_) ?_
            rotate_left
            · clear hW; go_simp; try (with_reducible rfl)
            try simp only [Act.put, List.setIfInBounds_toArray, List.set_cons_zero, List.set_cons_succ]
            refine wpC_gread (v := ?_) rfl hgo17.out rfl (fun W hW => ?_) ?_
            rotate_left
            · replace hW := HD.out W hW
              obtain ⟨q0, q1, q2, q3, hcW⟩ := hW
              go_simp; try (with_reducible rfl)
            try simp only [Act.put, List.setIfInBounds_toArray, List.set_cons_zero, List.set_cons_succ]
            refine wpC_gread (v := ?_) rfl hgo17.out rfl (fun W hW => ?_) ?_
            rotate_left
            · clear hW; go_simp; try (with_reducible rfl)
            try simp only [Act.put, List.setIfInBounds_toArray, List.set_cons_zero, List.set_cons_succ]
            refine wpC_gread (v := ?_) rfl hgo17.out rfl (fun W hW => ?_) ?_
            rotate_left
            · replace hW := HD.out W hW
              obtain ⟨q0, q1, q2, q3, hcW⟩ := hW
              go_simp; try (with_reducible rfl)
            try simp only [Act.put, List.setIfInBounds_toArray, List.set_cons_zero, List.set_cons_succ]
            refine wpC_gread (v := ?_) rfl hgo17.out rfl (fun W hW => ?_) ?_
            rotate_left
            · clear hW; go_simp; try (with_reducible rfl)
            try simp only [Act.put, List.setIfInBounds_toArray, List.set_cons_zero, List.set_cons_succ]
            refine wpC_gread (v := ?_) rfl hgo17.out rfl (fun W hW => ?_) ?_
            rotate_left
            · clear hW; go_simp; try (with_reducible rfl)
            try simp only [Act.put, List.setIfInBounds_toArray, List.set_cons_zero, List.set_cons_succ]
            refine wpC_gread (v := ?_) rfl hgo17.out rfl (fun W hW => ?_) ?_
            rotate_left
            · clear hW; go_simp; try (with_reducible rfl)
            try simp only [Act.put, List.setIfInBounds_toArray, List.set_cons_zero, List.set_cons_succ]
            refine wpC_gread (v := ?_) rfl hgo17.out rfl (fun W hW => ?_) ?_
            rotate_left
            · clear hW; go_simp; try (with_reducible rfl)
            try simp only [Act.put, List.setIfInBounds_toArray, List.set_cons_zero, List.set_cons_succ]
            refine wpC_gread (v := ?_) rfl hgo17.out rfl (fun W hW => ?_) ?_
            rotate_left
            · replace hW := HD.out W hW
              obtain ⟨q0, q1, q2, q3, hcW⟩ := hW
              go_simp; try (with_reducible rfl)
            try simp only [Act.put, List.setIfInBounds_toArray, List.set_cons_zero, List.set_cons_succ]
            refine wpC_gread (v := ?_) rfl hgo17.out rfl (fun W hW => ?_) ?_
            rotate_left
            · clear hW; go_simp; try (with_reducible rfl)
            try simp only [Act.put, List.setIfInBounds_toArray, List.set_cons_zero, List.set_cons_succ]
            refine wpC_gread (v := ?_) rfl hgo14.out rfl (fun W hW => ?_) ?_
            rotate_left
            · clear hW; go_simp; try (with_reducible rfl)
            try simp only [Act.put, List.setIfInBounds_toArray, List.set_cons_zero, List.set_cons_succ]
            refine wpC_read (v := ?_) rfl (fun W hW => ?_) ?_
            rotate_left
            · clear hW; go_simp; try (with_reducible rfl)
            try simp only [Act.put, List.setIfInBounds_toArray, List.set_cons_zero, List.set_cons_succ]
            refine wpQuiet_nil (HQQ.out _ (fun W hW => ?_))
            obtain ⟨q0, q1, q2, q3, hcW⟩ := hW
            go_wp2_with fail
            go_ret
            exact ⟨by rw [HB.out]; rfl, HUP.out _ (hbW1.trans (hcW.mono hbW1.size))⟩
    · have hke : k = dn := by omega
      have HF : Hid (hadFrom none l = true) := by
        show _ = _
        rw [hok.out, List.drop_of_length_le (by rw [hke, HN.out]; exact Nat.le_refl _)]
        cases prevH l k <;> rfl
      have hnl : ¬ (k : Int) < (dn : Int) := by omega
      have HV2 : Hid (V = if ropnFrom T [] T.opn = true then 0 else 9) := by show _ = _; rw [HV.out, HF.out, Bool.true_and]
      have HBW := Lib.hid hbw
      clear hok hrw hbw
      go_wp2_with fail
      clear c0 c1 hsl hBr hnl hke
      obtain ⟨wp, hwp⟩ : ∃ X, X = wr := ⟨_, rfl⟩
      rw [← hwp] at HBW
      try rw [← hwp]
      clear hwp wr
      go_loopw [5] (fun i wr => ∃ k : Nat, k ≤ on ∧ i = .int .i64 (k : Int) ∧ Hid (ropnFrom T [] T.opn = ropnFrom T (T.opn.take k) (T.opn.drop k)) ∧ Below W1.heap.size W1 wr) (fun i _ => on - (intOf i).toNat)
      case atStart => exact ⟨0, Nat.zero_le _, rfl, rfl, HBW.out⟩
      case round =>
        clear HBW HF HV hlt hk
        obtain ⟨k, hk, rfl, hok, hbw⟩ := hrel
        obtain ⟨hrw, -, hsl, hBr⟩ := HRD.out wr hbw
        obtain ⟨c0, c1⟩ := hT.out wr hbw
        by_cases hlt : k < on
        · obtain ⟨ad, rfl, hadB, q0, q1, q2, q3, q4⟩ := ses_at hrw HNO.out hlt
          have hki : (k : Int) < (on : Int) := by omega
          have hkl : k < ol.length := by have := HNO.out; omega
          have hkT : k < T.opn.length := by rw [HTO.out, List.length_map]; exact hkl
          have hTx : T.opn[k]'hkT = (ol[k]'hkl).con := by simp only [HTO.out, List.getElem_map]
          have hdr := List.drop_eq_getElem_cons hkT
          have htk : T.opn.take (k + 1) = T.opn.take k ++ [T.opn[k]'hkT] := by rw [List.take_add_one, List.getElem?_eq_getElem hkT]; rfl
          rw [hTx] at hdr htk
          have hsx := HSE.out _ (List.getElem_mem hkl)
          have hnx := HRN.out _ (List.getElem_mem hkl)
          obtain ⟨y, hy⟩ : ∃ y, y = ol[k]'hkl := ⟨_, rfl⟩
          rw [← hy] at q0 q1 q2 q3 q4 hdr htk hsx hnx
          obtain ⟨yt, yh, yi, ⟨yA, yn, yc, yl⟩, yb⟩ := y
          simp only [SesR.con] at q0 q1 q2 q3 q4 hdr htk hnx
          have hsT : yt.length ≤ 4000000000 := hsx.ten
          have hsI : yi.length ≤ 4000000000 := hsx.into
          have HDR := Lib.hid hdr
          have HTK := Lib.hid htk
          have HBD2 : Hid ((rsesB T ⟨yt, yh, yi, yl, yb⟩ && (T.opn.take k).all (fun o => okPair o ⟨yt, yh, yi, yl, yb⟩)) = false → V = 9) := by
            show _ → _
            intro h
            rw [HV2.out, hok.out, HDR.out, ropnFrom_cons, h, Bool.false_and]
            rfl
          have HNX0 : Hid (rsesB T ⟨yt, yh, yi, yl, yb⟩ = true → (T.opn.take k).all (fun o => okPair o ⟨yt, yh, yi, yl, yb⟩) = true → ropnFrom T [] T.opn = ropnFrom T (T.opn.take (k + 1)) (T.opn.drop (k + 1))) := by
            show _ → _ → _
            intro h1 h2
            rw [hok.out, HDR.out, ropnFrom_cons, h1, h2, HTK.out]
            rfl
          obtain ⟨m, hm⟩ : ∃ m, m = (seOf T.opn yt).length := ⟨_, rfl⟩
          obtain ⟨zH, hzH⟩ : ∃ z, z = seHad T.had yt := ⟨_, rfl⟩
          obtain ⟨bN, hbN⟩ : ∃ b, b = nameB yt := ⟨_, rfl⟩
          obtain ⟨bP, hbP⟩ : ∃ b, b = sePath yi := ⟨_, rfl⟩
          have HRS : Hid (rsesB T ⟨yt, yh, yi, yl, yb⟩ = (bN && bP && decide (yn ≤ 4096) && decide (1 ≤ yh) && decide (yh ≤ zH) && decide (m ≤ 16))) := by
            show _ = _
            rw [hbN, hbP, hzH, hm, hnx]
            rfl
          have HBD : Hid ((bN && bP && decide (yn ≤ 4096) && decide (1 ≤ yh) && decide (yh ≤ zH) && decide (m ≤ 16)) = false → V = 9) := by
            show _ → _
            intro h
            refine HBD2.out ?_
            rw [HRS.out, h]
            rfl
          obtain ⟨W0, hW0⟩ : ∃ W0, W0 = wr.alloc (.cells #[.string ⟨yt.toArray⟩, .int .i64 yh, .string ⟨yi.toArray⟩, .slice yA yn yc, .bool yb] 33) := ⟨_, rfl⟩
          have kB := Blk.new wr 33 #[.string ⟨yt.toArray⟩, .int .i64 yh, .string ⟨yi.toArray⟩, .slice yA yn yc, .bool yb]
          have hbW1 : Below W1.heap.size W1 W0 := by rw [hW0]; exact hbw.alloc hbw.size _
          have hsz0 : W0.heap.size = wr.heap.size + 1 := by rw [hW0]; show (wr.heap.push _).size = _; rw [Array.size_push]
          rw [← hW0] at kB
          have hS := Lib.hid (fun (W' : World) (hB' : Below W0.heap.size W0 W') => (⟨(hT.out _ (hbW1.trans (hB'.mono hbW1.size))).1, (hT.out _ (hbW1.trans (hB'.mono hbW1.size))).2, (kB.below hB' (by omega)).cell 0, (kB.below hB' (by omega)).cell 1, (kB.below hB' (by omega)).cell 2, (kB.below hB' (by omega)).cell 3, (kB.below hB' (by omega)).cell 4⟩ :
            W'.cell? ⟨w.heap.size, 0, none⟩ = some (.slice (some ad) on oc) ∧ W'.cell? ⟨w.heap.size, 1, none⟩ = some (.slice dA dn dc) ∧ W'.cell? ⟨wr.heap.size, 0, none⟩ = some (.string ⟨yt.toArray⟩) ∧ W'.cell? ⟨wr.heap.size, 1, none⟩ = some (.int .i64 yh) ∧ W'.cell? ⟨wr.heap.size, 2, none⟩ = some (.string ⟨yi.toArray⟩) ∧ W'.cell? ⟨wr.heap.size, 3, none⟩ = some (.slice yA yn yc) ∧ W'.cell? ⟨wr.heap.size, 4, none⟩ = some (.bool yb)))
          have hNa : Hid (∀ W, Below W0.heap.size W0 W → Calls Tryd.prog 40 #[.string ⟨yt.toArray⟩] W fun e W' => e = .returned (.bool bN) ∧ Below W.heap.size W W') := fun W _ => by rw [hbN]; exact (refName_any yt W (by omega)).mono fun e w' h => ⟨h.1, by rw [h.2]; exact Below.refl _ _⟩
          have hPa : Hid (∀ W, Below W0.heap.size W0 W → Calls Tryd.prog 41 #[.string ⟨yi.toArray⟩] W fun e W' => e = .returned (.bool bP) ∧ Below W.heap.size W W') := fun W _ => by rw [hbP]; exact rpath26_any yi W hsI
          have hHx : Hid (∀ W, Below W0.heap.size W0 W → Calls Tryd.prog 44 #[.agg #[.slice (some ad) on oc, .slice dA dn dc], .string ⟨yt.toArray⟩] W fun e W' => e = .returned (.int .i64 zH) ∧ Below W.heap.size W W') := fun W h => by rw [hzH]; exact hHa.out yt W (hbW1.trans (h.mono hbW1.size))
          have hCx : Hid (∀ W, Below W0.heap.size W0 W → Calls Tryd.prog 43 #[.agg #[.slice (some ad) on oc, .slice dA dn dc], .string ⟨yt.toArray⟩] W fun e W' => e = .returned (.int .i64 (m : Int)) ∧ Below W.heap.size W W') := fun W h => by rw [hm]; exact hCt.out yt W (hbW1.trans (h.mono hbW1.size))
          have hyn : (decide (yn ≤ 4096) = false ∧ decide ((4096 : Int) < (yn : Int)) = true) ∨ (decide (yn ≤ 4096) = true ∧ decide ((4096 : Int) < (yn : Int)) = false) := by
            by_cases h : yn ≤ 4096
            · exact .inr ⟨by simpa using h, by simp; omega⟩
            · exact .inl ⟨by simpa using h, by simp; omega⟩
          have hyh : (decide (1 ≤ yh) = false ∧ decide (yh < 1) = true) ∨ (decide (1 ≤ yh) = true ∧ decide (yh < 1) = false) := by
            by_cases h : 1 ≤ yh
            · exact .inr ⟨by simpa using h, by simp; omega⟩
            · exact .inl ⟨by simpa using h, by simp; omega⟩
          have hzh : (decide (yh ≤ zH) = false ∧ decide (zH < yh) = true) ∨ (decide (yh ≤ zH) = true ∧ decide (zH < yh) = false) := by
            by_cases h : yh ≤ zH
            · exact .inr ⟨by simpa using h, by simp; omega⟩
            · exact .inl ⟨by simpa using h, by simp; omega⟩
          have hzm : (decide (m ≤ 16) = false ∧ decide ((16 : Int) < (m : Int)) = true) ∨ (decide (m ≤ 16) = true ∧ decide ((16 : Int) < (m : Int)) = false) := by
            by_cases h : m ≤ 16
            · exact .inr ⟨by simpa using h, by simp; omega⟩
            · exact .inl ⟨by simpa using h, by simp; omega⟩
          have hb4 := Below.refl W0.heap.size W0
          clear hdr htk hTx hy hrw hok hsx hnx hm hzH hbN hbP kB hbw hsT hsI
          go_wp2_with fail
          rw [← hW0]
          clear hW0 c0 c1 q0 q1 q2 q3 q4
          refine wpC_region (fun W' => Below W0.heap.size W0 W') (by kernel_rfl) (by kernel_rfl) (hb4.drew) (fun OPS D QQ HO hD hD2 hQQ => ?_)
          have hgo4 : Hid ((OPS[4]?).bind (·.dst) = some 67) := by show _ = _; rw [HO.out]; rfl
          have hgo10 : Hid ((OPS[10]?).bind (·.dst) = some 73) := by show _ = _; rw [HO.out]; rfl
          have hgo16 : Hid ((OPS[16]?).bind (·.dst) = some 79) := by show _ = _; rw [HO.out]; rfl
          have hgo21 : Hid ((OPS[21]?).bind (·.dst) = some 84) := by show _ = _; rw [HO.out]; rfl
          have hgo30 : Hid ((OPS[30]?).bind (·.dst) = some 93) := by show _ = _; rw [HO.out]; rfl
          clear HO
          have HD := Lib.hid hD
          have HD2 := Lib.hid hD2
          have HQQ := Lib.hid hQQ
          clear hD hD2 hQQ
          refine wpC_read (v := ?_) rfl (fun W hW => ?_) ?_
          rotate_left
          · clear hW; go_simp; try (with_reducible rfl)
          try simp only [Act.put, List.setIfInBounds_toArray, List.set_cons_zero, List.set_cons_succ]
          refine wpC_read (v := ?_) rfl (fun W hW => ?_) ?_
          rotate_left
          · replace hW := HD.out W hW
            obtain ⟨t0, t1, p0, p1, p2, p3, p4⟩ := hS.out W hW
            go_simp; try (with_reducible rfl)
          try simp only [Act.put, List.setIfInBounds_toArray, List.set_cons_zero, List.set_cons_succ]
          cases bN with
          | false =>
            have HB : Hid (V = 9) := HBD.out (by rfl)
            refine wpC_read (v := .bool false) rfl (fun W hW => ?_) ?_
            · replace hW := HD.out W hW
              obtain ⟨t0, t1, p0, p1, p2, p3, p4⟩ := hS.out W hW
              go_simp
              refine (hNa.out _ hW).mono ?_
              rintro e w5 ⟨rfl, hbn⟩
              exact ⟨rfl, HD2.out _ (below_step hW hbn)⟩
            try simp only [Act.put, List.setIfInBounds_toArray, List.set_cons_zero, List.set_cons_succ]
            refine wpC_read (v := ?_) rfl (fun W hW => ?_) ?_
            rotate_left
            · clear hW; go_simp; try (with_reducible rfl)
            try simp only [Act.put, List.setIfInBounds_toArray, List.set_cons_zero, List.set_cons_succ]
            refine wpC_read (v := ?_) rfl (fun W hW => ?_) ?_
            rotate_left
            · clear hW; go_simp; try (with_reducible rfl)
            try simp only [Act.put, List.setIfInBounds_toArray, List.set_cons_zero, List.set_cons_succ]
            refine wpC_skip rfl hgo4.out (.inl rfl) ?_
            try simp only [Act.put, List.setIfInBounds_toArray, List.set_cons_zero, List.set_cons_succ]
            refine wpC_skip rfl hgo4.out (.inl rfl) ?_
            try simp only [Act.put, List.setIfInBounds_toArray, List.set_cons_zero, List.set_cons_succ]
            refine wpC_skip rfl hgo4.out (.inl rfl) ?_
            try simp only [Act.put, List.setIfInBounds_toArray, List.set_cons_zero, List.set_cons_succ]
            refine wpC_skip rfl hgo4.out (.inl rfl) ?_
            try simp only [Act.put, List.setIfInBounds_toArray, List.set_cons_zero, List.set_cons_succ]
            refine wpC_read (v := ?_) rfl (fun W hW => ?_) ?_
            rotate_left
            · clear hW; go_simp; try (with_reducible rfl)
            try simp only [Act.put, List.setIfInBounds_toArray, List.set_cons_zero, List.set_cons_succ]
            refine wpC_read (v := ?_) rfl (fun W hW => ?_) ?_
            rotate_left
            · clear hW; go_simp; try (with_reducible rfl)
            try simp only [Act.put, List.setIfInBounds_toArray, List.set_cons_zero, List.set_cons_succ]
            refine wpC_skip rfl hgo10.out (.inl rfl) ?_
            try simp only [Act.put, List.setIfInBounds_toArray, List.set_cons_zero, List.set_cons_succ]
            refine wpC_skip rfl hgo10.out (.inl rfl) ?_
            try simp only [Act.put, List.setIfInBounds_toArray, List.set_cons_zero, List.set_cons_succ]
            refine wpC_skip rfl hgo10.out (.inl rfl) ?_
            try simp only [Act.put, List.setIfInBounds_toArray, List.set_cons_zero, List.set_cons_succ]
            refine wpC_skip rfl hgo10.out (.inl rfl) ?_
            try simp only [Act.put, List.setIfInBounds_toArray, List.set_cons_zero, List.set_cons_succ]
            refine wpC_read (v := ?_) rfl (fun W hW => ?_) ?_
            rotate_left
            · clear hW; go_simp; try (with_reducible rfl)
            try simp only [Act.put, List.setIfInBounds_toArray, List.set_cons_zero, List.set_cons_succ]
            refine wpC_read (v := ?_) rfl (fun W hW => ?_) ?_
            rotate_left
            · clear hW; go_simp; try (with_reducible rfl)
            try simp only [Act.put, List.setIfInBounds_toArray, List.set_cons_zero, List.set_cons_succ]
            refine wpC_skip rfl hgo16.out (.inl rfl) ?_
            try simp only [Act.put, List.setIfInBounds_toArray, List.set_cons_zero, List.set_cons_succ]
            refine wpC_skip rfl hgo16.out (.inl rfl) ?_
            try simp only [Act.put, List.setIfInBounds_toArray, List.set_cons_zero, List.set_cons_succ]
            refine wpC_skip rfl hgo16.out (.inl rfl) ?_
            try simp only [Act.put, List.setIfInBounds_toArray, List.set_cons_zero, List.set_cons_succ]
            refine wpC_read (v := ?_) rfl (fun W hW => ?_) ?_
            rotate_left
            · clear hW; go_simp; try (with_reducible rfl)
            try simp only [Act.put, List.setIfInBounds_toArray, List.set_cons_zero, List.set_cons_succ]
            refine wpC_read (v := ?_) rfl (fun W hW => ?_) ?_
            rotate_left
            · clear hW; go_simp; try (with_reducible rfl)
            try simp only [Act.put, List.setIfInBounds_toArray, List.set_cons_zero, List.set_cons_succ]
            refine wpC_skip rfl hgo21.out (.inl rfl) ?_
            try simp only [Act.put, List.setIfInBounds_toArray, List.set_cons_zero, List.set_cons_succ]
            refine wpC_skip rfl hgo21.out (.inl rfl) ?_
            try simp only [Act.put, List.setIfInBounds_toArray, List.set_cons_zero, List.set_cons_succ]
            refine wpC_skip rfl hgo21.out (.inl rfl) ?_
            try simp only [Act.put, List.setIfInBounds_toArray, List.set_cons_zero, List.set_cons_succ]
            refine wpC_skip rfl hgo21.out (.inl rfl) ?_
            try simp only [Act.put, List.setIfInBounds_toArray, List.set_cons_zero, List.set_cons_succ]
            refine wpC_skip rfl hgo21.out (.inl rfl) ?_
            try simp only [Act.put, List.setIfInBounds_toArray, List.set_cons_zero, List.set_cons_succ]
            refine wpC_skip rfl hgo21.out (.inl rfl) ?_
            try simp only [Act.put, List.setIfInBounds_toArray, List.set_cons_zero, List.set_cons_succ]
            refine wpC_skip rfl hgo21.out (.inl rfl) ?_
            try simp only [Act.put, List.setIfInBounds_toArray, List.set_cons_zero, List.set_cons_succ]
            refine wpC_read (v := ?_) rfl (fun W hW => ?_) ?_
            rotate_left
            · clear hW; go_simp; try (with_reducible rfl)
            try simp only [Act.put, List.setIfInBounds_toArray, List.set_cons_zero, List.set_cons_succ]
            refine wpC_read (v := ?_) rfl (fun W hW => ?_) ?_
            rotate_left
            · clear hW; go_simp; try (with_reducible rfl)
            try simp only [Act.put, List.setIfInBounds_toArray, List.set_cons_zero, List.set_cons_succ]
            refine wpC_skip rfl hgo30.out (.inl rfl) ?_
            try simp only [Act.put, List.setIfInBounds_toArray, List.set_cons_zero, List.set_cons_succ]
            refine wpC_skip rfl hgo30.out (.inl rfl) ?_
            try simp only [Act.put, List.setIfInBounds_toArray, List.set_cons_zero, List.set_cons_succ]
            refine wpC_skip rfl hgo30.out (.inl rfl) ?_
            try simp only [Act.put, List.setIfInBounds_toArray, List.set_cons_zero, List.set_cons_succ]
            refine wpC_skip rfl hgo30.out (.inl rfl) ?_
            try simp only [Act.put, List.setIfInBounds_toArray, List.set_cons_zero, List.set_cons_succ]
            refine wpC_skip rfl hgo30.out (.inl rfl) ?_
            try simp only [Act.put, List.setIfInBounds_toArray, List.set_cons_zero, List.set_cons_succ]
            refine wpC_read (v := ?_) rfl (fun W hW => ?_) ?_
            rotate_left
            · clear hW; go_simp; try (with_reducible rfl)
            try simp only [Act.put, List.setIfInBounds_toArray, List.set_cons_zero, List.set_cons_succ]
            refine wpQuiet_nil (HQQ.out _ (fun W hW => ?_))
            obtain ⟨t0, t1, p0, p1, p2, p3, p4⟩ := hS.out W hW
            go_wp2_with fail
            go_ret
            exact ⟨by rw [HB.out]; rfl, HUP.out _ (hbW1.trans (hW.mono hbW1.size))⟩
          | true =>
            refine wpC_read (v := .bool true) rfl (fun W hW => ?_) ?_
            · replace hW := HD.out W hW
              obtain ⟨t0, t1, p0, p1, p2, p3, p4⟩ := hS.out W hW
              go_simp
              refine (hNa.out _ hW).mono ?_
              rintro e w5 ⟨rfl, hbn⟩
              exact ⟨rfl, HD2.out _ (below_step hW hbn)⟩
            try simp only [Act.put, List.setIfInBounds_toArray, List.set_cons_zero, List.set_cons_succ]
            refine wpC_read (v := ?_) rfl (fun W hW => ?_) ?_
            rotate_left
            · clear hW; go_simp; try (with_reducible rfl)
            try simp only [Act.put, List.setIfInBounds_toArray, List.set_cons_zero, List.set_cons_succ]
            refine wpC_read (v := ?_) rfl (fun W hW => ?_) ?_
            rotate_left
            · clear hW; go_simp; try (with_reducible rfl)
            try simp only [Act.put, List.setIfInBounds_toArray, List.set_cons_zero, List.set_cons_succ]
            refine wpC_gread (v := ?_) rfl hgo4.out rfl (fun W hW => ?_) ?_
            rotate_left
            · clear hW; go_simp; try (with_reducible rfl)
            try simp only [Act.put, List.setIfInBounds_toArray, List.set_cons_zero, List.set_cons_succ]
            refine wpC_gread (v := ?_) rfl hgo4.out rfl (fun W hW => ?_) ?_
            rotate_left
            · replace hW := HD.out W hW
              obtain ⟨t0, t1, p0, p1, p2, p3, p4⟩ := hS.out W hW
              go_simp; try (with_reducible rfl)
            try simp only [Act.put, List.setIfInBounds_toArray, List.set_cons_zero, List.set_cons_succ]
            cases bP with
            | false =>
              have HB : Hid (V = 9) := HBD.out (by rfl)
              refine wpC_gread (v := .bool false) rfl hgo4.out rfl (fun W hW => ?_) ?_
              · replace hW := HD.out W hW
                obtain ⟨t0, t1, p0, p1, p2, p3, p4⟩ := hS.out W hW
                go_simp
                refine (hPa.out _ hW).mono ?_
                rintro e w5 ⟨rfl, hbn⟩
                exact ⟨rfl, HD2.out _ (below_step hW hbn)⟩
              try simp only [Act.put, List.setIfInBounds_toArray, List.set_cons_zero, List.set_cons_succ]
              refine wpC_gread (v := ?_) rfl hgo4.out rfl (fun W hW => ?_) ?_
              rotate_left
              · clear hW; go_simp; try (with_reducible rfl)
              try simp only [Act.put, List.setIfInBounds_toArray, List.set_cons_zero, List.set_cons_succ]
              refine wpC_read (v := ?_) rfl (fun W hW => ?_) ?_
              rotate_left
              · clear hW; go_simp; try (with_reducible rfl)
              try simp only [Act.put, List.setIfInBounds_toArray, List.set_cons_zero, List.set_cons_succ]
              refine wpC_read (v := ?_) rfl (fun W hW => ?_) ?_
              rotate_left
              · clear hW; go_simp; try (with_reducible rfl)
              try simp only [Act.put, List.setIfInBounds_toArray, List.set_cons_zero, List.set_cons_succ]
              refine wpC_skip rfl hgo10.out (.inl rfl) ?_
              try simp only [Act.put, List.setIfInBounds_toArray, List.set_cons_zero, List.set_cons_succ]
              refine wpC_skip rfl hgo10.out (.inl rfl) ?_
              try simp only [Act.put, List.setIfInBounds_toArray, List.set_cons_zero, List.set_cons_succ]
              refine wpC_skip rfl hgo10.out (.inl rfl) ?_
              try simp only [Act.put, List.setIfInBounds_toArray, List.set_cons_zero, List.set_cons_succ]
              refine wpC_skip rfl hgo10.out (.inl rfl) ?_
              try simp only [Act.put, List.setIfInBounds_toArray, List.set_cons_zero, List.set_cons_succ]
              refine wpC_read (v := ?_) rfl (fun W hW => ?_) ?_
              rotate_left
              · clear hW; go_simp; try (with_reducible rfl)
              try simp only [Act.put, List.setIfInBounds_toArray, List.set_cons_zero, List.set_cons_succ]
              refine wpC_read (v := ?_) rfl (fun W hW => ?_) ?_
              rotate_left
              · clear hW; go_simp; try (with_reducible rfl)
              try simp only [Act.put, List.setIfInBounds_toArray, List.set_cons_zero, List.set_cons_succ]
              refine wpC_skip rfl hgo16.out (.inl rfl) ?_
              try simp only [Act.put, List.setIfInBounds_toArray, List.set_cons_zero, List.set_cons_succ]
              refine wpC_skip rfl hgo16.out (.inl rfl) ?_
              try simp only [Act.put, List.setIfInBounds_toArray, List.set_cons_zero, List.set_cons_succ]
              refine wpC_skip rfl hgo16.out (.inl rfl) ?_
              try simp only [Act.put, List.setIfInBounds_toArray, List.set_cons_zero, List.set_cons_succ]
              refine wpC_read (v := ?_) rfl (fun W hW => ?_) ?_
              rotate_left
              · clear hW; go_simp; try (with_reducible rfl)
              try simp only [Act.put, List.setIfInBounds_toArray, List.set_cons_zero, List.set_cons_succ]
              refine wpC_read (v := ?_) rfl (fun W hW => ?_) ?_
              rotate_left
              · clear hW; go_simp; try (with_reducible rfl)
              try simp only [Act.put, List.setIfInBounds_toArray, List.set_cons_zero, List.set_cons_succ]
              refine wpC_skip rfl hgo21.out (.inl rfl) ?_
              try simp only [Act.put, List.setIfInBounds_toArray, List.set_cons_zero, List.set_cons_succ]
              refine wpC_skip rfl hgo21.out (.inl rfl) ?_
              try simp only [Act.put, List.setIfInBounds_toArray, List.set_cons_zero, List.set_cons_succ]
              refine wpC_skip rfl hgo21.out (.inl rfl) ?_
              try simp only [Act.put, List.setIfInBounds_toArray, List.set_cons_zero, List.set_cons_succ]
              refine wpC_skip rfl hgo21.out (.inl rfl) ?_
              try simp only [Act.put, List.setIfInBounds_toArray, List.set_cons_zero, List.set_cons_succ]
              refine wpC_skip rfl hgo21.out (.inl rfl) ?_
              try simp only [Act.put, List.setIfInBounds_toArray, List.set_cons_zero, List.set_cons_succ]
              refine wpC_skip rfl hgo21.out (.inl rfl) ?_
              try simp only [Act.put, List.setIfInBounds_toArray, List.set_cons_zero, List.set_cons_succ]
              refine wpC_skip rfl hgo21.out (.inl rfl) ?_
              try simp only [Act.put, List.setIfInBounds_toArray, List.set_cons_zero, List.set_cons_succ]
              refine wpC_read (v := ?_) rfl (fun W hW => ?_) ?_
              rotate_left
              · clear hW; go_simp; try (with_reducible rfl)
              try simp only [Act.put, List.setIfInBounds_toArray, List.set_cons_zero, List.set_cons_succ]
              refine wpC_read (v := ?_) rfl (fun W hW => ?_) ?_
              rotate_left
              · clear hW; go_simp; try (with_reducible rfl)
              try simp only [Act.put, List.setIfInBounds_toArray, List.set_cons_zero, List.set_cons_succ]
              refine wpC_skip rfl hgo30.out (.inl rfl) ?_
              try simp only [Act.put, List.setIfInBounds_toArray, List.set_cons_zero, List.set_cons_succ]
              refine wpC_skip rfl hgo30.out (.inl rfl) ?_
              try simp only [Act.put, List.setIfInBounds_toArray, List.set_cons_zero, List.set_cons_succ]
              refine wpC_skip rfl hgo30.out (.inl rfl) ?_
              try simp only [Act.put, List.setIfInBounds_toArray, List.set_cons_zero, List.set_cons_succ]
              refine wpC_skip rfl hgo30.out (.inl rfl) ?_
              try simp only [Act.put, List.setIfInBounds_toArray, List.set_cons_zero, List.set_cons_succ]
              refine wpC_skip rfl hgo30.out (.inl rfl) ?_
              try simp only [Act.put, List.setIfInBounds_toArray, List.set_cons_zero, List.set_cons_succ]
              refine wpC_read (v := ?_) rfl (fun W hW => ?_) ?_
              rotate_left
              · clear hW; go_simp; try (with_reducible rfl)
              try simp only [Act.put, List.setIfInBounds_toArray, List.set_cons_zero, List.set_cons_succ]
              refine wpQuiet_nil (HQQ.out _ (fun W hW => ?_))
              obtain ⟨t0, t1, p0, p1, p2, p3, p4⟩ := hS.out W hW
              go_wp2_with fail
              go_ret
              exact ⟨by rw [HB.out]; rfl, HUP.out _ (hbW1.trans (hW.mono hbW1.size))⟩
            | true =>
              refine wpC_gread (v := .bool true) rfl hgo4.out rfl (fun W hW => ?_) ?_
              · replace hW := HD.out W hW
                obtain ⟨t0, t1, p0, p1, p2, p3, p4⟩ := hS.out W hW
                go_simp
                refine (hPa.out _ hW).mono ?_
                rintro e w5 ⟨rfl, hbn⟩
                exact ⟨rfl, HD2.out _ (below_step hW hbn)⟩
              try simp only [Act.put, List.setIfInBounds_toArray, List.set_cons_zero, List.set_cons_succ]
              refine wpC_gread (v := ?_) rfl hgo4.out rfl (fun W hW => ?_) ?_
              rotate_left
              · clear hW; go_simp; try (with_reducible rfl)
              try simp only [Act.put, List.setIfInBounds_toArray, List.set_cons_zero, List.set_cons_succ]
              refine wpC_read (v := ?_) rfl (fun W hW => ?_) ?_
              rotate_left
              · clear hW; go_simp; try (with_reducible rfl)
              try simp only [Act.put, List.setIfInBounds_toArray, List.set_cons_zero, List.set_cons_succ]
              refine wpC_read (v := ?_) rfl (fun W hW => ?_) ?_
              rotate_left
              · clear hW; go_simp; try (with_reducible rfl)
              try simp only [Act.put, List.setIfInBounds_toArray, List.set_cons_zero, List.set_cons_succ]
              refine wpC_gread (v := ?_) rfl hgo10.out rfl (fun W hW => ?_) ?_
              rotate_left
              · clear hW; go_simp; try (with_reducible rfl)
              try simp only [Act.put, List.setIfInBounds_toArray, List.set_cons_zero, List.set_cons_succ]
              refine wpC_gread (v := ?_) rfl hgo10.out rfl (fun W hW => ?_) ?_
              rotate_left
              · replace hW := HD.out W hW
                obtain ⟨t0, t1, p0, p1, p2, p3, p4⟩ := hS.out W hW
                go_simp; try (with_reducible rfl)
              try simp only [Act.put, List.setIfInBounds_toArray, List.set_cons_zero, List.set_cons_succ]
              refine wpC_gread (v := ?_) rfl hgo10.out rfl (fun W hW => ?_) ?_
              rotate_left
              · clear hW; go_simp; try (with_reducible rfl)
              try simp only [Act.put, List.setIfInBounds_toArray, List.set_cons_zero, List.set_cons_succ]
              rcases hyn with ⟨hz4, d14⟩ | ⟨hz4, d14⟩
              · have HB : Hid (V = 9) := HBD.out (by rw [hz4]; rfl)
                refine wpC_gread (v := ?_) rfl hgo10.out rfl (fun W hW => ?_) ?_
                rotate_left
                · clear hW; go_simp; try (with_reducible rfl)
                try simp only [Act.put, List.setIfInBounds_toArray, List.set_cons_zero, List.set_cons_succ]
                refine wpC_read (v := ?_) rfl (fun W hW => ?_) ?_
                rotate_left
                · clear hW; go_simp; try (with_reducible rfl)
                try simp only [Act.put, List.setIfInBounds_toArray, List.set_cons_zero, List.set_cons_succ]
                refine wpC_read (v := ?_) rfl (fun W hW => ?_) ?_
                rotate_left
                · clear hW; go_simp; try (with_reducible rfl)
                try simp only [Act.put, List.setIfInBounds_toArray, List.set_cons_zero, List.set_cons_succ]
                refine wpC_skip rfl hgo16.out (.inl rfl) ?_
                try simp only [Act.put, List.setIfInBounds_toArray, List.set_cons_zero, List.set_cons_succ]
                refine wpC_skip rfl hgo16.out (.inl rfl) ?_
                try simp only [Act.put, List.setIfInBounds_toArray, List.set_cons_zero, List.set_cons_succ]
                refine wpC_skip rfl hgo16.out (.inl rfl) ?_
                try simp only [Act.put, List.setIfInBounds_toArray, List.set_cons_zero, List.set_cons_succ]
                refine wpC_read (v := ?_) rfl (fun W hW => ?_) ?_
                rotate_left
                · clear hW; go_simp; try (with_reducible rfl)
                try simp only [Act.put, List.setIfInBounds_toArray, List.set_cons_zero, List.set_cons_succ]
                refine wpC_read (v := ?_) rfl (fun W hW => ?_) ?_
                rotate_left
                · clear hW; go_simp; try (with_reducible rfl)
                try simp only [Act.put, List.setIfInBounds_toArray, List.set_cons_zero, List.set_cons_succ]
                refine wpC_skip rfl hgo21.out (.inl rfl) ?_
                try simp only [Act.put, List.setIfInBounds_toArray, List.set_cons_zero, List.set_cons_succ]
                refine wpC_skip rfl hgo21.out (.inl rfl) ?_
                try simp only [Act.put, List.setIfInBounds_toArray, List.set_cons_zero, List.set_cons_succ]
                refine wpC_skip rfl hgo21.out (.inl rfl) ?_
                try simp only [Act.put, List.setIfInBounds_toArray, List.set_cons_zero, List.set_cons_succ]
                refine wpC_skip rfl hgo21.out (.inl rfl) ?_
                try simp only [Act.put, List.setIfInBounds_toArray, List.set_cons_zero, List.set_cons_succ]
                refine wpC_skip rfl hgo21.out (.inl rfl) ?_
                try simp only [Act.put, List.setIfInBounds_toArray, List.set_cons_zero, List.set_cons_succ]
                refine wpC_skip rfl hgo21.out (.inl rfl) ?_
                try simp only [Act.put, List.setIfInBounds_toArray, List.set_cons_zero, List.set_cons_succ]
                refine wpC_skip rfl hgo21.out (.inl rfl) ?_
                try simp only [Act.put, List.setIfInBounds_toArray, List.set_cons_zero, List.set_cons_succ]
                refine wpC_read (v := ?_) rfl (fun W hW => ?_) ?_
                rotate_left
                · clear hW; go_simp; try (with_reducible rfl)
                try simp only [Act.put, List.setIfInBounds_toArray, List.set_cons_zero, List.set_cons_succ]
                refine wpC_read (v := ?_) rfl (fun W hW => ?_) ?_
                rotate_left
                · clear hW; go_simp; try (with_reducible rfl)
                try simp only [Act.put, List.setIfInBounds_toArray, List.set_cons_zero, List.set_cons_succ]
                refine wpC_skip rfl hgo30.out (.inl rfl) ?_
                try simp only [Act.put, List.setIfInBounds_toArray, List.set_cons_zero, List.set_cons_succ]
                refine wpC_skip rfl hgo30.out (.inl rfl) ?_
                try simp only [Act.put, List.setIfInBounds_toArray, List.set_cons_zero, List.set_cons_succ]
                refine wpC_skip rfl hgo30.out (.inl rfl) ?_
                try simp only [Act.put, List.setIfInBounds_toArray, List.set_cons_zero, List.set_cons_succ]
                refine wpC_skip rfl hgo30.out (.inl rfl) ?_
                try simp only [Act.put, List.setIfInBounds_toArray, List.set_cons_zero, List.set_cons_succ]
                refine wpC_skip rfl hgo30.out (.inl rfl) ?_
                try simp only [Act.put, List.setIfInBounds_toArray, List.set_cons_zero, List.set_cons_succ]
                refine wpC_read (v := ?_) rfl (fun W hW => ?_) ?_
                rotate_left
                · clear hW; go_simp; try (with_reducible rfl)
                try simp only [Act.put, List.setIfInBounds_toArray, List.set_cons_zero, List.set_cons_succ]
                refine wpQuiet_nil (HQQ.out _ (fun W hW => ?_))
                obtain ⟨t0, t1, p0, p1, p2, p3, p4⟩ := hS.out W hW
                go_wp2_with fail
                go_ret
                exact ⟨by rw [HB.out]; rfl, HUP.out _ (hbW1.trans (hW.mono hbW1.size))⟩
              · refine wpC_gread (v := ?_) rfl hgo10.out rfl (fun W hW => ?_) ?_
                rotate_left
                · clear hW; go_simp; try (with_reducible rfl)
                try simp only [Act.put, List.setIfInBounds_toArray, List.set_cons_zero, List.set_cons_succ]
                refine wpC_read (v := ?_) rfl (fun W hW => ?_) ?_
                rotate_left
                · clear hW; go_simp; try (with_reducible rfl)
                try simp only [Act.put, List.setIfInBounds_toArray, List.set_cons_zero, List.set_cons_succ]
                refine wpC_read (v := ?_) rfl (fun W hW => ?_) ?_
                rotate_left
                · clear hW; go_simp; try (with_reducible rfl)
                try simp only [Act.put, List.setIfInBounds_toArray, List.set_cons_zero, List.set_cons_succ]
                refine wpC_gread (v := ?_) rfl hgo16.out rfl (fun W hW => ?_) ?_
                rotate_left
                · clear hW; go_simp; try (with_reducible rfl)
                try simp only [Act.put, List.setIfInBounds_toArray, List.set_cons_zero, List.set_cons_succ]
                refine wpC_gread (v := ?_) rfl hgo16.out rfl (fun W hW => ?_) ?_
                rotate_left
                · replace hW := HD.out W hW
                  obtain ⟨t0, t1, p0, p1, p2, p3, p4⟩ := hS.out W hW
                  go_simp; try (with_reducible rfl)
                try simp only [Act.put, List.setIfInBounds_toArray, List.set_cons_zero, List.set_cons_succ]
                rcases hyh with ⟨hz5, d19⟩ | ⟨hz5, d19⟩
                · have HB : Hid (V = 9) := HBD.out (by rw [hz4, hz5]; rfl)
                  refine wpC_gread (v := ?_) rfl hgo16.out rfl (fun W hW => ?_) ?_
                  rotate_left
                  · clear hW; go_simp; try (with_reducible rfl)
                  try simp only [Act.put, List.setIfInBounds_toArray, List.set_cons_zero, List.set_cons_succ]
                  refine wpC_read (v := ?_) rfl (fun W hW => ?_) ?_
                  rotate_left
                  · clear hW; go_simp; try (with_reducible rfl)
                  try simp only [Act.put, List.setIfInBounds_toArray, List.set_cons_zero, List.set_cons_succ]
                  refine wpC_read (v := ?_) rfl (fun W hW => ?_) ?_
                  rotate_left
                  · clear hW; go_simp; try (with_reducible rfl)
                  try simp only [Act.put, List.setIfInBounds_toArray, List.set_cons_zero, List.set_cons_succ]
                  refine wpC_skip rfl hgo21.out (.inl rfl) ?_
                  try simp only [Act.put, List.setIfInBounds_toArray, List.set_cons_zero, List.set_cons_succ]
                  refine wpC_skip rfl hgo21.out (.inl rfl) ?_
                  try simp only [Act.put, List.setIfInBounds_toArray, List.set_cons_zero, List.set_cons_succ]
                  refine wpC_skip rfl hgo21.out (.inl rfl) ?_
                  try simp only [Act.put, List.setIfInBounds_toArray, List.set_cons_zero, List.set_cons_succ]
                  refine wpC_skip rfl hgo21.out (.inl rfl) ?_
                  try simp only [Act.put, List.setIfInBounds_toArray, List.set_cons_zero, List.set_cons_succ]
                  refine wpC_skip rfl hgo21.out (.inl rfl) ?_
                  try simp only [Act.put, List.setIfInBounds_toArray, List.set_cons_zero, List.set_cons_succ]
                  refine wpC_skip rfl hgo21.out (.inl rfl) ?_
                  try simp only [Act.put, List.setIfInBounds_toArray, List.set_cons_zero, List.set_cons_succ]
                  refine wpC_skip rfl hgo21.out (.inl rfl) ?_
                  try simp only [Act.put, List.setIfInBounds_toArray, List.set_cons_zero, List.set_cons_succ]
                  refine wpC_read (v := ?_) rfl (fun W hW => ?_) ?_
                  rotate_left
                  · clear hW; go_simp; try (with_reducible rfl)
                  try simp only [Act.put, List.setIfInBounds_toArray, List.set_cons_zero, List.set_cons_succ]
                  refine wpC_read (v := ?_) rfl (fun W hW => ?_) ?_
                  rotate_left
                  · clear hW; go_simp; try (with_reducible rfl)
                  try simp only [Act.put, List.setIfInBounds_toArray, List.set_cons_zero, List.set_cons_succ]
                  refine wpC_skip rfl hgo30.out (.inl rfl) ?_
                  try simp only [Act.put, List.setIfInBounds_toArray, List.set_cons_zero, List.set_cons_succ]
                  refine wpC_skip rfl hgo30.out (.inl rfl) ?_
                  try simp only [Act.put, List.setIfInBounds_toArray, List.set_cons_zero, List.set_cons_succ]
                  refine wpC_skip rfl hgo30.out (.inl rfl) ?_
                  try simp only [Act.put, List.setIfInBounds_toArray, List.set_cons_zero, List.set_cons_succ]
                  refine wpC_skip rfl hgo30.out (.inl rfl) ?_
                  try simp only [Act.put, List.setIfInBounds_toArray, List.set_cons_zero, List.set_cons_succ]
                  refine wpC_skip rfl hgo30.out (.inl rfl) ?_
                  try simp only [Act.put, List.setIfInBounds_toArray, List.set_cons_zero, List.set_cons_succ]
                  refine wpC_read (v := ?_) rfl (fun W hW => ?_) ?_
                  rotate_left
                  · clear hW; go_simp; try (with_reducible rfl)
                  try simp only [Act.put, List.setIfInBounds_toArray, List.set_cons_zero, List.set_cons_succ]
                  refine wpQuiet_nil (HQQ.out _ (fun W hW => ?_))
                  obtain ⟨t0, t1, p0, p1, p2, p3, p4⟩ := hS.out W hW
                  go_wp2_with fail
                  go_ret
                  exact ⟨by rw [HB.out]; rfl, HUP.out _ (hbW1.trans (hW.mono hbW1.size))⟩
                · refine wpC_gread (v := ?_) rfl hgo16.out rfl (fun W hW => ?_) ?_
                  rotate_left
                  · clear hW; go_simp; try (with_reducible rfl)
                  try simp only [Act.put, List.setIfInBounds_toArray, List.set_cons_zero, List.set_cons_succ]
                  refine wpC_read (v := ?_) rfl (fun W hW => ?_) ?_
                  rotate_left
                  · clear hW; go_simp; try (with_reducible rfl)
                  try simp only [Act.put, List.setIfInBounds_toArray, List.set_cons_zero, List.set_cons_succ]
                  refine wpC_read (v := ?_) rfl (fun W hW => ?_) ?_
                  rotate_left
                  · clear hW; go_simp; try (with_reducible rfl)
                  try simp only [Act.put, List.setIfInBounds_toArray, List.set_cons_zero, List.set_cons_succ]
                  refine wpC_gread (v := ?_) rfl hgo21.out rfl (fun W hW => ?_) ?_
                  rotate_left
                  · clear hW; go_simp; try (with_reducible rfl)
                  try simp only [Act.put, List.setIfInBounds_toArray, List.set_cons_zero, List.set_cons_succ]
                  refine wpC_gread (v := ?_) rfl hgo21.out rfl (fun W hW => ?_) ?_
                  rotate_left
                  · replace hW := HD.out W hW
                    obtain ⟨t0, t1, p0, p1, p2, p3, p4⟩ := hS.out W hW
                    go_simp; try (with_reducible rfl)
                  try simp only [Act.put, List.setIfInBounds_toArray, List.set_cons_zero, List.set_cons_succ]
                  refine wpC_gread (v := ?_) rfl hgo21.out rfl (fun W hW => ?_) ?_
                  rotate_left
                  · replace hW := HD.out W hW
                    obtain ⟨t0, t1, p0, p1, p2, p3, p4⟩ := hS.out W hW
                    go_simp; try (with_reducible rfl)
                  try simp only [Act.put, List.setIfInBounds_toArray, List.set_cons_zero, List.set_cons_succ]
                  refine wpC_gread (v := ?_) rfl hgo21.out rfl (fun W hW => ?_) ?_
                  rotate_left
                  · clear hW; go_simp; try (with_reducible rfl)
                  try simp only [Act.put, List.setIfInBounds_toArray, List.set_cons_zero, List.set_cons_succ]
                  refine wpC_gread (v := ?_) rfl hgo21.out rfl (fun W hW => ?_) ?_
                  rotate_left
                  · replace hW := HD.out W hW
                    obtain ⟨t0, t1, p0, p1, p2, p3, p4⟩ := hS.out W hW
                    go_simp; try (with_reducible rfl)
                  try simp only [Act.put, List.setIfInBounds_toArray, List.set_cons_zero, List.set_cons_succ]
                  refine wpC_gread (v := .int .i64 zH) rfl hgo21.out rfl (fun W hW => ?_) ?_
                  · replace hW := HD.out W hW
                    obtain ⟨t0, t1, p0, p1, p2, p3, p4⟩ := hS.out W hW
                    go_simp
                    refine (hHx.out _ hW).mono ?_
                    rintro e w5 ⟨rfl, hbn⟩
                    exact ⟨rfl, HD2.out _ (below_step hW hbn)⟩
                  try simp only [Act.put, List.setIfInBounds_toArray, List.set_cons_zero, List.set_cons_succ]
                  rcases hzh with ⟨hz6, d28⟩ | ⟨hz6, d28⟩
                  · have HB : Hid (V = 9) := HBD.out (by rw [hz4, hz5, hz6]; rfl)
                    refine wpC_gread (v := ?_) rfl hgo21.out rfl (fun W hW => ?_) ?_
                    rotate_left
                    · clear hW; go_simp; try (with_reducible rfl)
                    try simp only [Act.put, List.setIfInBounds_toArray, List.set_cons_zero, List.set_cons_succ]
                    refine wpC_read (v := ?_) rfl (fun W hW => ?_) ?_
                    rotate_left
                    · clear hW; go_simp; try (with_reducible rfl)
                    try simp only [Act.put, List.setIfInBounds_toArray, List.set_cons_zero, List.set_cons_succ]
                    refine wpC_read (v := ?_) rfl (fun W hW => ?_) ?_
                    rotate_left
                    · clear hW; go_simp; try (with_reducible rfl)
                    try simp only [Act.put, List.setIfInBounds_toArray, List.set_cons_zero, List.set_cons_succ]
                    refine wpC_skip rfl hgo30.out (.inl rfl) ?_
                    try simp only [Act.put, List.setIfInBounds_toArray, List.set_cons_zero, List.set_cons_succ]
                    refine wpC_skip rfl hgo30.out (.inl rfl) ?_
                    try simp only [Act.put, List.setIfInBounds_toArray, List.set_cons_zero, List.set_cons_succ]
                    refine wpC_skip rfl hgo30.out (.inl rfl) ?_
                    try simp only [Act.put, List.setIfInBounds_toArray, List.set_cons_zero, List.set_cons_succ]
                    refine wpC_skip rfl hgo30.out (.inl rfl) ?_
                    try simp only [Act.put, List.setIfInBounds_toArray, List.set_cons_zero, List.set_cons_succ]
                    refine wpC_skip rfl hgo30.out (.inl rfl) ?_
                    try simp only [Act.put, List.setIfInBounds_toArray, List.set_cons_zero, List.set_cons_succ]
                    refine wpC_read (v := ?_) rfl (fun W hW => ?_) ?_
                    rotate_left
                    · clear hW; go_simp; try (with_reducible rfl)
                    try simp only [Act.put, List.setIfInBounds_toArray, List.set_cons_zero, List.set_cons_succ]
                    refine wpQuiet_nil (HQQ.out _ (fun W hW => ?_))
                    obtain ⟨t0, t1, p0, p1, p2, p3, p4⟩ := hS.out W hW
                    go_wp2_with fail
                    go_ret
                    exact ⟨by rw [HB.out]; rfl, HUP.out _ (hbW1.trans (hW.mono hbW1.size))⟩
                  · refine wpC_gread (v := ?_) rfl hgo21.out rfl (fun W hW => ?_) ?_
                    rotate_left
                    · clear hW; go_simp; try (with_reducible rfl)
                    try simp only [Act.put, List.setIfInBounds_toArray, List.set_cons_zero, List.set_cons_succ]
                    refine wpC_read (v := ?_) rfl (fun W hW => ?_) ?_
                    rotate_left
                    · clear hW; go_simp; try (with_reducible rfl)
                    try simp only [Act.put, List.setIfInBounds_toArray, List.set_cons_zero, List.set_cons_succ]
                    refine wpC_read (v := ?_) rfl (fun W hW => ?_) ?_
                    rotate_left
                    · clear hW; go_simp; try (with_reducible rfl)
                    try simp only [Act.put, List.setIfInBounds_toArray, List.set_cons_zero, List.set_cons_succ]
                    refine wpC_gread (v := ?_) rfl hgo30.out rfl (fun W hW => ?_) ?_
                    rotate_left
                    · replace hW := HD.out W hW
                      obtain ⟨t0, t1, p0, p1, p2, p3, p4⟩ := hS.out W hW
                      go_simp; try (with_reducible rfl)
                    try simp only [Act.put, List.setIfInBounds_toArray, List.set_cons_zero, List.set_cons_succ]
                    refine wpC_gread (v := ?_) rfl hgo30.out rfl (fun W hW => ?_) ?_
                    rotate_left
                    · clear hW; go_simp; try (with_reducible rfl)
                    try simp only [Act.put, List.setIfInBounds_toArray, List.set_cons_zero, List.set_cons_succ]
                    refine wpC_gread (v := ?_) rfl hgo30.out rfl (fun W hW => ?_) ?_
                    rotate_left
                    · replace hW := HD.out W hW
                      obtain ⟨t0, t1, p0, p1, p2, p3, p4⟩ := hS.out W hW
                      go_simp; try (with_reducible rfl)
                    try simp only [Act.put, List.setIfInBounds_toArray, List.set_cons_zero, List.set_cons_succ]
                    refine wpC_gread (v := .int .i64 (m : Int)) rfl hgo30.out rfl (fun W hW => ?_) ?_
                    · replace hW := HD.out W hW
                      obtain ⟨t0, t1, p0, p1, p2, p3, p4⟩ := hS.out W hW
                      go_simp
                      refine (hCx.out _ hW).mono ?_
                      rintro e w5 ⟨rfl, hbn⟩
                      exact ⟨rfl, HD2.out _ (below_step hW hbn)⟩
                    try simp only [Act.put, List.setIfInBounds_toArray, List.set_cons_zero, List.set_cons_succ]
                    rcases hzm with ⟨hz7, d35⟩ | ⟨hz7, d35⟩
                    · have HB : Hid (V = 9) := HBD.out (by rw [hz4, hz5, hz6, hz7]; rfl)
                      refine wpC_gread (v := ?_) rfl hgo30.out rfl (fun W hW => ?_) ?_
                      rotate_left
                      · clear hW; go_simp; try (with_reducible rfl)
                      try simp only [Act.put, List.setIfInBounds_toArray, List.set_cons_zero, List.set_cons_succ]
                      refine wpC_read (v := ?_) rfl (fun W hW => ?_) ?_
                      rotate_left
                      · clear hW; go_simp; try (with_reducible rfl)
                      try simp only [Act.put, List.setIfInBounds_toArray, List.set_cons_zero, List.set_cons_succ]
                      refine wpQuiet_nil (HQQ.out _ (fun W hW => ?_))
                      obtain ⟨t0, t1, p0, p1, p2, p3, p4⟩ := hS.out W hW
                      go_wp2_with fail
                      go_ret
                      exact ⟨by rw [HB.out]; rfl, HUP.out _ (hbW1.trans (hW.mono hbW1.size))⟩
                    · refine wpC_gread (v := ?_) rfl hgo30.out rfl (fun W hW => ?_) ?_
                      rotate_left
                      · clear hW; go_simp; try (with_reducible rfl)
                      try simp only [Act.put, List.setIfInBounds_toArray, List.set_cons_zero, List.set_cons_succ]
                      refine wpC_read (v := ?_) rfl (fun W hW => ?_) ?_
                      rotate_left
                      · clear hW; go_simp; try (with_reducible rfl)
                      try simp only [Act.put, List.setIfInBounds_toArray, List.set_cons_zero, List.set_cons_succ]
                      refine wpQuiet_nil (HQQ.out _ (fun W hW => ?_))
                      obtain ⟨t0, t1, p0, p1, p2, p3, p4⟩ := hS.out W hW
                      have HGX : Hid (rsesB T ⟨yt, yh, yi, yl, yb⟩ = true) := by
                        show _ = _
                        rw [HRS.out, hz4, hz5, hz6, hz7]
                        rfl
                      have HPB : Hid (∀ j, j < k → ∀ o, T.opn[j]? = some o → okPair o ⟨yt, yh, yi, yl, yb⟩ = false → V = 9) := by
                        show ∀ j, _ → ∀ o, _ → _ → _
                        intro j hj o ho hf
                        refine HBD2.out ?_
                        rw [show (T.opn.take k).all (fun o => okPair o ⟨yt, yh, yi, yl, yb⟩) = false from ?_]
                        · simp
                        · rw [List.all_eq_false]
                          exact ⟨o, List.mem_of_getElem? (i := j) (by rw [List.getElem?_take_of_lt hj]; exact ho), by rw [hf]; decide⟩
                      have HW2 := Lib.hid (hbW1.trans (hW.mono hbW1.size))
                      obtain ⟨wo, hwo⟩ : ∃ X, X = wr := ⟨_, rfl⟩
                      rw [← hwo] at hS hsz0
                      clear t0 t1 p0 p1 p2 p3 p4 hNa hPa hHx hCx d14 d19 d28 d35 hz4 hz5 hz6 hz7 hb4
                      go_wp2_with fail
                      rw [← hwo]
                      clear hwo hsl hBr wr
                      go_loopw [7] (fun i wr => ∃ j : Nat, j ≤ k ∧ i = .int .i64 (j : Int) ∧ Hid (∀ o ∈ T.opn.take j, okPair o ⟨yt, yh, yi, yl, yb⟩ = true) ∧ Below W0.heap.size W0 wr) (fun i _ => k - (intOf i).toNat)
                      case atStart => exact ⟨0, Nat.zero_le _, rfl, (show ∀ o ∈ _, _ by simp), hW⟩
                      case round =>
                        obtain ⟨j, hj, rfl, hall, hbj⟩ := hrel
                        obtain ⟨t0, t1, p0, p1, p2, p3, p4⟩ := hS.out wr hbj
                        by_cases hjk : j < k
                        · have hji : (j : Int) < (k : Int) := by omega
                          have hjo : (j : Int) < (on : Int) := by omega
                          have hjl : j < ol.length := by omega
                          have hb1j := hbW1.trans (hbj.mono hbW1.size)
                          obtain ⟨hro, -, hsl3, hBr3⟩ := HRD.out wr hb1j
                          obtain ⟨ad2, e2, hadB2, q0, q1, q2, q3, q4⟩ := ses_at hro HNO.out (show j < on by omega)
                          injection e2 with e2
                          subst e2
                          have HOJ : Hid (T.opn[j]? = some (ol[j]'hjl).con) := by show _ = _; rw [HTO.out, List.getElem?_map, List.getElem?_eq_getElem hjl]; rfl
                          obtain ⟨y2, hy2⟩ : ∃ y, y = ol[j]'hjl := ⟨_, rfl⟩
                          rw [← hy2] at q0 q1 q2 q3 q4 HOJ
                          obtain ⟨ot, oh, oi, ⟨pA, pn, pc, plst⟩, ob⟩ := y2
                          simp only at q0 q1 q2 q3 q4
                          have HTJ : Hid (T.opn.take (j + 1) = T.opn.take j ++ [⟨ot, oh, oi, plst, ob⟩]) := by show _ = _; rw [List.take_add_one, HOJ.out]; rfl
                          have HW3 : Hid (Below W1.heap.size W1 (wr.alloc (.cells #[.string ⟨ot.toArray⟩, .int .i64 oh, .string ⟨oi.toArray⟩, .slice pA pn pc, .bool ob] 33))) := hb1j.alloc hb1j.size _
                          have HWI : Hid (Below W0.heap.size W0 (wr.alloc (.cells #[.string ⟨ot.toArray⟩, .int .i64 oh, .string ⟨oi.toArray⟩, .slice pA pn pc, .bool ob] 33))) := hbj.alloc hbj.size _
                          have hsz3 : wo.heap.size < wr.heap.size := by have := hbj.size; omega
                          have hgt := gtrS 9 ot yt
                          rw [bl_leq, Bool.not_not] at hgt
                          obtain ⟨g1, hg1⟩ : ∃ g, g = Op.bytesLess yt ot := ⟨_, rfl⟩
                          rw [← hg1] at hgt
                          have HG1 := Lib.hid hg1
                          clear hy2 hro hg1 hb1j
                          cases g1 with
                          | true =>
                            have HB : Hid (V = 9) := HPB.out j hjk _ HOJ.out (show okPair ⟨ot, oh, oi, plst, ob⟩ ⟨yt, yh, yi, yl, yb⟩ = false by unfold okPair; simp only; rw [← HG1.out]; rfl)
                            go_wp2_with fail
                            go_ret
                            exact ⟨by rw [HB.out]; rfl, HUP.out _ HW3.out⟩
                          | false =>
                            by_cases h2 : ot = yt
                            · have d2 : (ot == yt) = true := by simp [h2]
                              have HD2 := Lib.hid d2
                              clear h2
                              by_cases h3 : yh ≤ oh
                              · have d3 : decide (yh ≤ oh) = true := by simpa using h3
                                have HD3 := Lib.hid d3
                                clear h3
                                have HB : Hid (V = 9) := HPB.out j hjk _ HOJ.out (show okPair ⟨ot, oh, oi, plst, ob⟩ ⟨yt, yh, yi, yl, yb⟩ = false by unfold okPair; simp only; rw [← HG1.out, HD2.out, HD3.out]; rfl)
                                go_wp2_with fail
                                go_ret
                                exact ⟨by rw [HB.out]; rfl, HUP.out _ HW3.out⟩
                              · have d3 : decide (yh ≤ oh) = false := by simpa using h3
                                have HD3 := Lib.hid d3
                                clear h3
                                by_cases h4 : oi = yi
                                · have d4 : (oi == yi) = true := by simp [h4]
                                  have HD4 := Lib.hid d4
                                  clear h4
                                  have HB : Hid (V = 9) := HPB.out j hjk _ HOJ.out (show okPair ⟨ot, oh, oi, plst, ob⟩ ⟨yt, yh, yi, yl, yb⟩ = false by unfold okPair; simp only; rw [← HG1.out, HD2.out, HD3.out, HD4.out]; rfl)
                                  go_wp2_with fail
                                  go_ret
                                  exact ⟨by rw [HB.out]; rfl, HUP.out _ HW3.out⟩
                                · have d4 : (oi == yi) = false := by simp [h4]
                                  have HD4 := Lib.hid d4
                                  clear h4
                                  have HO : Hid (okPair ⟨ot, oh, oi, plst, ob⟩ ⟨yt, yh, yi, yl, yb⟩ = true) := by show okPair _ _ = true; unfold okPair; simp only; rw [← HG1.out, HD2.out, HD3.out, HD4.out]; rfl
                                  go_wp2_with fail
                                  go_roundw
                                  case rel =>
                                    refine ⟨j + 1, by omega, by go_num, ?_, HWI.out⟩
                                    show ∀ o ∈ _, _
                                    intro o ho
                                    rw [HTJ.out, List.mem_append, List.mem_singleton] at ho
                                    rcases ho with ho | rfl
                                    · exact hall.out o ho
                                    · exact HO.out
                                  case measure => simp [intOf]; omega
                            · have d2 : (ot == yt) = false := by simp [h2]
                              have HD2 := Lib.hid d2
                              clear h2
                              have HO : Hid (okPair ⟨ot, oh, oi, plst, ob⟩ ⟨yt, yh, yi, yl, yb⟩ = true) := by show okPair _ _ = true; unfold okPair; simp only; rw [← HG1.out, HD2.out]; rfl
                              go_wp2_with fail
                              go_roundw
                              case rel =>
                                refine ⟨j + 1, by omega, by go_num, ?_, HWI.out⟩
                                show ∀ o ∈ _, _
                                intro o ho
                                rw [HTJ.out, List.mem_append, List.mem_singleton] at ho
                                rcases ho with ho | rfl
                                · exact hall.out o ho
                                · exact HO.out
                              case measure => simp [intOf]; omega
                        · have hjk0 : j = k := by omega
                          have hjn : ¬ (j : Int) < (k : Int) := by omega
                          have HAL : Hid ((T.opn.take k).all (fun o => okPair o ⟨yt, yh, yi, yl, yb⟩) = true) := by
                            show _ = _
                            rw [List.all_eq_true]
                            rw [← hjk0]
                            exact hall.out
                          have HNX : Hid (ropnFrom T [] T.opn = ropnFrom T (T.opn.take (k + 1)) (T.opn.drop (k + 1))) := HNX0.out HGX.out HAL.out
                          have HWF := Lib.hid (hbW1.trans (hbj.mono hbW1.size))
                          clear hbj
                          go_wp2_with fail
                          go_roundw
                          case rel => exact ⟨k + 1, by omega, by go_num, HNX.out, HWF.out⟩
                          case measure => simp [intOf]; omega
        · have hke : k = on := by omega
          have HF : Hid (V = 0) := by
            show _ = _
            rw [HV2.out, hok.out, List.drop_eq_nil_of_le (by rw [HTO.out, List.length_map]; have := HNO.out; omega)]
            rfl
          have hnl : ¬ (k : Int) < (on : Int) := by omega
          have HBF := Lib.hid (HUP.out _ hbw)
          clear hok hrw hbw
          go_wp2_with fail
          go_ret
          exact ⟨by rw [HF.out]; rfl, HBF.out⟩
end Go.Proofs.YtcoaaljgaooeoaaDoor
