/-
  session.path, session.counted, by their contracts.
-/
import Derived.Test.YtjdebhemoeojiaaDoorSeTab
import Derived.Test.YtjdebhemoeojiaaDoorNmPath
namespace Go.Proofs.YtjdebhemoeojiaaDoor
open Go.RowKit

def sePath (s : BS) : Bool := !s.isEmpty && pathB s
set_option maxRecDepth 100000 in
theorem sePath_any (s : BS) (w : World) (hs : s.length ≤ 4000000000) (hm : HasMax w) :
    Calls Tryd.prog 31 #[.string ⟨s.toArray⟩] w fun e w' => e = .returned (.bool (sePath s)) ∧ Below w.heap.size w w' := by
  by_cases h0 : s = []
  · subst h0
    go_enter Tryd.func31, Tryd.ntmps31
    go_wp2_with fail
    go_ret
    exact ⟨rfl, Below.refl _ _⟩
  · have h1 : (s == []) = false := by simpa using h0
    have h2 : s.isEmpty = false := by cases s <;> simp_all
    have HV : Hid (sePath s = pathB s) := by show _ = _; unfold sePath; rw [h2]; rfl
    obtain ⟨b, hb⟩ : ∃ b, b = pathB s := ⟨_, rfl⟩
    have hc : Calls Tryd.prog 51 #[.string ⟨s.toArray⟩] w fun e W' => e = .returned (.bool (pathB s)) ∧ Below w.heap.size w W' := path_any ⟨s.toArray⟩ w (by show s.length ≤ _; exact hs) hm
    rw [← hb] at hc HV
    clear hb
    go_enter Tryd.func31, Tryd.ntmps31
    go_wp2_with fail
    refine hc.mono ?_
    rintro e w1 ⟨rfl, hb1⟩
    cases b <;> (go_wp2_with fail; go_ret; exact ⟨by rw [HV.out]; rfl, hb1⟩)
def prevH (l : List HadT) (k : Nat) : Option BS := match k with
  | 0 => none
  | j + 1 => (l[j]?).map (·.1)
set_option maxRecDepth 100000 in
set_option maxHeartbeats 4000000 in
theorem counted_any (l : List HadT) (n : Nat) (hnl : n = l.length) (A : Option Addr) (c : Nat) (w : World) (B : Nat) (hr : Reads w B 2 A n (cellsK encHad l)) (hB : B ≤ w.heap.size) (hn : n ≤ 1000000000) :
    Calls Tryd.prog 60 #[.slice A n c] w fun e w' => e = .returned (.bool (hadFrom none l)) ∧ Below w.heap.size w w' := by
  have HN := Lib.hid hnl
  clear hnl
  replace hr : Reads w B 2 A n (cellsK (fun x : HadT => [.string ⟨x.1.toArray⟩, .int .i64 x.2]) l) := hr
  go_enter Tryd.func60, Tryd.ntmps60
  go_wp2_with fail
  go_loopw [7] (fun j wr => ∃ k : Nat, k ≤ n ∧ j = .int .i64 (k : Int) ∧ Hid (hadFrom none l = hadFrom (prevH l k) (l.drop k)) ∧ Below w.heap.size w wr) (fun j _ => n - (intOf j).toNat)
  case atStart => exact ⟨0, Nat.zero_le _, rfl, rfl, Below.refl _ _⟩
  case round =>
    obtain ⟨k, hk, rfl, hok, hbw⟩ := hrel
    by_cases hlt : k < n
    · have hrw := hr.below (hbw.mono hB)
      obtain ⟨ad, rfl, hadB, c0, c1⟩ := hrw.el2 HN.out hlt
      have hki : (k : Int) < (n : Int) := by omega
      have hkl : k < l.length := by have := HN.out; omega
      obtain ⟨x, hx⟩ : ∃ x, x = l[k]'hkl := ⟨_, rfl⟩
      rw [← hx] at c0 c1
      have hdr := List.drop_eq_getElem_cons hkl
      rw [← hx] at hdr
      have HX := Lib.hid hx
      have HDR := Lib.hid hdr
      obtain ⟨xn, xc⟩ := x
      simp only at c0 c1
      obtain ⟨W0, hW0⟩ : ∃ W0, W0 = wr.alloc (.cells #[.string ⟨xn.toArray⟩, .int .i64 xc] 38) := ⟨_, rfl⟩
      have k0 : W0.cell? ⟨wr.heap.size, 0, none⟩ = some (.string ⟨xn.toArray⟩) := by rw [hW0]; exact (Blk.new wr _ _).cell 0
      have k1 : W0.cell? ⟨wr.heap.size, 1, none⟩ = some (.int .i64 xc) := by rw [hW0]; exact (Blk.new wr _ _).cell 1
      have hszW : W0.heap.size = wr.heap.size + 1 := by rw [hW0]; show (wr.heap.push _).size = _; rw [Array.size_push]
      have hlt0 : wr.heap.size < W0.heap.size := by omega
      have HSZ := Lib.hid hszW
      have hwr := hbw.size
      have hbW : Below w.heap.size w W0 := by rw [hW0]; exact hbw.alloc hbw.size _
      have hS0 := (Below.refl W0.heap.size W0).drew
      have hbad : Hid ((nameB xn = false ∨ xc < 1 ∨ 1099511627776 < xc ∨ (∃ y, prevH l k = some y ∧ Op.bytesLess y xn = false)) → hadFrom none l = false) := by
        show _ → _
        intro h
        rw [hok.out, HDR.out, hadFrom_cons]
        rcases h with h | h | h | ⟨y, hy, h⟩
        · simp only [h]; rfl
        · simp only [decide_eq_false (show ¬ 1 ≤ xc by omega)]; simp
        · simp only [decide_eq_false (show ¬ xc ≤ 1099511627776 by omega)]; simp
        · rw [hy]; simp only [h]; simp
      have hgood : Hid (nameB xn = true → 1 ≤ xc → xc ≤ 1099511627776 → (∀ y, prevH l k = some y → Op.bytesLess y xn = true) → hadFrom none l = hadFrom (prevH l (k + 1)) (l.drop (k + 1))) := by
        show _ → _ → _ → _ → _
        intro h1 h4 h5 h3
        rw [hok.out, HDR.out]
        have hp : prevH l (k + 1) = some xn := by
          show (l[k]?).map _ = _
          rw [List.getElem?_eq_getElem hkl, ← HX.out]
          rfl
        rw [hp, hadFrom_cons]
        simp only [h1, decide_eq_true h4, decide_eq_true h5]
        cases hq : prevH l k with
        | none => rfl
        | some y => simp only [h3 y hq]; rfl
      have hN : ∀ W, Calls Tryd.prog 30 #[.string ⟨xn.toArray⟩] W fun e W' => e = .returned (.bool (nameB xn)) ∧ Below W.heap.size W W' := fun W => name_any ⟨xn.toArray⟩ W
      clear hx hdr hok
      obtain ⟨bn, hbn0⟩ : ∃ b, b = nameB xn := ⟨_, rfl⟩
      rw [← hbn0] at hbad hgood hN
      clear hbn0
      cases bn with
      | false =>
        have HB := Lib.hid (hbad.out (.inl rfl))
        have hS := Lib.hid (fun (W' : World) (hB : Below W0.heap.size W0 W') => (⟨(hB.cell (p := ⟨wr.heap.size, 0, none⟩) hlt0).trans k0, (hB.cell (p := ⟨wr.heap.size, 1, none⟩) hlt0).trans k1, hB⟩ : W'.cell? ⟨wr.heap.size, 0, none⟩ = some (.string ⟨xn.toArray⟩) ∧ W'.cell? ⟨wr.heap.size, 1, none⟩ = some (.int .i64 xc) ∧ Below W0.heap.size W0 W'))
        clear hr hrw hbad hgood
        go_wp2_with fail
        rw [← hW0]
        clear hW0 hszW
        refine wpC_region (fun W' => W'.cell? ⟨wr.heap.size, 0, none⟩ = some (.string ⟨xn.toArray⟩) ∧ W'.cell? ⟨wr.heap.size, 1, none⟩ = some (.int .i64 xc) ∧ Below W0.heap.size W0 W') (by kernel_rfl) (by kernel_rfl) (hS.out _ hS0) (fun OPS D QQ HO hD hD2 hQQ => ?_)
        have hgo4 : Hid ((OPS[4]?).bind (·.dst) = some 16) := by show _ = _; rw [HO.out]; rfl
        have hgo9 : Hid ((OPS[9]?).bind (·.dst) = some 21) := by show _ = _; rw [HO.out]; rfl
        have hgo14 : Hid ((OPS[14]?).bind (·.dst) = some 26) := by show _ = _; rw [HO.out]; rfl
        have hgo17 : Hid ((OPS[17]?).bind (·.dst) = some 29) := by show _ = _; rw [HO.out]; rfl
        clear HO
        have HD := Lib.hid hD
        have HD2 := Lib.hid hD2
        have HQQ := Lib.hid hQQ
        clear hD hD2 hQQ
        refine wpC_read (v := ?_) rfl (fun W hW => ?_) ?_
        rotate_left
        · clear hW; go_simp; try (with_reducible rfl)
        try simp only [Act.put, List.setIfInBounds_toArray, List.set_cons_zero, List.set_cons_succ]
        refine wpC_read (v := ?_) rfl (fun W hW => ?_) ?_
        rotate_left
        · replace hW := HD.out W hW
          obtain ⟨q0, q1, hcW⟩ := hW
          go_simp; try (with_reducible rfl)
        try simp only [Act.put, List.setIfInBounds_toArray, List.set_cons_zero, List.set_cons_succ]
        refine wpC_read (v := .bool false) rfl (fun W hW => ?_) ?_
        · replace hW := HD.out W hW
          obtain ⟨q0, q1, hcW⟩ := hW
          go_simp
          refine (hN _).mono ?_
          rintro e w4 ⟨rfl, hbn⟩
          exact ⟨rfl, HD2.out _ (hS.out _ (below_step hcW hbn))⟩
        try simp only [Act.put, List.setIfInBounds_toArray, List.set_cons_zero, List.set_cons_succ]
        refine wpC_read (v := ?_) rfl (fun W hW => ?_) ?_
        rotate_left
        · clear hW; go_simp; try (with_reducible rfl)
        try simp only [Act.put, List.setIfInBounds_toArray, List.set_cons_zero, List.set_cons_succ]
        refine wpC_read (v := ?_) rfl (fun W hW => ?_) ?_
        rotate_left
        · clear hW; go_simp; try (with_reducible rfl)
        try simp only [Act.put, List.setIfInBounds_toArray, List.set_cons_zero, List.set_cons_succ]
        refine wpC_skip rfl hgo4.out (.inl rfl) ?_
        try simp only [Act.put, List.setIfInBounds_toArray, List.set_cons_zero, List.set_cons_succ]
        refine wpC_skip rfl hgo4.out (.inl rfl) ?_
        try simp only [Act.put, List.setIfInBounds_toArray, List.set_cons_zero, List.set_cons_succ]
        refine wpC_skip rfl hgo4.out (.inl rfl) ?_
        try simp only [Act.put, List.setIfInBounds_toArray, List.set_cons_zero, List.set_cons_succ]
        refine wpC_read (v := ?_) rfl (fun W hW => ?_) ?_
        rotate_left
        · clear hW; go_simp; try (with_reducible rfl)
        try simp only [Act.put, List.setIfInBounds_toArray, List.set_cons_zero, List.set_cons_succ]
        refine wpC_read (v := ?_) rfl (fun W hW => ?_) ?_
        rotate_left
        · clear hW; go_simp; try (with_reducible rfl)
        try simp only [Act.put, List.setIfInBounds_toArray, List.set_cons_zero, List.set_cons_succ]
        refine wpC_skip rfl hgo9.out (.inl rfl) ?_
        try simp only [Act.put, List.setIfInBounds_toArray, List.set_cons_zero, List.set_cons_succ]
        refine wpC_skip rfl hgo9.out (.inl rfl) ?_
        try simp only [Act.put, List.setIfInBounds_toArray, List.set_cons_zero, List.set_cons_succ]
        refine wpC_skip rfl hgo9.out (.inl rfl) ?_
        try simp only [Act.put, List.setIfInBounds_toArray, List.set_cons_zero, List.set_cons_succ]
        refine wpC_read (v := ?_) rfl (fun W hW => ?_) ?_
        rotate_left
        · clear hW; go_simp; try (with_reducible rfl)
        try simp only [Act.put, List.setIfInBounds_toArray, List.set_cons_zero, List.set_cons_succ]
        refine wpC_read (v := ?_) rfl (fun W hW => ?_) ?_
        rotate_left
        · clear hW; go_simp; try (with_reducible rfl)
        try simp only [Act.put, List.setIfInBounds_toArray, List.set_cons_zero, List.set_cons_succ]
        refine wpC_skip rfl hgo14.out (.inl rfl) ?_
        try simp only [Act.put, List.setIfInBounds_toArray, List.set_cons_zero, List.set_cons_succ]
        refine wpC_skip rfl hgo14.out (.inl rfl) ?_
        try simp only [Act.put, List.setIfInBounds_toArray, List.set_cons_zero, List.set_cons_succ]
        refine wpC_skip rfl hgo14.out (.inl rfl) ?_
        try simp only [Act.put, List.setIfInBounds_toArray, List.set_cons_zero, List.set_cons_succ]
        refine wpC_skip rfl hgo17.out (.inr rfl) ?_
        try simp only [Act.put, List.setIfInBounds_toArray, List.set_cons_zero, List.set_cons_succ]
        refine wpC_skip rfl hgo17.out (.inr rfl) ?_
        try simp only [Act.put, List.setIfInBounds_toArray, List.set_cons_zero, List.set_cons_succ]
        refine wpC_skip rfl hgo17.out (.inr rfl) ?_
        try simp only [Act.put, List.setIfInBounds_toArray, List.set_cons_zero, List.set_cons_succ]
        refine wpC_skip rfl hgo17.out (.inr rfl) ?_
        try simp only [Act.put, List.setIfInBounds_toArray, List.set_cons_zero, List.set_cons_succ]
        refine wpC_skip rfl hgo17.out (.inr rfl) ?_
        try simp only [Act.put, List.setIfInBounds_toArray, List.set_cons_zero, List.set_cons_succ]
        refine wpC_skip rfl hgo17.out (.inr rfl) ?_
        try simp only [Act.put, List.setIfInBounds_toArray, List.set_cons_zero, List.set_cons_succ]
        refine wpC_skip rfl hgo17.out (.inr rfl) ?_
        try simp only [Act.put, List.setIfInBounds_toArray, List.set_cons_zero, List.set_cons_succ]
        refine wpC_skip rfl hgo17.out (.inr rfl) ?_
        try simp only [Act.put, List.setIfInBounds_toArray, List.set_cons_zero, List.set_cons_succ]
        refine wpC_skip rfl hgo17.out (.inr rfl) ?_
        try simp only [Act.put, List.setIfInBounds_toArray, List.set_cons_zero, List.set_cons_succ]
        refine wpC_skip rfl hgo14.out (.inl rfl) ?_
        try simp only [Act.put, List.setIfInBounds_toArray, List.set_cons_zero, List.set_cons_succ]
        refine wpC_read (v := ?_) rfl (fun W hW => ?_) ?_
        rotate_left
        · clear hW; go_simp; try (with_reducible rfl)
        try simp only [Act.put, List.setIfInBounds_toArray, List.set_cons_zero, List.set_cons_succ]
        refine wpQuiet_nil (HQQ.out _ (fun W hW => ?_))
        obtain ⟨q0, q1, hcW⟩ := hW
        go_wp2_with fail
        go_ret
        exact ⟨by rw [HB.out]; rfl, hbW.trans (hcW.mono (by have := HSZ.out; omega))⟩
      | true =>
        by_cases z1 : xc < 1
        · have z1' : decide (xc < 1) = true := by simpa using z1
          have HB := Lib.hid (hbad.out (.inr (.inl z1)))
          have hS := Lib.hid (fun (W' : World) (hB : Below W0.heap.size W0 W') => (⟨(hB.cell (p := ⟨wr.heap.size, 0, none⟩) hlt0).trans k0, (hB.cell (p := ⟨wr.heap.size, 1, none⟩) hlt0).trans k1, hB⟩ : W'.cell? ⟨wr.heap.size, 0, none⟩ = some (.string ⟨xn.toArray⟩) ∧ W'.cell? ⟨wr.heap.size, 1, none⟩ = some (.int .i64 xc) ∧ Below W0.heap.size W0 W'))
          clear hr hrw hbad hgood
          go_wp2_with fail
          rw [← hW0]
          clear hW0 hszW
          refine wpC_region (fun W' => W'.cell? ⟨wr.heap.size, 0, none⟩ = some (.string ⟨xn.toArray⟩) ∧ W'.cell? ⟨wr.heap.size, 1, none⟩ = some (.int .i64 xc) ∧ Below W0.heap.size W0 W') (by kernel_rfl) (by kernel_rfl) (hS.out _ hS0) (fun OPS D QQ HO hD hD2 hQQ => ?_)
          have hgo4 : Hid ((OPS[4]?).bind (·.dst) = some 16) := by show _ = _; rw [HO.out]; rfl
          have hgo9 : Hid ((OPS[9]?).bind (·.dst) = some 21) := by show _ = _; rw [HO.out]; rfl
          have hgo14 : Hid ((OPS[14]?).bind (·.dst) = some 26) := by show _ = _; rw [HO.out]; rfl
          have hgo17 : Hid ((OPS[17]?).bind (·.dst) = some 29) := by show _ = _; rw [HO.out]; rfl
          clear HO
          have HD := Lib.hid hD
          have HD2 := Lib.hid hD2
          have HQQ := Lib.hid hQQ
          clear hD hD2 hQQ
          refine wpC_read (v := ?_) rfl (fun W hW => ?_) ?_
          rotate_left
          · clear hW; go_simp; try (with_reducible rfl)
          try simp only [Act.put, List.setIfInBounds_toArray, List.set_cons_zero, List.set_cons_succ]
          refine wpC_read (v := ?_) rfl (fun W hW => ?_) ?_
          rotate_left
          · replace hW := HD.out W hW
            obtain ⟨q0, q1, hcW⟩ := hW
            go_simp; try (with_reducible rfl)
          try simp only [Act.put, List.setIfInBounds_toArray, List.set_cons_zero, List.set_cons_succ]
          refine wpC_read (v := .bool true) rfl (fun W hW => ?_) ?_
          · replace hW := HD.out W hW
            obtain ⟨q0, q1, hcW⟩ := hW
            go_simp
            refine (hN _).mono ?_
            rintro e w4 ⟨rfl, hbn⟩
            exact ⟨rfl, HD2.out _ (hS.out _ (below_step hcW hbn))⟩
          try simp only [Act.put, List.setIfInBounds_toArray, List.set_cons_zero, List.set_cons_succ]
          refine wpC_read (v := ?_) rfl (fun W hW => ?_) ?_
          rotate_left
          · clear hW; go_simp; try (with_reducible rfl)
          try simp only [Act.put, List.setIfInBounds_toArray, List.set_cons_zero, List.set_cons_succ]
          refine wpC_read (v := ?_) rfl (fun W hW => ?_) ?_
          rotate_left
          · clear hW; go_simp; try (with_reducible rfl)
          try simp only [Act.put, List.setIfInBounds_toArray, List.set_cons_zero, List.set_cons_succ]
          refine wpC_gread (v := ?_) rfl hgo4.out rfl (fun W hW => ?_) ?_
          rotate_left
          · clear hW; go_simp; try (with_reducible rfl)
          try simp only [Act.put, List.setIfInBounds_toArray, List.set_cons_zero, List.set_cons_succ]
          refine wpC_gread (v := ?_) rfl hgo4.out rfl (fun W hW => ?_) ?_
          rotate_left
          · replace hW := HD.out W hW
            obtain ⟨q0, q1, hcW⟩ := hW
            go_simp; try (with_reducible rfl)
          try simp only [Act.put, List.setIfInBounds_toArray, List.set_cons_zero, List.set_cons_succ]
          refine wpC_gread (v := ?_) rfl hgo4.out rfl (fun W hW => ?_) ?_
          rotate_left
          · clear hW; go_simp; try (with_reducible rfl)
          try simp only [Act.put, List.setIfInBounds_toArray, List.set_cons_zero, List.set_cons_succ]
          refine wpC_read (v := ?_) rfl (fun W hW => ?_) ?_
          rotate_left
          · clear hW; go_simp; try (with_reducible rfl)
          try simp only [Act.put, List.setIfInBounds_toArray, List.set_cons_zero, List.set_cons_succ]
          refine wpC_read (v := ?_) rfl (fun W hW => ?_) ?_
          rotate_left
          · clear hW; go_simp; try (with_reducible rfl)
          try simp only [Act.put, List.setIfInBounds_toArray, List.set_cons_zero, List.set_cons_succ]
          refine wpC_skip rfl hgo9.out (.inl rfl) ?_
          try simp only [Act.put, List.setIfInBounds_toArray, List.set_cons_zero, List.set_cons_succ]
          refine wpC_skip rfl hgo9.out (.inl rfl) ?_
          try simp only [Act.put, List.setIfInBounds_toArray, List.set_cons_zero, List.set_cons_succ]
          refine wpC_skip rfl hgo9.out (.inl rfl) ?_
          try simp only [Act.put, List.setIfInBounds_toArray, List.set_cons_zero, List.set_cons_succ]
          refine wpC_read (v := ?_) rfl (fun W hW => ?_) ?_
          rotate_left
          · clear hW; go_simp; try (with_reducible rfl)
          try simp only [Act.put, List.setIfInBounds_toArray, List.set_cons_zero, List.set_cons_succ]
          refine wpC_read (v := ?_) rfl (fun W hW => ?_) ?_
          rotate_left
          · clear hW; go_simp; try (with_reducible rfl)
          try simp only [Act.put, List.setIfInBounds_toArray, List.set_cons_zero, List.set_cons_succ]
          refine wpC_skip rfl hgo14.out (.inl rfl) ?_
          try simp only [Act.put, List.setIfInBounds_toArray, List.set_cons_zero, List.set_cons_succ]
          refine wpC_skip rfl hgo14.out (.inl rfl) ?_
          try simp only [Act.put, List.setIfInBounds_toArray, List.set_cons_zero, List.set_cons_succ]
          refine wpC_skip rfl hgo14.out (.inl rfl) ?_
          try simp only [Act.put, List.setIfInBounds_toArray, List.set_cons_zero, List.set_cons_succ]
          refine wpC_skip rfl hgo17.out (.inr rfl) ?_
          try simp only [Act.put, List.setIfInBounds_toArray, List.set_cons_zero, List.set_cons_succ]
          refine wpC_skip rfl hgo17.out (.inr rfl) ?_
          try simp only [Act.put, List.setIfInBounds_toArray, List.set_cons_zero, List.set_cons_succ]
          refine wpC_skip rfl hgo17.out (.inr rfl) ?_
          try simp only [Act.put, List.setIfInBounds_toArray, List.set_cons_zero, List.set_cons_succ]
          refine wpC_skip rfl hgo17.out (.inr rfl) ?_
          try simp only [Act.put, List.setIfInBounds_toArray, List.set_cons_zero, List.set_cons_succ]
          refine wpC_skip rfl hgo17.out (.inr rfl) ?_
          try simp only [Act.put, List.setIfInBounds_toArray, List.set_cons_zero, List.set_cons_succ]
          refine wpC_skip rfl hgo17.out (.inr rfl) ?_
          try simp only [Act.put, List.setIfInBounds_toArray, List.set_cons_zero, List.set_cons_succ]
          refine wpC_skip rfl hgo17.out (.inr rfl) ?_
          try simp only [Act.put, List.setIfInBounds_toArray, List.set_cons_zero, List.set_cons_succ]
          refine wpC_skip rfl hgo17.out (.inr rfl) ?_
          try simp only [Act.put, List.setIfInBounds_toArray, List.set_cons_zero, List.set_cons_succ]
          refine wpC_skip rfl hgo17.out (.inr rfl) ?_
          try simp only [Act.put, List.setIfInBounds_toArray, List.set_cons_zero, List.set_cons_succ]
          refine wpC_skip rfl hgo14.out (.inl rfl) ?_
          try simp only [Act.put, List.setIfInBounds_toArray, List.set_cons_zero, List.set_cons_succ]
          refine wpC_read (v := ?_) rfl (fun W hW => ?_) ?_
          rotate_left
          · clear hW; go_simp; try (with_reducible rfl)
          try simp only [Act.put, List.setIfInBounds_toArray, List.set_cons_zero, List.set_cons_succ]
          refine wpQuiet_nil (HQQ.out _ (fun W hW => ?_))
          obtain ⟨q0, q1, hcW⟩ := hW
          go_wp2_with fail
          go_ret
          exact ⟨by rw [HB.out]; rfl, hbW.trans (hcW.mono (by have := HSZ.out; omega))⟩
        by_cases z2 : 1099511627776 < xc
        · have z1' : decide (xc < 1) = false := by simpa using z1
          have z2' : decide (1099511627776 < xc) = true := by simpa using z2
          have HB := Lib.hid (hbad.out (.inr (.inr (.inl z2))))
          have hS := Lib.hid (fun (W' : World) (hB : Below W0.heap.size W0 W') => (⟨(hB.cell (p := ⟨wr.heap.size, 0, none⟩) hlt0).trans k0, (hB.cell (p := ⟨wr.heap.size, 1, none⟩) hlt0).trans k1, hB⟩ : W'.cell? ⟨wr.heap.size, 0, none⟩ = some (.string ⟨xn.toArray⟩) ∧ W'.cell? ⟨wr.heap.size, 1, none⟩ = some (.int .i64 xc) ∧ Below W0.heap.size W0 W'))
          clear hr hrw hbad hgood
          go_wp2_with fail
          rw [← hW0]
          clear hW0 hszW
          refine wpC_region (fun W' => W'.cell? ⟨wr.heap.size, 0, none⟩ = some (.string ⟨xn.toArray⟩) ∧ W'.cell? ⟨wr.heap.size, 1, none⟩ = some (.int .i64 xc) ∧ Below W0.heap.size W0 W') (by kernel_rfl) (by kernel_rfl) (hS.out _ hS0) (fun OPS D QQ HO hD hD2 hQQ => ?_)
          have hgo4 : Hid ((OPS[4]?).bind (·.dst) = some 16) := by show _ = _; rw [HO.out]; rfl
          have hgo9 : Hid ((OPS[9]?).bind (·.dst) = some 21) := by show _ = _; rw [HO.out]; rfl
          have hgo14 : Hid ((OPS[14]?).bind (·.dst) = some 26) := by show _ = _; rw [HO.out]; rfl
          have hgo17 : Hid ((OPS[17]?).bind (·.dst) = some 29) := by show _ = _; rw [HO.out]; rfl
          clear HO
          have HD := Lib.hid hD
          have HD2 := Lib.hid hD2
          have HQQ := Lib.hid hQQ
          clear hD hD2 hQQ
          refine wpC_read (v := ?_) rfl (fun W hW => ?_) ?_
          rotate_left
          · clear hW; go_simp; try (with_reducible rfl)
          try simp only [Act.put, List.setIfInBounds_toArray, List.set_cons_zero, List.set_cons_succ]
          refine wpC_read (v := ?_) rfl (fun W hW => ?_) ?_
          rotate_left
          · replace hW := HD.out W hW
            obtain ⟨q0, q1, hcW⟩ := hW
            go_simp; try (with_reducible rfl)
          try simp only [Act.put, List.setIfInBounds_toArray, List.set_cons_zero, List.set_cons_succ]
          refine wpC_read (v := .bool true) rfl (fun W hW => ?_) ?_
          · replace hW := HD.out W hW
            obtain ⟨q0, q1, hcW⟩ := hW
            go_simp
            refine (hN _).mono ?_
            rintro e w4 ⟨rfl, hbn⟩
            exact ⟨rfl, HD2.out _ (hS.out _ (below_step hcW hbn))⟩
          try simp only [Act.put, List.setIfInBounds_toArray, List.set_cons_zero, List.set_cons_succ]
          refine wpC_read (v := ?_) rfl (fun W hW => ?_) ?_
          rotate_left
          · clear hW; go_simp; try (with_reducible rfl)
          try simp only [Act.put, List.setIfInBounds_toArray, List.set_cons_zero, List.set_cons_succ]
          refine wpC_read (v := ?_) rfl (fun W hW => ?_) ?_
          rotate_left
          · clear hW; go_simp; try (with_reducible rfl)
          try simp only [Act.put, List.setIfInBounds_toArray, List.set_cons_zero, List.set_cons_succ]
          refine wpC_gread (v := ?_) rfl hgo4.out rfl (fun W hW => ?_) ?_
          rotate_left
          · clear hW; go_simp; try (with_reducible rfl)
          try simp only [Act.put, List.setIfInBounds_toArray, List.set_cons_zero, List.set_cons_succ]
          refine wpC_gread (v := ?_) rfl hgo4.out rfl (fun W hW => ?_) ?_
          rotate_left
          · replace hW := HD.out W hW
            obtain ⟨q0, q1, hcW⟩ := hW
            go_simp; try (with_reducible rfl)
          try simp only [Act.put, List.setIfInBounds_toArray, List.set_cons_zero, List.set_cons_succ]
          refine wpC_gread (v := ?_) rfl hgo4.out rfl (fun W hW => ?_) ?_
          rotate_left
          · clear hW; go_simp; try (with_reducible rfl)
          try simp only [Act.put, List.setIfInBounds_toArray, List.set_cons_zero, List.set_cons_succ]
          refine wpC_read (v := ?_) rfl (fun W hW => ?_) ?_
          rotate_left
          · clear hW; go_simp; try (with_reducible rfl)
          try simp only [Act.put, List.setIfInBounds_toArray, List.set_cons_zero, List.set_cons_succ]
          refine wpC_read (v := ?_) rfl (fun W hW => ?_) ?_
          rotate_left
          · clear hW; go_simp; try (with_reducible rfl)
          try simp only [Act.put, List.setIfInBounds_toArray, List.set_cons_zero, List.set_cons_succ]
          refine wpC_gread (v := ?_) rfl hgo9.out rfl (fun W hW => ?_) ?_
          rotate_left
          · clear hW; go_simp; try (with_reducible rfl)
          try simp only [Act.put, List.setIfInBounds_toArray, List.set_cons_zero, List.set_cons_succ]
          refine wpC_gread (v := ?_) rfl hgo9.out rfl (fun W hW => ?_) ?_
          rotate_left
          · replace hW := HD.out W hW
            obtain ⟨q0, q1, hcW⟩ := hW
            go_simp; try (with_reducible rfl)
          try simp only [Act.put, List.setIfInBounds_toArray, List.set_cons_zero, List.set_cons_succ]
          refine wpC_gread (v := ?_) rfl hgo9.out rfl (fun W hW => ?_) ?_
          rotate_left
          · clear hW; go_simp; try (with_reducible rfl)
          try simp only [Act.put, List.setIfInBounds_toArray, List.set_cons_zero, List.set_cons_succ]
          refine wpC_read (v := ?_) rfl (fun W hW => ?_) ?_
          rotate_left
          · clear hW; go_simp; try (with_reducible rfl)
          try simp only [Act.put, List.setIfInBounds_toArray, List.set_cons_zero, List.set_cons_succ]
          refine wpC_read (v := ?_) rfl (fun W hW => ?_) ?_
          rotate_left
          · clear hW; go_simp; try (with_reducible rfl)
          try simp only [Act.put, List.setIfInBounds_toArray, List.set_cons_zero, List.set_cons_succ]
          refine wpC_skip rfl hgo14.out (.inl rfl) ?_
          try simp only [Act.put, List.setIfInBounds_toArray, List.set_cons_zero, List.set_cons_succ]
          refine wpC_skip rfl hgo14.out (.inl rfl) ?_
          try simp only [Act.put, List.setIfInBounds_toArray, List.set_cons_zero, List.set_cons_succ]
          refine wpC_skip rfl hgo14.out (.inl rfl) ?_
          try simp only [Act.put, List.setIfInBounds_toArray, List.set_cons_zero, List.set_cons_succ]
          refine wpC_skip rfl hgo17.out (.inr rfl) ?_
          try simp only [Act.put, List.setIfInBounds_toArray, List.set_cons_zero, List.set_cons_succ]
          refine wpC_skip rfl hgo17.out (.inr rfl) ?_
          try simp only [Act.put, List.setIfInBounds_toArray, List.set_cons_zero, List.set_cons_succ]
          refine wpC_skip rfl hgo17.out (.inr rfl) ?_
          try simp only [Act.put, List.setIfInBounds_toArray, List.set_cons_zero, List.set_cons_succ]
          refine wpC_skip rfl hgo17.out (.inr rfl) ?_
          try simp only [Act.put, List.setIfInBounds_toArray, List.set_cons_zero, List.set_cons_succ]
          refine wpC_skip rfl hgo17.out (.inr rfl) ?_
          try simp only [Act.put, List.setIfInBounds_toArray, List.set_cons_zero, List.set_cons_succ]
          refine wpC_skip rfl hgo17.out (.inr rfl) ?_
          try simp only [Act.put, List.setIfInBounds_toArray, List.set_cons_zero, List.set_cons_succ]
          refine wpC_skip rfl hgo17.out (.inr rfl) ?_
          try simp only [Act.put, List.setIfInBounds_toArray, List.set_cons_zero, List.set_cons_succ]
          refine wpC_skip rfl hgo17.out (.inr rfl) ?_
          try simp only [Act.put, List.setIfInBounds_toArray, List.set_cons_zero, List.set_cons_succ]
          refine wpC_skip rfl hgo17.out (.inr rfl) ?_
          try simp only [Act.put, List.setIfInBounds_toArray, List.set_cons_zero, List.set_cons_succ]
          refine wpC_skip rfl hgo14.out (.inl rfl) ?_
          try simp only [Act.put, List.setIfInBounds_toArray, List.set_cons_zero, List.set_cons_succ]
          refine wpC_read (v := ?_) rfl (fun W hW => ?_) ?_
          rotate_left
          · clear hW; go_simp; try (with_reducible rfl)
          try simp only [Act.put, List.setIfInBounds_toArray, List.set_cons_zero, List.set_cons_succ]
          refine wpQuiet_nil (HQQ.out _ (fun W hW => ?_))
          obtain ⟨q0, q1, hcW⟩ := hW
          go_wp2_with fail
          go_ret
          exact ⟨by rw [HB.out]; rfl, hbW.trans (hcW.mono (by have := HSZ.out; omega))⟩
        have z1' : decide (xc < 1) = false := by simpa using z1
        have z2' : decide (1099511627776 < xc) = false := by simpa using z2
        rcases Nat.eq_zero_or_pos k with h0 | h0
        · have HG := Lib.hid (hgood.out rfl (by omega) (by omega) (fun y hy => by subst h0; cases hy))
          have d4 : decide ((0 : Int) < (k : Int)) = false := by simp; omega
          have d4' : decide (0 < k) = false := by simp; omega
          clear h0
          have hS := Lib.hid (fun (W' : World) (hB : Below W0.heap.size W0 W') => (⟨(hB.cell (p := ⟨wr.heap.size, 0, none⟩) hlt0).trans k0, (hB.cell (p := ⟨wr.heap.size, 1, none⟩) hlt0).trans k1, hB⟩ : W'.cell? ⟨wr.heap.size, 0, none⟩ = some (.string ⟨xn.toArray⟩) ∧ W'.cell? ⟨wr.heap.size, 1, none⟩ = some (.int .i64 xc) ∧ Below W0.heap.size W0 W'))
          clear hr hrw hbad hgood
          go_wp2_with fail
          rw [← hW0]
          clear hW0 hszW
          refine wpC_region (fun W' => W'.cell? ⟨wr.heap.size, 0, none⟩ = some (.string ⟨xn.toArray⟩) ∧ W'.cell? ⟨wr.heap.size, 1, none⟩ = some (.int .i64 xc) ∧ Below W0.heap.size W0 W') (by kernel_rfl) (by kernel_rfl) (hS.out _ hS0) (fun OPS D QQ HO hD hD2 hQQ => ?_)
          have hgo4 : Hid ((OPS[4]?).bind (·.dst) = some 16) := by show _ = _; rw [HO.out]; rfl
          have hgo9 : Hid ((OPS[9]?).bind (·.dst) = some 21) := by show _ = _; rw [HO.out]; rfl
          have hgo14 : Hid ((OPS[14]?).bind (·.dst) = some 26) := by show _ = _; rw [HO.out]; rfl
          have hgo17 : Hid ((OPS[17]?).bind (·.dst) = some 29) := by show _ = _; rw [HO.out]; rfl
          clear HO
          have HD := Lib.hid hD
          have HD2 := Lib.hid hD2
          have HQQ := Lib.hid hQQ
          clear hD hD2 hQQ
          refine wpC_read (v := ?_) rfl (fun W hW => ?_) ?_
          rotate_left
          · clear hW; go_simp; try (with_reducible rfl)
          try simp only [Act.put, List.setIfInBounds_toArray, List.set_cons_zero, List.set_cons_succ]
          refine wpC_read (v := ?_) rfl (fun W hW => ?_) ?_
          rotate_left
          · replace hW := HD.out W hW
            obtain ⟨q0, q1, hcW⟩ := hW
            go_simp; try (with_reducible rfl)
          try simp only [Act.put, List.setIfInBounds_toArray, List.set_cons_zero, List.set_cons_succ]
          refine wpC_read (v := .bool true) rfl (fun W hW => ?_) ?_
          · replace hW := HD.out W hW
            obtain ⟨q0, q1, hcW⟩ := hW
            go_simp
            refine (hN _).mono ?_
            rintro e w4 ⟨rfl, hbn⟩
            exact ⟨rfl, HD2.out _ (hS.out _ (below_step hcW hbn))⟩
          try simp only [Act.put, List.setIfInBounds_toArray, List.set_cons_zero, List.set_cons_succ]
          refine wpC_read (v := ?_) rfl (fun W hW => ?_) ?_
          rotate_left
          · clear hW; go_simp; try (with_reducible rfl)
          try simp only [Act.put, List.setIfInBounds_toArray, List.set_cons_zero, List.set_cons_succ]
          refine wpC_read (v := ?_) rfl (fun W hW => ?_) ?_
          rotate_left
          · clear hW; go_simp; try (with_reducible rfl)
          try simp only [Act.put, List.setIfInBounds_toArray, List.set_cons_zero, List.set_cons_succ]
          refine wpC_gread (v := ?_) rfl hgo4.out rfl (fun W hW => ?_) ?_
          rotate_left
          · clear hW; go_simp; try (with_reducible rfl)
          try simp only [Act.put, List.setIfInBounds_toArray, List.set_cons_zero, List.set_cons_succ]
          refine wpC_gread (v := ?_) rfl hgo4.out rfl (fun W hW => ?_) ?_
          rotate_left
          · replace hW := HD.out W hW
            obtain ⟨q0, q1, hcW⟩ := hW
            go_simp; try (with_reducible rfl)
          try simp only [Act.put, List.setIfInBounds_toArray, List.set_cons_zero, List.set_cons_succ]
          refine wpC_gread (v := ?_) rfl hgo4.out rfl (fun W hW => ?_) ?_
          rotate_left
          · clear hW; go_simp; try (with_reducible rfl)
          try simp only [Act.put, List.setIfInBounds_toArray, List.set_cons_zero, List.set_cons_succ]
          refine wpC_read (v := ?_) rfl (fun W hW => ?_) ?_
          rotate_left
          · clear hW; go_simp; try (with_reducible rfl)
          try simp only [Act.put, List.setIfInBounds_toArray, List.set_cons_zero, List.set_cons_succ]
          refine wpC_read (v := ?_) rfl (fun W hW => ?_) ?_
          rotate_left
          · clear hW; go_simp; try (with_reducible rfl)
          try simp only [Act.put, List.setIfInBounds_toArray, List.set_cons_zero, List.set_cons_succ]
          refine wpC_gread (v := ?_) rfl hgo9.out rfl (fun W hW => ?_) ?_
          rotate_left
          · clear hW; go_simp; try (with_reducible rfl)
          try simp only [Act.put, List.setIfInBounds_toArray, List.set_cons_zero, List.set_cons_succ]
          refine wpC_gread (v := ?_) rfl hgo9.out rfl (fun W hW => ?_) ?_
          rotate_left
          · replace hW := HD.out W hW
            obtain ⟨q0, q1, hcW⟩ := hW
            go_simp; try (with_reducible rfl)
          try simp only [Act.put, List.setIfInBounds_toArray, List.set_cons_zero, List.set_cons_succ]
          refine wpC_gread (v := ?_) rfl hgo9.out rfl (fun W hW => ?_) ?_
          rotate_left
          · clear hW; go_simp; try (with_reducible rfl)
          try simp only [Act.put, List.setIfInBounds_toArray, List.set_cons_zero, List.set_cons_succ]
          refine wpC_read (v := ?_) rfl (fun W hW => ?_) ?_
          rotate_left
          · clear hW; go_simp; try (with_reducible rfl)
          try simp only [Act.put, List.setIfInBounds_toArray, List.set_cons_zero, List.set_cons_succ]
          refine wpC_read (v := ?_) rfl (fun W hW => ?_) ?_
          rotate_left
          · clear hW; go_simp; try (with_reducible rfl)
          try simp only [Act.put, List.setIfInBounds_toArray, List.set_cons_zero, List.set_cons_succ]
          refine wpC_gread (v := ?_) rfl hgo14.out rfl (fun W hW => ?_) ?_
          rotate_left
          · clear hW; go_simp; try (with_reducible rfl)
          try simp only [Act.put, List.setIfInBounds_toArray, List.set_cons_zero, List.set_cons_succ]
          refine wpC_gread (v := ?_) rfl hgo14.out rfl (fun W hW => ?_) ?_
          rotate_left
          · clear hW; go_simp; try (with_reducible rfl)
          try simp only [Act.put, List.setIfInBounds_toArray, List.set_cons_zero, List.set_cons_succ]
          refine wpC_gread (v := ?_) rfl hgo14.out rfl (fun W hW => ?_) ?_
          rotate_left
          · clear hW; go_simp; try (with_reducible rfl)
          try simp only [Act.put, List.setIfInBounds_toArray, List.set_cons_zero, List.set_cons_succ]
          refine wpC_skip rfl hgo17.out (.inl rfl) ?_
          try simp only [Act.put, List.setIfInBounds_toArray, List.set_cons_zero, List.set_cons_succ]
          refine wpC_skip rfl hgo17.out (.inl rfl) ?_
          try simp only [Act.put, List.setIfInBounds_toArray, List.set_cons_zero, List.set_cons_succ]
          refine wpC_skip rfl hgo17.out (.inl rfl) ?_
          try simp only [Act.put, List.setIfInBounds_toArray, List.set_cons_zero, List.set_cons_succ]
          refine wpC_skip rfl hgo17.out (.inl rfl) ?_
          try simp only [Act.put, List.setIfInBounds_toArray, List.set_cons_zero, List.set_cons_succ]
          refine wpC_skip rfl hgo17.out (.inl rfl) ?_
          try simp only [Act.put, List.setIfInBounds_toArray, List.set_cons_zero, List.set_cons_succ]
          refine wpC_skip rfl hgo17.out (.inl rfl) ?_
          try simp only [Act.put, List.setIfInBounds_toArray, List.set_cons_zero, List.set_cons_succ]
          refine wpC_skip rfl hgo17.out (.inl rfl) ?_
          try simp only [Act.put, List.setIfInBounds_toArray, List.set_cons_zero, List.set_cons_succ]
          refine wpC_skip rfl hgo17.out (.inl rfl) ?_
          try simp only [Act.put, List.setIfInBounds_toArray, List.set_cons_zero, List.set_cons_succ]
          refine wpC_skip rfl hgo17.out (.inl rfl) ?_
          try simp only [Act.put, List.setIfInBounds_toArray, List.set_cons_zero, List.set_cons_succ]
          refine wpC_gread (v := ?_) rfl hgo14.out rfl (fun W hW => ?_) ?_
          rotate_left
          · clear hW; go_simp; try (with_reducible rfl)
          try simp only [Act.put, List.setIfInBounds_toArray, List.set_cons_zero, List.set_cons_succ]
          refine wpC_read (v := ?_) rfl (fun W hW => ?_) ?_
          rotate_left
          · clear hW; go_simp; try (with_reducible rfl)
          try simp only [Act.put, List.setIfInBounds_toArray, List.set_cons_zero, List.set_cons_succ]
          refine wpQuiet_nil (HQQ.out _ (fun W hW => ?_))
          obtain ⟨q0, q1, hcW⟩ := hW
          go_wp2_with fail
          go_roundw
          case rel => exact ⟨k + 1, by omega, by go_num, HG, hbW.trans (hcW.mono (by have := HSZ.out; omega))⟩
          case measure => simp [intOf]; omega
        · have d4 : decide ((0 : Int) < (k : Int)) = true := by simp; omega
          have d4' : decide (0 < k) = true := by simp; omega
          have hk1l : k - 1 < l.length := by omega
          obtain ⟨y, hy⟩ : ∃ y, y = l[k - 1]'hk1l := ⟨_, rfl⟩
          have hpv : prevH l k = some y.1 := by
            obtain ⟨j, rfl⟩ : ∃ j, k = j + 1 := ⟨k - 1, by omega⟩
            show (l[j]?).map _ = _
            have hj : j < l.length := by simpa using hk1l
            rw [List.getElem?_eq_getElem hj, hy]
            rfl
          obtain ⟨ad2, e2, -, p0, p1⟩ := (hrw.el2 HN.out (i := k - 1) (by omega))
          injection e2 with e2
          subst e2
          rw [← hy] at p0 p1
          obtain ⟨yn, yc⟩ := y
          simp only at p0 p1 hpv
          have hltp : (ad.add ((k - 1) * 2)).block < W0.heap.size := by rw [block_of_add]; omega
          have hltw : (ad.add ((k - 1) * 2)).block < wr.heap.size := by rw [block_of_add]; omega
          have kp0 : W0.cell? (ad.add ((k - 1) * 2)) = some (.string ⟨yn.toArray⟩) := by rw [hW0]; exact (World.cell?_alloc_lt wr _ _ hltw).trans p0
          have i1 : (1 : Int) ≤ (k : Int) := by omega
          have i2 : (k : Int) - 1 < (n : Int) := by omega
          have i3 : IntKind.i64.wrap ((k : Int) - 1) = (k : Int) - 1 := IntWalk.i64_in _ (by omega)
          have i4 : ((k : Int) - 1).toNat = k - 1 := by omega
          have hgeq := geqS 9 yn xn
          have hbadO := fun (h : Op.bytesLess yn xn = false) => hbad.out (.inr (.inr (.inr ⟨_, hpv, h⟩)))
          have hgoodO := fun (h : Op.bytesLess yn xn = true) => hgood.out rfl (by omega) (by omega) (fun y' hy' => by rw [hpv] at hy'; cases hy'; exact h)
          obtain ⟨z, hz⟩ : ∃ z, z = Op.bytesLess yn xn := ⟨_, rfl⟩
          rw [← hz] at hgeq hbadO hgoodO
          clear hz
          cases z with
          | true =>
            have HG := Lib.hid (hgoodO rfl)
            simp only [Bool.not_true] at hgeq
            clear h0 hpv hy p0 p1 hbadO hgoodO
            have hS := Lib.hid (fun (W' : World) (hB : Below W0.heap.size W0 W') => (⟨(hB.cell (p := ⟨wr.heap.size, 0, none⟩) hlt0).trans k0, (hB.cell (p := ⟨wr.heap.size, 1, none⟩) hlt0).trans k1, (hB.cell (p := ad.add ((k - 1) * 2)) hltp).trans kp0, hB⟩ : W'.cell? ⟨wr.heap.size, 0, none⟩ = some (.string ⟨xn.toArray⟩) ∧ W'.cell? ⟨wr.heap.size, 1, none⟩ = some (.int .i64 xc) ∧ W'.cell? (ad.add ((k - 1) * 2)) = some (.string ⟨yn.toArray⟩) ∧ Below W0.heap.size W0 W'))
            clear hr hrw hbad hgood
            go_wp2_with fail
            rw [← hW0]
            clear hW0 hszW
            refine wpC_region (fun W' => W'.cell? ⟨wr.heap.size, 0, none⟩ = some (.string ⟨xn.toArray⟩) ∧ W'.cell? ⟨wr.heap.size, 1, none⟩ = some (.int .i64 xc) ∧ W'.cell? (ad.add ((k - 1) * 2)) = some (.string ⟨yn.toArray⟩) ∧ Below W0.heap.size W0 W') (by kernel_rfl) (by kernel_rfl) (hS.out _ hS0) (fun OPS D QQ HO hD hD2 hQQ => ?_)
            have hgo4 : Hid ((OPS[4]?).bind (·.dst) = some 16) := by show _ = _; rw [HO.out]; rfl
            have hgo9 : Hid ((OPS[9]?).bind (·.dst) = some 21) := by show _ = _; rw [HO.out]; rfl
            have hgo14 : Hid ((OPS[14]?).bind (·.dst) = some 26) := by show _ = _; rw [HO.out]; rfl
            have hgo17 : Hid ((OPS[17]?).bind (·.dst) = some 29) := by show _ = _; rw [HO.out]; rfl
            clear HO
            have HD := Lib.hid hD
            have HD2 := Lib.hid hD2
            have HQQ := Lib.hid hQQ
            clear hD hD2 hQQ
            refine wpC_read (v := ?_) rfl (fun W hW => ?_) ?_
            rotate_left
            · clear hW; go_simp; try (with_reducible rfl)
            try simp only [Act.put, List.setIfInBounds_toArray, List.set_cons_zero, List.set_cons_succ]
            refine wpC_read (v := ?_) rfl (fun W hW => ?_) ?_
            rotate_left
            · replace hW := HD.out W hW
              obtain ⟨q0, q1, q2, hcW⟩ := hW
              go_simp; try (with_reducible rfl)
            try simp only [Act.put, List.setIfInBounds_toArray, List.set_cons_zero, List.set_cons_succ]
            refine wpC_read (v := .bool true) rfl (fun W hW => ?_) ?_
            · replace hW := HD.out W hW
              obtain ⟨q0, q1, q2, hcW⟩ := hW
              go_simp
              refine (hN _).mono ?_
              rintro e w4 ⟨rfl, hbn⟩
              exact ⟨rfl, HD2.out _ (hS.out _ (below_step hcW hbn))⟩
            try simp only [Act.put, List.setIfInBounds_toArray, List.set_cons_zero, List.set_cons_succ]
            refine wpC_read (v := ?_) rfl (fun W hW => ?_) ?_
            rotate_left
            · clear hW; go_simp; try (with_reducible rfl)
            try simp only [Act.put, List.setIfInBounds_toArray, List.set_cons_zero, List.set_cons_succ]
            refine wpC_read (v := ?_) rfl (fun W hW => ?_) ?_
            rotate_left
            · clear hW; go_simp; try (with_reducible rfl)
            try simp only [Act.put, List.setIfInBounds_toArray, List.set_cons_zero, List.set_cons_succ]
            refine wpC_gread (v := ?_) rfl hgo4.out rfl (fun W hW => ?_) ?_
            rotate_left
            · clear hW; go_simp; try (with_reducible rfl)
            try simp only [Act.put, List.setIfInBounds_toArray, List.set_cons_zero, List.set_cons_succ]
            refine wpC_gread (v := ?_) rfl hgo4.out rfl (fun W hW => ?_) ?_
            rotate_left
            · replace hW := HD.out W hW
              obtain ⟨q0, q1, q2, hcW⟩ := hW
              go_simp; try (with_reducible rfl)
            try simp only [Act.put, List.setIfInBounds_toArray, List.set_cons_zero, List.set_cons_succ]
            refine wpC_gread (v := ?_) rfl hgo4.out rfl (fun W hW => ?_) ?_
            rotate_left
            · clear hW; go_simp; try (with_reducible rfl)
            try simp only [Act.put, List.setIfInBounds_toArray, List.set_cons_zero, List.set_cons_succ]
            refine wpC_read (v := ?_) rfl (fun W hW => ?_) ?_
            rotate_left
            · clear hW; go_simp; try (with_reducible rfl)
            try simp only [Act.put, List.setIfInBounds_toArray, List.set_cons_zero, List.set_cons_succ]
            refine wpC_read (v := ?_) rfl (fun W hW => ?_) ?_
            rotate_left
            · clear hW; go_simp; try (with_reducible rfl)
            try simp only [Act.put, List.setIfInBounds_toArray, List.set_cons_zero, List.set_cons_succ]
            refine wpC_gread (v := ?_) rfl hgo9.out rfl (fun W hW => ?_) ?_
            rotate_left
            · clear hW; go_simp; try (with_reducible rfl)
            try simp only [Act.put, List.setIfInBounds_toArray, List.set_cons_zero, List.set_cons_succ]
            refine wpC_gread (v := ?_) rfl hgo9.out rfl (fun W hW => ?_) ?_
            rotate_left
            · replace hW := HD.out W hW
              obtain ⟨q0, q1, q2, hcW⟩ := hW
              go_simp; try (with_reducible rfl)
            try simp only [Act.put, List.setIfInBounds_toArray, List.set_cons_zero, List.set_cons_succ]
            refine wpC_gread (v := ?_) rfl hgo9.out rfl (fun W hW => ?_) ?_
            rotate_left
            · clear hW; go_simp; try (with_reducible rfl)
            try simp only [Act.put, List.setIfInBounds_toArray, List.set_cons_zero, List.set_cons_succ]
            refine wpC_read (v := ?_) rfl (fun W hW => ?_) ?_
            rotate_left
            · clear hW; go_simp; try (with_reducible rfl)
            try simp only [Act.put, List.setIfInBounds_toArray, List.set_cons_zero, List.set_cons_succ]
            refine wpC_read (v := ?_) rfl (fun W hW => ?_) ?_
            rotate_left
            · clear hW; go_simp; try (with_reducible rfl)
            try simp only [Act.put, List.setIfInBounds_toArray, List.set_cons_zero, List.set_cons_succ]
            refine wpC_gread (v := ?_) rfl hgo14.out rfl (fun W hW => ?_) ?_
            rotate_left
            · clear hW; go_simp; try (with_reducible rfl)
            try simp only [Act.put, List.setIfInBounds_toArray, List.set_cons_zero, List.set_cons_succ]
            refine wpC_gread (v := ?_) rfl hgo14.out rfl (fun W hW => ?_) ?_
            rotate_left
            · clear hW; go_simp; try (with_reducible rfl)
            try simp only [Act.put, List.setIfInBounds_toArray, List.set_cons_zero, List.set_cons_succ]
            refine wpC_gread (v := ?_) rfl hgo14.out rfl (fun W hW => ?_) ?_
            rotate_left
            · clear hW; go_simp; try (with_reducible rfl)
            try simp only [Act.put, List.setIfInBounds_toArray, List.set_cons_zero, List.set_cons_succ]
            refine wpC_gread (v := ?_) rfl hgo17.out rfl (fun W hW => ?_) ?_
            rotate_left
            · clear hW; go_simp; try (with_reducible rfl)
            try simp only [Act.put, List.setIfInBounds_toArray, List.set_cons_zero, List.set_cons_succ]
            refine wpC_gread (v := ?_) rfl hgo17.out rfl (fun W hW => ?_) ?_
            rotate_left
            · clear hW; go_simp; try (with_reducible rfl)
            try simp only [Act.put, List.setIfInBounds_toArray, List.set_cons_zero, List.set_cons_succ]
            refine wpC_gread (v := ?_) rfl hgo17.out rfl (fun W hW => ?_) ?_
            rotate_left
            · clear hW; go_simp; try (with_reducible rfl)
            try simp only [Act.put, List.setIfInBounds_toArray, List.set_cons_zero, List.set_cons_succ]
            refine wpC_gread (v := ?_) rfl hgo17.out rfl (fun W hW => ?_) ?_
            rotate_left
            · clear hW; go_simp; try (with_reducible rfl)
            try simp only [Act.put, List.setIfInBounds_toArray, List.set_cons_zero, List.set_cons_succ]
            refine wpC_gread (v := ?_) rfl hgo17.out rfl (fun W hW => ?_) ?_
            rotate_left
            · clear hW; go_simp; try (with_reducible rfl)
            try simp only [Act.put, List.setIfInBounds_toArray, List.set_cons_zero, List.set_cons_succ]
            refine wpC_gread (v := ?_) rfl hgo17.out rfl (fun W hW => ?_) ?_
            rotate_left
            · replace hW := HD.out W hW
              obtain ⟨q0, q1, q2, hcW⟩ := hW
              go_simp; try (with_reducible rfl)
            try simp only [Act.put, List.setIfInBounds_toArray, List.set_cons_zero, List.set_cons_succ]
            refine wpC_gread (v := ?_) rfl hgo17.out rfl (fun W hW => ?_) ?_
            rotate_left
            · clear hW; go_simp; try (with_reducible rfl)
            try simp only [Act.put, List.setIfInBounds_toArray, List.set_cons_zero, List.set_cons_succ]
            refine wpC_gread (v := ?_) rfl hgo17.out rfl (fun W hW => ?_) ?_
            rotate_left
            · replace hW := HD.out W hW
              obtain ⟨q0, q1, q2, hcW⟩ := hW
              go_simp; try (with_reducible rfl)
            try simp only [Act.put, List.setIfInBounds_toArray, List.set_cons_zero, List.set_cons_succ]
            refine wpC_gread (v := ?_) rfl hgo17.out rfl (fun W hW => ?_) ?_
            rotate_left
            · clear hW; go_simp; try (with_reducible rfl)
            try simp only [Act.put, List.setIfInBounds_toArray, List.set_cons_zero, List.set_cons_succ]
            refine wpC_gread (v := ?_) rfl hgo14.out rfl (fun W hW => ?_) ?_
            rotate_left
            · clear hW; go_simp; try (with_reducible rfl)
            try simp only [Act.put, List.setIfInBounds_toArray, List.set_cons_zero, List.set_cons_succ]
            refine wpC_read (v := ?_) rfl (fun W hW => ?_) ?_
            rotate_left
            · clear hW; go_simp; try (with_reducible rfl)
            try simp only [Act.put, List.setIfInBounds_toArray, List.set_cons_zero, List.set_cons_succ]
            refine wpQuiet_nil (HQQ.out _ (fun W hW => ?_))
            obtain ⟨q0, q1, q2, hcW⟩ := hW
            go_wp2_with fail
            go_roundw
            case rel => exact ⟨k + 1, by omega, by go_num, HG, hbW.trans (hcW.mono (by have := HSZ.out; omega))⟩
            case measure => simp [intOf]; omega
          | false =>
            have HB := Lib.hid (hbadO rfl)
            simp only [Bool.not_false] at hgeq
            clear h0 hpv hy p0 p1 hbadO hgoodO
            have hS := Lib.hid (fun (W' : World) (hB : Below W0.heap.size W0 W') => (⟨(hB.cell (p := ⟨wr.heap.size, 0, none⟩) hlt0).trans k0, (hB.cell (p := ⟨wr.heap.size, 1, none⟩) hlt0).trans k1, (hB.cell (p := ad.add ((k - 1) * 2)) hltp).trans kp0, hB⟩ : W'.cell? ⟨wr.heap.size, 0, none⟩ = some (.string ⟨xn.toArray⟩) ∧ W'.cell? ⟨wr.heap.size, 1, none⟩ = some (.int .i64 xc) ∧ W'.cell? (ad.add ((k - 1) * 2)) = some (.string ⟨yn.toArray⟩) ∧ Below W0.heap.size W0 W'))
            clear hr hrw hbad hgood
            go_wp2_with fail
            rw [← hW0]
            clear hW0 hszW
            refine wpC_region (fun W' => W'.cell? ⟨wr.heap.size, 0, none⟩ = some (.string ⟨xn.toArray⟩) ∧ W'.cell? ⟨wr.heap.size, 1, none⟩ = some (.int .i64 xc) ∧ W'.cell? (ad.add ((k - 1) * 2)) = some (.string ⟨yn.toArray⟩) ∧ Below W0.heap.size W0 W') (by kernel_rfl) (by kernel_rfl) (hS.out _ hS0) (fun OPS D QQ HO hD hD2 hQQ => ?_)
            have hgo4 : Hid ((OPS[4]?).bind (·.dst) = some 16) := by show _ = _; rw [HO.out]; rfl
            have hgo9 : Hid ((OPS[9]?).bind (·.dst) = some 21) := by show _ = _; rw [HO.out]; rfl
            have hgo14 : Hid ((OPS[14]?).bind (·.dst) = some 26) := by show _ = _; rw [HO.out]; rfl
            have hgo17 : Hid ((OPS[17]?).bind (·.dst) = some 29) := by show _ = _; rw [HO.out]; rfl
            clear HO
            have HD := Lib.hid hD
            have HD2 := Lib.hid hD2
            have HQQ := Lib.hid hQQ
            clear hD hD2 hQQ
            refine wpC_read (v := ?_) rfl (fun W hW => ?_) ?_
            rotate_left
            · clear hW; go_simp; try (with_reducible rfl)
            try simp only [Act.put, List.setIfInBounds_toArray, List.set_cons_zero, List.set_cons_succ]
            refine wpC_read (v := ?_) rfl (fun W hW => ?_) ?_
            rotate_left
            · replace hW := HD.out W hW
              obtain ⟨q0, q1, q2, hcW⟩ := hW
              go_simp; try (with_reducible rfl)
            try simp only [Act.put, List.setIfInBounds_toArray, List.set_cons_zero, List.set_cons_succ]
            refine wpC_read (v := .bool true) rfl (fun W hW => ?_) ?_
            · replace hW := HD.out W hW
              obtain ⟨q0, q1, q2, hcW⟩ := hW
              go_simp
              refine (hN _).mono ?_
              rintro e w4 ⟨rfl, hbn⟩
              exact ⟨rfl, HD2.out _ (hS.out _ (below_step hcW hbn))⟩
            try simp only [Act.put, List.setIfInBounds_toArray, List.set_cons_zero, List.set_cons_succ]
            refine wpC_read (v := ?_) rfl (fun W hW => ?_) ?_
            rotate_left
            · clear hW; go_simp; try (with_reducible rfl)
            try simp only [Act.put, List.setIfInBounds_toArray, List.set_cons_zero, List.set_cons_succ]
            refine wpC_read (v := ?_) rfl (fun W hW => ?_) ?_
            rotate_left
            · clear hW; go_simp; try (with_reducible rfl)
            try simp only [Act.put, List.setIfInBounds_toArray, List.set_cons_zero, List.set_cons_succ]
            refine wpC_gread (v := ?_) rfl hgo4.out rfl (fun W hW => ?_) ?_
            rotate_left
            · clear hW; go_simp; try (with_reducible rfl)
            try simp only [Act.put, List.setIfInBounds_toArray, List.set_cons_zero, List.set_cons_succ]
            refine wpC_gread (v := ?_) rfl hgo4.out rfl (fun W hW => ?_) ?_
            rotate_left
            · replace hW := HD.out W hW
              obtain ⟨q0, q1, q2, hcW⟩ := hW
              go_simp; try (with_reducible rfl)
            try simp only [Act.put, List.setIfInBounds_toArray, List.set_cons_zero, List.set_cons_succ]
            refine wpC_gread (v := ?_) rfl hgo4.out rfl (fun W hW => ?_) ?_
            rotate_left
            · clear hW; go_simp; try (with_reducible rfl)
            try simp only [Act.put, List.setIfInBounds_toArray, List.set_cons_zero, List.set_cons_succ]
            refine wpC_read (v := ?_) rfl (fun W hW => ?_) ?_
            rotate_left
            · clear hW; go_simp; try (with_reducible rfl)
            try simp only [Act.put, List.setIfInBounds_toArray, List.set_cons_zero, List.set_cons_succ]
            refine wpC_read (v := ?_) rfl (fun W hW => ?_) ?_
            rotate_left
            · clear hW; go_simp; try (with_reducible rfl)
            try simp only [Act.put, List.setIfInBounds_toArray, List.set_cons_zero, List.set_cons_succ]
            refine wpC_gread (v := ?_) rfl hgo9.out rfl (fun W hW => ?_) ?_
            rotate_left
            · clear hW; go_simp; try (with_reducible rfl)
            try simp only [Act.put, List.setIfInBounds_toArray, List.set_cons_zero, List.set_cons_succ]
            refine wpC_gread (v := ?_) rfl hgo9.out rfl (fun W hW => ?_) ?_
            rotate_left
            · replace hW := HD.out W hW
              obtain ⟨q0, q1, q2, hcW⟩ := hW
              go_simp; try (with_reducible rfl)
            try simp only [Act.put, List.setIfInBounds_toArray, List.set_cons_zero, List.set_cons_succ]
            refine wpC_gread (v := ?_) rfl hgo9.out rfl (fun W hW => ?_) ?_
            rotate_left
            · clear hW; go_simp; try (with_reducible rfl)
            try simp only [Act.put, List.setIfInBounds_toArray, List.set_cons_zero, List.set_cons_succ]
            refine wpC_read (v := ?_) rfl (fun W hW => ?_) ?_
            rotate_left
            · clear hW; go_simp; try (with_reducible rfl)
            try simp only [Act.put, List.setIfInBounds_toArray, List.set_cons_zero, List.set_cons_succ]
            refine wpC_read (v := ?_) rfl (fun W hW => ?_) ?_
            rotate_left
            · clear hW; go_simp; try (with_reducible rfl)
            try simp only [Act.put, List.setIfInBounds_toArray, List.set_cons_zero, List.set_cons_succ]
            refine wpC_gread (v := ?_) rfl hgo14.out rfl (fun W hW => ?_) ?_
            rotate_left
            · clear hW; go_simp; try (with_reducible rfl)
            try simp only [Act.put, List.setIfInBounds_toArray, List.set_cons_zero, List.set_cons_succ]
            refine wpC_gread (v := ?_) rfl hgo14.out rfl (fun W hW => ?_) ?_
            rotate_left
            · clear hW; go_simp; try (with_reducible rfl)
            try simp only [Act.put, List.setIfInBounds_toArray, List.set_cons_zero, List.set_cons_succ]
            refine wpC_gread (v := ?_) rfl hgo14.out rfl (fun W hW => ?_) ?_
            rotate_left
            · clear hW; go_simp; try (with_reducible rfl)
            try simp only [Act.put, List.setIfInBounds_toArray, List.set_cons_zero, List.set_cons_succ]
            refine wpC_gread (v := ?_) rfl hgo17.out rfl (fun W hW => ?_) ?_
            rotate_left
            · clear hW; go_simp; try (with_reducible rfl)
            try simp only [Act.put, List.setIfInBounds_toArray, List.set_cons_zero, List.set_cons_succ]
            refine wpC_gread (v := ?_) rfl hgo17.out rfl (fun W hW => ?_) ?_
            rotate_left
            · clear hW; go_simp; try (with_reducible rfl)
            try simp only [Act.put, List.setIfInBounds_toArray, List.set_cons_zero, List.set_cons_succ]
            refine wpC_gread (v := ?_) rfl hgo17.out rfl (fun W hW => ?_) ?_
            rotate_left
            · clear hW; go_simp; try (with_reducible rfl)
            try simp only [Act.put, List.setIfInBounds_toArray, List.set_cons_zero, List.set_cons_succ]
            refine wpC_gread (v := ?_) rfl hgo17.out rfl (fun W hW => ?_) ?_
            rotate_left
            · clear hW; go_simp; try (with_reducible rfl)
            try simp only [Act.put, List.setIfInBounds_toArray, List.set_cons_zero, List.set_cons_succ]
            refine wpC_gread (v := ?_) rfl hgo17.out rfl (fun W hW => ?_) ?_
            rotate_left
            · clear hW; go_simp; try (with_reducible rfl)
            try simp only [Act.put, List.setIfInBounds_toArray, List.set_cons_zero, List.set_cons_succ]
            refine wpC_gread (v := ?_) rfl hgo17.out rfl (fun W hW => ?_) ?_
            rotate_left
            · replace hW := HD.out W hW
              obtain ⟨q0, q1, q2, hcW⟩ := hW
              go_simp; try (with_reducible rfl)
            try simp only [Act.put, List.setIfInBounds_toArray, List.set_cons_zero, List.set_cons_succ]
            refine wpC_gread (v := ?_) rfl hgo17.out rfl (fun W hW => ?_) ?_
            rotate_left
            · clear hW; go_simp; try (with_reducible rfl)
            try simp only [Act.put, List.setIfInBounds_toArray, List.set_cons_zero, List.set_cons_succ]
            refine wpC_gread (v := ?_) rfl hgo17.out rfl (fun W hW => ?_) ?_
            rotate_left
            · replace hW := HD.out W hW
              obtain ⟨q0, q1, q2, hcW⟩ := hW
              go_simp; try (with_reducible rfl)
            try simp only [Act.put, List.setIfInBounds_toArray, List.set_cons_zero, List.set_cons_succ]
            refine wpC_gread (v := ?_) rfl hgo17.out rfl (fun W hW => ?_) ?_
            rotate_left
            · clear hW; go_simp; try (with_reducible rfl)
            try simp only [Act.put, List.setIfInBounds_toArray, List.set_cons_zero, List.set_cons_succ]
            refine wpC_gread (v := ?_) rfl hgo14.out rfl (fun W hW => ?_) ?_
            rotate_left
            · clear hW; go_simp; try (with_reducible rfl)
            try simp only [Act.put, List.setIfInBounds_toArray, List.set_cons_zero, List.set_cons_succ]
            refine wpC_read (v := ?_) rfl (fun W hW => ?_) ?_
            rotate_left
            · clear hW; go_simp; try (with_reducible rfl)
            try simp only [Act.put, List.setIfInBounds_toArray, List.set_cons_zero, List.set_cons_succ]
            refine wpQuiet_nil (HQQ.out _ (fun W hW => ?_))
            obtain ⟨q0, q1, q2, hcW⟩ := hW
            go_wp2_with fail
            go_ret
            exact ⟨by rw [HB.out]; rfl, hbW.trans (hcW.mono (by have := HSZ.out; omega))⟩
    · obtain rfl : k = n := by omega
      have HF : Hid (hadFrom none l = true) := by
        show _ = _
        rw [hok.out, List.drop_of_length_le (by rw [HN.out]; exact Nat.le_refl _)]
        cases prevH l k <;> rfl
      clear hok hr
      go_wp2_with fail
      go_ret
      exact ⟨by rw [HF.out]; rfl, hbw⟩
end Go.Proofs.YtjdebhemoeojiaaDoor
