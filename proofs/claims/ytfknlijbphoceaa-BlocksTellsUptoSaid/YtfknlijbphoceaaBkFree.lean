/-
  blocks.Free, by its contract.
-/
import Derived.Test.YtfknlijbphoceaaBkPut
import Derived.Test.YtfknlijbphoceaaBkDelete
namespace Go.Proofs.Ytfknlijbphoceaa
open Go.RowKit

def inB (i c : Int) (x : Int × List UInt8) : Bool := decide (i ≤ x.1) && decide (x.1 < i + c)
def freeE (l : BL) (i c : Int) : Int := if okL l = true then (if 0 ≤ i ∧ i < 1024 ∧ 1 ≤ c ∧ c ≤ 1024 - i then 0 else 4) else 9
def freeL (l : BL) (i c : Int) : BL := l.filter fun x => !inB i c x
def freeR (l : BL) (i c : Int) : BL := if freeE l i c = 0 then freeL l i c else []
def FreePost (w : World) (l : BL) (i c : Int) (e : Ending) (w' : World) : Prop :=
  ∃ v, e = .returned (.tuple #[v, .int .i64 (freeE l i c)]) ∧ w'.ownsRow w.heap.size 30 2 v (freeR l i c).length (bcells (freeR l i c)) ∧ Below w.heap.size w w'

set_option maxRecDepth 100000 in
theorem inB_any (x i c : Int) (s : ByteArray) (p0 p1 : Addr) (hi : 0 ≤ i ∧ i < 1024) (hc : 1 ≤ c ∧ c ≤ 1024) (w : World) (h0 : w.cell? p0 = some (.int .i64 i)) (h1 : w.cell? p1 = some (.int .i64 c)) :
    Calls Try.prog 35 #[.agg #[.int .i64 x, .string s], .pointer (some p0), .pointer (some p1)] w fun e w' => e = .returned (.bool (decide (i ≤ x) && decide (x < i + c))) ∧ Below w.heap.size w w' := by
  have hb0 := (Below.refl w.heap.size w).alloc (Nat.le_refl _) (.cells #[.int .i64 x, .string s] 30)
  have hcx := (Blk.new w 30 #[.int .i64 x, .string s]).cell 0
  have l0 := block_lt_of_cell h0
  have l1 := block_lt_of_cell h1
  have k0 := (World.cell?_alloc_lt w (.cells #[.int .i64 x, .string s] 30) p0 l0).trans h0
  have k1 := (World.cell?_alloc_lt w (.cells #[.int .i64 x, .string s] 30) p1 l1).trans h1
  by_cases hx : i ≤ x
  · go_enter Try.func35, Try.ntmps35
    go_wp2_with fail
    go_ret
    exact ⟨by simp [hx], hb0⟩
  · go_enter Try.func35, Try.ntmps35
    go_wp2_with fail
    go_ret
    exact ⟨by simp; intro h; omega, hb0⟩

set_option maxRecDepth 100000 in
set_option maxHeartbeats 2000000 in
theorem bkFree_any (l : BL) (n : Nat) (hnl : n = l.length) (A : Option Addr) (cp : Nat) (i c : Int) (w : World) (B : Nat) (hr : Reads w B 2 A n (bcells l)) (hB : B ≤ w.heap.size) (hn : n ≤ 5000000000000) :
    Calls Try.prog 16 #[.slice A n cp, .int .i64 i, .int .i64 c] w (FreePost w l i c) := by
  obtain ⟨W1, hW1⟩ : ∃ W1, W1 = (w.alloc (.cells #[.int .i64 i] 3)).alloc (.cells #[.int .i64 c] 3) := ⟨_, rfl⟩
  have hb0 : Below w.heap.size w W1 := by rw [hW1]; exact ((Below.refl _ w).alloc (Nat.le_refl _) _).alloc (by simp) _
  have hs0 : W1.heap.size = w.heap.size + 2 := by rw [hW1]; simp
  have hbi : Blk W1 w.heap.size 3 #[.int .i64 i] := by rw [hW1]; exact (Blk.new w _ _).alloc _
  have hbc : Blk W1 (w.heap.size + 1) 3 #[.int .i64 c] := by
    rw [hW1]
    have := Blk.new (w.alloc (.cells #[.int .i64 i] 3)) 3 #[.int .i64 c]
    simpa using this
  have hck := checkBk_any l n hnl A cp W1 B (hr.below (hb0.mono hB)) (by have := hb0.size; omega) (by omega)
  by_cases hok : okL l = true
  · have h1 : okE l = 0 := by unfold okE; rw [if_pos hok]
    rw [h1] at hck
    by_cases hi : 0 ≤ i ∧ i < 1024 ∧ 1 ≤ c ∧ c ≤ 1024 - i
    · have hfe : freeE l i c = 0 := by unfold freeE; rw [if_pos hok, if_pos hi]
      have hfr : freeR l i c = freeL l i c := by unfold freeR; rw [if_pos hfe]
      have hcl := fun w' (hb : Below w.heap.size w w') => cloneB_any (bcells l) n A cp w' B (hr.below (hb.mono hB)) (by have := hb.size; omega) (bcells_one l) hn
      obtain ⟨i1, i2, i3, i4⟩ := hi
      have HFE := Lib.hid hfe
      have HFR := Lib.hid hfr
      have HN := Lib.hid hnl
      have HB0 := Lib.hid hb0
      have HBI := Lib.hid hbi
      have HBC := Lib.hid hbc
      have HS0 := Lib.hid hs0
      have HW1 := Lib.hid hW1.symm
      clear hfe hfr h1 hok hnl hr hb0 hbi hbc hs0
      have g0 : W1.cell? ⟨w.heap.size, 0, none⟩ = some (.int .i64 i) := HBI.out.cell 0
      have g1 : W1.cell? ⟨w.heap.size + 1, 0, none⟩ = some (.int .i64 c) := HBC.out.cell 0
      clear hW1
      go_enter Try.func16, Try.ntmps16
      go_wp2_with fail
      rw [HW1.out]
      refine hck.mono ?_
      clear hck
      rintro e w1 ⟨rfl, hb1⟩
      have hbw1 := HB0.out.trans (hb1.mono HB0.out.size)
      have q0 : w1.cell? ⟨w.heap.size, 0, none⟩ = some (.int .i64 i) := (hb1.cell (by have := HS0.out; show w.heap.size < _; omega)).trans g0
      have q1 : w1.cell? ⟨w.heap.size + 1, 0, none⟩ = some (.int .i64 c) := (hb1.cell (by have := HS0.out; show w.heap.size + 1 < _; omega)).trans g1
      have hcl1 := hcl w1 hbw1
      have hsz1 : w.heap.size + 2 ≤ w1.heap.size := by have := hb1.size; have := HS0.out; omega
      clear hcl g0 g1 hb1
      go_wp2_with fail
      refine hcl1.mono ?_
      clear hcl1
      rintro e w2 ⟨v2, rfl, hown2, hb2⟩
      obtain ⟨A2, c2, rfl, _, _, _⟩ := own_form hown2
      have r0 : w2.cell? ⟨w.heap.size, 0, none⟩ = some (.int .i64 i) := (hb2.cell (by show w.heap.size < _; omega)).trans q0
      have r1 : w2.cell? ⟨w.heap.size + 1, 0, none⟩ = some (.int .i64 c) := (hb2.cell (by show w.heap.size + 1 < _; omega)).trans q1
      have hbw2 := hbw1.trans (hb2.mono hbw1.size)
      have hnb : ∀ k, (Value.slice A2 n c2).ownBlock = some k → w.heap.size + 2 ≤ k := fun k hk => by have := (hown2.lt k hk).1; omega
      have hdel := delBk_any (inB i c) l n HN.out A2 c2 w1.heap.size ⟨w.heap.size, 0, none⟩ ⟨w.heap.size + 1, 0, none⟩
        (fun W => W.cell? ⟨w.heap.size, 0, none⟩ = some (.int .i64 i) ∧ W.cell? ⟨w.heap.size + 1, 0, none⟩ = some (.int .i64 c)) w2 hown2 hn
        ⟨fun x W hk => inB_any x.1 i c _ _ _ ⟨i1, i2⟩ ⟨i3, by omega⟩ W hk.1 hk.2, fun W W' hk hb => ⟨(hb.cell (block_lt_of_cell hk.1)).trans hk.1, (hb.cell (block_lt_of_cell hk.2)).trans hk.2⟩⟩
        (fun W W' hk hg => ⟨hg.cell hk.1 (fun e => by have h : w.heap.size + 2 ≤ w.heap.size := hnb _ e.symm; omega), hg.cell hk.2 (fun e => by have h : w.heap.size + 2 ≤ w.heap.size + 1 := hnb _ e.symm; omega)⟩) ⟨r0, r1⟩
      have HNB := Lib.hid hnb
      have HBW := Lib.hid hbw2
      clear q0 q1 r0 r1 hown2 hb2 hbw1 hnb hbw2
      go_wp2_with fail
      refine hdel.mono ?_
      clear hdel
      rintro e w3 ⟨v3, rfl, hown3, hgr3⟩
      have HO := Lib.hid hown3
      have HG := Lib.hid hgr3
      clear hown3 hgr3
      go_wp2_with fail
      go_ret2
      refine ⟨v3, by rw [HFE.out]; rfl, ?_, HBW.out.grown HG.out HBW.out.size (fun k hk => by have := HNB.out k hk; omega)⟩
      rw [HFR.out]
      exact own_mono HO.out (by omega)
    · have hfe : freeE l i c = 4 := by unfold freeE; rw [if_pos hok, if_neg hi]
      have hfr : freeR l i c = [] := by unfold freeR; rw [if_neg (by omega)]
      have HFE := Lib.hid hfe
      have HFR := Lib.hid hfr
      have HB0 := Lib.hid hb0
      have HW1 := Lib.hid hW1.symm
      have hs1 : w.heap.size + 1 < W1.heap.size := by omega
      have g0 : W1.cell? ⟨w.heap.size, 0, none⟩ = some (.int .i64 i) := hbi.cell 0
      have g1 : W1.cell? ⟨w.heap.size + 1, 0, none⟩ = some (.int .i64 c) := hbc.cell 0
      clear hfe hfr h1 hok hnl hr hb0 hbi hbc hs0 hW1
      have hw : 0 ≤ i → i < 1024 → IntKind.i64.wrap (1024 - i) = 1024 - i := fun _ _ => IntWalk.i64_in _ (by omega)
      by_cases ha : i < 0
      · clear hi hw
        go_enter Try.func16, Try.ntmps16
        go_wp2_with fail
        rw [HW1.out]
        refine hck.mono ?_
        clear hck
        rintro e w1 ⟨rfl, hb1⟩
        have q0 := (hb1.cell (p := ⟨w.heap.size, 0, none⟩) (by show w.heap.size < _; omega)).trans g0
        have q1 := (hb1.cell (p := ⟨w.heap.size + 1, 0, none⟩) hs1).trans g1
        go_wp2_with fail
        go_ret2
        refine ⟨.slice none 0 0, by rw [HFE.out]; rfl, ?_, HB0.out.trans (hb1.mono HB0.out.size)⟩
        rw [HFR.out]
        exact World.ownsRow_nil _ _ _ _
      by_cases hb : 1024 ≤ i
      · have ha' : 0 ≤ i := by omega
        clear hi hw ha
        go_enter Try.func16, Try.ntmps16
        go_wp2_with fail
        rw [HW1.out]
        refine hck.mono ?_
        clear hck
        rintro e w1 ⟨rfl, hb1⟩
        have q0 := (hb1.cell (p := ⟨w.heap.size, 0, none⟩) (by show w.heap.size < _; omega)).trans g0
        have q1 := (hb1.cell (p := ⟨w.heap.size + 1, 0, none⟩) hs1).trans g1
        go_wp2_with fail
        go_ret2
        refine ⟨.slice none 0 0, by rw [HFE.out]; rfl, ?_, HB0.out.trans (hb1.mono HB0.out.size)⟩
        rw [HFR.out]
        exact World.ownsRow_nil _ _ _ _
      have ha' : 0 ≤ i := by omega
      have hb' : i < 1024 := by omega
      by_cases hc : c < 1
      · clear hi hw ha hb
        go_enter Try.func16, Try.ntmps16
        go_wp2_with fail
        rw [HW1.out]
        refine hck.mono ?_
        clear hck
        rintro e w1 ⟨rfl, hb1⟩
        have q0 := (hb1.cell (p := ⟨w.heap.size, 0, none⟩) (by show w.heap.size < _; omega)).trans g0
        have q1 := (hb1.cell (p := ⟨w.heap.size + 1, 0, none⟩) hs1).trans g1
        go_wp2_with fail
        go_ret2
        refine ⟨.slice none 0 0, by rw [HFE.out]; rfl, ?_, HB0.out.trans (hb1.mono HB0.out.size)⟩
        rw [HFR.out]
        exact World.ownsRow_nil _ _ _ _
      · have hc' : 1 ≤ c := by omega
        have hd : 1024 - i < c := by omega
        have hw := hw ha' hb'
        clear hi ha hb hc
        go_enter Try.func16, Try.ntmps16
        go_wp2_with fail
        rw [HW1.out]
        refine hck.mono ?_
        clear hck
        rintro e w1 ⟨rfl, hb1⟩
        have q0 := (hb1.cell (p := ⟨w.heap.size, 0, none⟩) (by show w.heap.size < _; omega)).trans g0
        have q1 := (hb1.cell (p := ⟨w.heap.size + 1, 0, none⟩) hs1).trans g1
        go_wp2_with fail
        go_ret2
        refine ⟨.slice none 0 0, by rw [HFE.out]; rfl, ?_, HB0.out.trans (hb1.mono HB0.out.size)⟩
        rw [HFR.out]
        exact World.ownsRow_nil _ _ _ _
  · have h1 : okE l = 9 := by unfold okE; rw [if_neg hok]
    rw [h1] at hck
    have hfe : freeE l i c = 9 := by unfold freeE; rw [if_neg hok]
    have hfr : freeR l i c = [] := by unfold freeR; rw [if_neg (by omega)]
    have HFE := Lib.hid hfe
    have HFR := Lib.hid hfr
    have HB0 := Lib.hid hb0
    have HW1 := Lib.hid hW1.symm
    clear hfe hfr h1 hok hnl hr hb0 hbi hbc hs0 hW1
    go_enter Try.func16, Try.ntmps16
    go_wp2_with fail
    rw [HW1.out]
    refine hck.mono ?_
    clear hck
    rintro e w1 ⟨rfl, hb1⟩
    go_wp2_with fail
    go_ret2
    refine ⟨.slice none 0 0, by rw [HFE.out]; rfl, ?_, HB0.out.trans (hb1.mono HB0.out.size)⟩
    rw [HFR.out]
    exact World.ownsRow_nil _ _ _ _
end Go.Proofs.Ytfknlijbphoceaa
