/-
  session.Check, by its contract.
-/
import Derived.Test.YtjdebhemoeojiaaDoorSeOne
namespace Go.Proofs.YtjdebhemoeojiaaDoor
open Go.RowKit

set_option maxRecDepth 100000 in
set_option maxHeartbeats 2000000 in
theorem check_any (t : TabR) (w : World) (B : Nat) (hr : t.rd w B) (hB : B ≤ w.heap.size) (hz : t.sz) (hmx : HasMax w) :
    Calls Tryd.prog 29 #[t.val] w fun e w' => e = .returned (.int .i64 (tabE t.con)) ∧ Below w.heap.size w w' := by
  have hOn := fun k hk W (hb : Below w.heap.size w W) => one_any t k hk W B (hr.below (hb.mono hB)) (Nat.le_trans hB hb.size) hz (hmx.below hb)
  obtain ⟨V, hV⟩ : ∃ V, V = tabE t.con := ⟨_, rfl⟩
  rw [← hV]
  obtain ⟨T, hT0⟩ : ∃ T, T = t.con := ⟨_, rfl⟩
  have hTo : T.opn = t.opn.l.map SesR.con := by rw [hT0]; rfl
  have hTh : T.had = t.had.l := by rw [hT0]; rfl
  rw [← hT0] at hOn hV
  clear hT0
  obtain ⟨⟨oA, on, oc, ol⟩, ⟨dA, dn, dc, dl⟩⟩ := t
  have HN := Lib.hid (show on = ol.length from hr.opn.1)
  have hsz : on ≤ 1000000000 := hz.opn
  have hCn := fun W (hb : Below w.heap.size w W) => counted_any dl dn hr.had.1 dA dc W B (hr.had.2.2.below (hb.mono hB)) (Nat.le_trans hB hb.size) hz.had
  show Calls Tryd.prog 29 #[.agg #[.slice oA on oc, .slice dA dn dc]] w _
  have hb1 := (Below.refl w.heap.size w).alloc (Nat.le_refl _) (.cells #[.slice oA on oc, .slice dA dn dc] 25)
  have kT := Blk.new w 25 #[.slice oA on oc, .slice dA dn dc]
  obtain ⟨W1, hW1⟩ : ∃ W, W = w.alloc (.cells #[.slice oA on oc, .slice dA dn dc] 25) := ⟨_, rfl⟩
  have hsz1 : W1.heap.size = w.heap.size + 1 := by rw [hW1]; simp
  rw [← hW1] at hb1 kT
  have hT := Lib.hid (fun (W' : World) (hB' : Below W1.heap.size W1 W') => (⟨(kT.below hB' (by omega)).cell 0, (kT.below hB' (by omega)).cell 1⟩ : W'.cell? ⟨w.heap.size, 0, none⟩ = some (.slice oA on oc) ∧ W'.cell? ⟨w.heap.size, 1, none⟩ = some (.slice dA dn dc)))
  have hup : ∀ W, Below W1.heap.size W1 W → Below w.heap.size w W := fun W h => hb1.trans (h.mono (by omega))
  have hCn : Hid (∀ W, Below W1.heap.size W1 W → Calls Tryd.prog 60 #[.slice dA dn dc] W fun e W' => e = .returned (.bool (hadFrom none T.had)) ∧ Below W.heap.size W W') := fun W h => by rw [hTh]; exact hCn W (hup W h)
  have hOn : Hid (∀ k (hk : k < ol.length) W, Below W1.heap.size W1 W → Calls Tryd.prog 61 #[.agg #[.slice oA on oc, .slice dA dn dc], .int .i64 (k : Int)] W fun e W' => e = .returned (.bool (oneB T (prevS T.opn k) (ol[k]'hk).con)) ∧ Below W.heap.size W W') := fun k hk W h => hOn k hk W (hup W h)
  have HUP := Lib.hid hup
  have HTO := Lib.hid hTo
  obtain ⟨bC, hbC⟩ : ∃ b, b = hadFrom none T.had := ⟨_, rfl⟩
  rw [← hbC] at hCn
  have HV : Hid (V = if (bC && opnFrom T none T.opn) = true then 0 else 9) := by show _ = _; rw [hV, hbC]; rfl
  obtain ⟨c0, c1⟩ := hT.out _ (Below.refl _ _)
  have hc := hCn.out _ (Below.refl _ _)
  clear hb1 kT hr hz hsz1 hV hTo hTh hup hbC hmx hCn
  rw [hW1] at c0 c1
  go_enter Tryd.func29, Tryd.ntmps29
  go_wp2_with fail
  rw [← hW1]
  refine hc.mono ?_
  clear hc c0 c1 hW1
  rintro e w2 ⟨rfl, hb2⟩
  have HB2 := Lib.hid hb2
  obtain ⟨c0, c1⟩ := hT.out _ hb2
  clear hb2
  cases bC with
  | false =>
    go_wp2_with fail
    go_ret
    exact ⟨by rw [HV.out]; rfl, HUP.out _ HB2.out⟩
  | true =>
    have HV : Hid (V = if opnFrom T none T.opn = true then 0 else 9) := HV.out
    go_wp2_with fail
    clear c0 c1
    go_loopw [11] (fun i wr => ∃ k : Nat, k ≤ on ∧ i = .int .i64 (k : Int) ∧ Hid (opnFrom T none T.opn = opnFrom T (prevS T.opn k) (T.opn.drop k)) ∧ Below W1.heap.size W1 wr) (fun i _ => on - (intOf i).toNat)
    case atStart => exact ⟨0, Nat.zero_le _, rfl, rfl, HB2.out⟩
    case round =>
      obtain ⟨k, hk, rfl, hno, hbw⟩ := hrel
      by_cases hlt : k < on
      · have hki : (k : Int) < (on : Int) := by omega
        have hkl : k < ol.length := by have := HN.out; omega
        have hc := hOn.out k hkl wr hbw
        have hkT : k < T.opn.length := by rw [HTO.out, List.length_map]; exact hkl
        have hx : (ol[k]'hkl).con = T.opn[k]'hkT := by simp only [HTO.out, List.getElem_map]
        rw [hx] at hc
        have HDR := Lib.hid (List.drop_eq_getElem_cons hkT)
        obtain ⟨b, hb⟩ : ∃ b, b = oneB T (prevS T.opn k) (T.opn[k]'hkT) := ⟨_, rfl⟩
        rw [← hb] at hc
        have HOK : Hid (opnFrom T none T.opn = (b && opnFrom T (prevS T.opn (k + 1)) (T.opn.drop (k + 1)))) := by
          show _ = _
          rw [hno.out, HDR.out, opnFrom_cons, ← hb, show prevS T.opn (k + 1) = some (T.opn[k]'hkT) from List.getElem?_eq_getElem hkT]
        obtain ⟨c0, c1⟩ := hT.out _ hbw
        have HBW := Lib.hid hbw
        clear hx hb hno hbw
        go_wp2_with fail
        refine hc.mono ?_
        clear hc c0 c1
        rintro e w3 ⟨rfl, hb3⟩
        have HB3 := Lib.hid (HBW.out.trans (hb3.mono HBW.out.size))
        clear hb3
        cases b with
        | false =>
          go_wp2_with fail
          go_ret
          exact ⟨by rw [HV.out, HOK.out]; rfl, HUP.out _ HB3.out⟩
        | true =>
          go_wp2_with fail
          go_roundw
          case rel => exact ⟨k + 1, by omega, by go_num, HOK.out, HB3.out⟩
          case measure => simp [intOf]; omega
      · have hke : k = on := by omega
        have HF : Hid (opnFrom T none T.opn = true) := by
          show _ = _
          rw [hno.out, List.drop_eq_nil_of_le (by rw [HTO.out, List.length_map]; have := HN.out; omega)]
          cases prevS T.opn k <;> rfl
        have hnl : ¬ (k : Int) < (on : Int) := by omega
        have HBW := Lib.hid hbw
        clear hno hbw
        go_wp2_with fail
        go_ret
        exact ⟨by rw [HV.out, HF.out]; rfl, HUP.out _ HBW.out⟩
end Go.Proofs.YtjdebhemoeojiaaDoor
