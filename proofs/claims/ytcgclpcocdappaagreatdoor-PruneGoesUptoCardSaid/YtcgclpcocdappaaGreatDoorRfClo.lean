/-
  The page's Clones, by its contract.
-/
import Derived.Test.YtcgclpcocdappaaGreatDoorPrnBaseGz
namespace Go.Proofs.YtcgclpcocdappaaGreatDoor
open Go.RowKit

theorem wanted_of {ops : Array Oper} {o : Oper} {A : Act} {g k : Nat} {b : Bool} (hg : o.guard = some (g, b)) (hd : (ops[g]?).bind (·.dst) = some k) (h : A.tmps[k]?.getD undef = .bool b) : Region.wanted o (yielded ops A.tmps) = true := by
  have h1 : A.tmps[k]? = some (.bool b) := by
    cases hk : A.tmps[k]? with
    | none => rw [hk] at h; cases h
    | some x => rw [hk] at h; exact congrArg some h
  simp [Region.wanted, hg, yielded, hd, h1]
theorem unwanted_of {ops : Array Oper} {o : Oper} {A : Act} {g k : Nat} {b : Bool} (hg : o.guard = some (g, b)) (hd : (ops[g]?).bind (·.dst) = some k) (h : A.tmps[k]?.getD undef = .bool (!b) ∨ A.tmps[k]?.getD undef = undef) : ¬ Region.wanted o (yielded ops A.tmps) = true := by
  have hy : ∀ v, A.tmps[k]?.getD undef = v → yielded ops A.tmps g = match v with | .bool b => some b | _ => none := by
    rintro v rfl
    unfold yielded
    rw [hd]
    simp only [Option.bind_some]
    cases A.tmps[k]? with
    | none => rfl
    | some v => cases v <;> rfl
  rcases h with h | h
  · simp [Region.wanted, hg, hy _ h]
  · have := hy _ h
    simp [Region.wanted, hg, this, undef]
theorem Tryz.rfcStr_info : (Tryz.prog.info? 9).map (fun i => (i.zero, i.size, i.bytes)) = some (some (.string ByteArray.empty), 1, 16) := by kernel_rfl
set_option maxRecDepth 100000 in
set_option maxHeartbeats 8000000 in
theorem rclones_any (v0 v1 v2 v4 v5 v6 : Value) (l : List SetR) (n : Nat) (hnl : n = l.length) (A : Option Addr) (c : Nat) (p nq : BS) (w : World) (B : Nat) (hr : Reads w B 5 A n (cellsK encSet l)) (hB : B ≤ w.heap.size) (hn : n ≤ 1000000000000) (hv : ∀ y ∈ l, y.org.length ≤ 4000000000) :
    Calls Tryz.prog 69 #[.agg #[v0, v1, v2, .slice A n c, v4, v5, v6], .string ⟨p.toArray⟩, .string ⟨nq.toArray⟩] w fun e w' => (∃ A1 c1, e = .returned (.slice A1 (clonesL l p nq).length c1)) ∧ Below w.heap.size w w' := by
  obtain ⟨i0, hi0, hz0, hz1, hz2⟩ := info_parts Tryz.rfcStr_info
  have HN := Lib.hid hnl
  have hb1 := (Below.refl w.heap.size w).alloc (Nat.le_refl _) (.cells #[v0, v1, v2, .slice A n c, v4, v5, v6] 27)
  have kT := Blk.new w 27 #[v0, v1, v2, .slice A n c, v4, v5, v6]
  obtain ⟨W1, hW1⟩ : ∃ W, W = w.alloc (.cells #[v0, v1, v2, .slice A n c, v4, v5, v6] 27) := ⟨_, rfl⟩
  have hsz1 : W1.heap.size = w.heap.size + 1 := by rw [hW1]; simp
  rw [← hW1] at hb1 kT
  have hT : Hid (∀ W', Below W1.heap.size W1 W' → W'.cell? ⟨w.heap.size, 3, none⟩ = some (.slice A n c)) := fun W' hB' => (kT.below hB' (by omega)).cell 3
  have hR : Hid (∀ W', Below W1.heap.size W1 W' → Reads W' B 5 A n (cellsK encSet l)) := fun W' hB' => hr.below ((hb1.trans (hB'.mono (by omega))).mono hB)
  have HB1 := Lib.hid hb1
  have HSZ1 := Lib.hid hsz1
  have HVS := Lib.hid hv
  clear hnl hr kT hsz1 hv hb1
  go_enter Tryz.func69, Tryz.ntmps69
  go_wp2_with fail
  rw [← hW1]
  clear hW1
  go_loopw [7, 8] (fun a j wr => ∃ (k m : Nat) (A1 : Option Addr) (c1 : Nat), k ≤ n ∧ m ≤ k ∧ a = .slice A1 m c1 ∧ j = .int .i64 (k : Int) ∧ Hid (m = (clonesL (l.take k) p nq).length) ∧ wr.ownsRow W1.heap.size 9 1 (.slice A1 m c1) m (scells (clonesL (l.take k) p nq)) ∧ Below W1.heap.size W1 wr) (fun _ j _ => n - (intOf j).toNat)
  case atStart => exact ⟨0, 0, none, 0, Nat.zero_le _, Nat.zero_le _, rfl, rfl, rfl, ⟨rfl, .inl ⟨rfl, rfl⟩⟩, Below.refl _ _⟩
  case round =>
    obtain ⟨k, m, A1, c1, hk, hmk, rfl, rfl, hml, hown, hbw⟩ := hrel
    have t3 := hT.out wr hbw
    by_cases hlt : k < n
    · have hki : (k : Int) < (n : Int) := by omega
      have hk0 : (0 : Int) ≤ (k : Int) := by omega
      have hkl : k < l.length := by have := HN.out; omega
      have htk := List.take_succ_eq_append_getElem hkl
      have hxl := HVS.out _ (List.getElem_mem hkl)
      have hat := fun W h => set_at (hR.out W h) HN.out hlt
      obtain ⟨x, hx⟩ : ∃ x, x = l[k]'hkl := ⟨_, rfl⟩
      simp only [← hx] at hat
      rw [← hx] at htk hxl
      have HNT : Hid (clonesL (l.take (k + 1)) p nq = clonesL (l.take k) p nq ++ (if clP p nq x.org = true then [x.path] else [])) := by
        show _ = _
        rw [htk, clonesL_snoc]
      obtain ⟨xp, xo, ⟨bA, bn, bc, bl⟩, ⟨zA, zn, zc, zl⟩, ⟨oA, on, oc, ol⟩⟩ := x
      simp only at hat HNT hxl
      have HAT := Lib.hid hat
      obtain ⟨ad, hA, -, e0, e1, -, -, -⟩ := hat wr hbw
      subst hA
      have hpn := refSplit_any ⟨xo.toArray⟩ wr (by show xo.length ≤ _; exact hxl)
      rw [show (ByteArray.mk xo.toArray).data.toList = xo from rfl] at hpn
      have HBW := Lib.hid hbw
      have HOW := Lib.hid hown
      clear hx hat htk hbw hown e0
      go_wp2_with fail
      refine hpn.mono ?_
      clear hpn e1 t3
      rintro e w4 ⟨rfl, hb4⟩
      have ho4 := own_below HOW.out hb4
      have hbf := HBW.out.trans (hb4.mono HBW.out.size)
      have hbase := hbf.size
      have t3 := hT.out w4 hbf
      obtain ⟨ad2, hA2, -, e0, -, -, -, -⟩ := HAT.out w4 hbf
      injection hA2 with hA2
      subst hA2
      clear hb4
      rcases splitV_cases xo with ⟨hs1, hs2⟩ | ⟨sa, sb, hs1, hs2, -, -⟩
      · rw [hs2]
        have HS1 := Lib.hid hs1
        clear hs1 hs2
        have HNT2 : Hid (clonesL (l.take (k + 1)) p nq = clonesL (l.take k) p nq) := by
          show _ = _
          rw [HNT.out, if_neg (by unfold clP; rw [HS1.out]; simp)]
          simp
        clear HNT
        go_wp2_with fail
        go_roundw
        case rel => exact ⟨k + 1, m, A1, c1, by omega, by omega, rfl, by go_num, by rw [HNT2.out]; exact hml.out, by rw [HNT2.out]; exact ho4, hbf⟩
        case measure => simp [intOf]; omega
      · rw [hs2]
        have HCL : Hid (clP p nq xo = (sa == p && (nq == [] || sb == nq))) := by show _ = _; unfold clP; rw [hs1]
        clear hs1 hs2
        by_cases hap : sa = p
        · have hap1 : (sa == p) = true := by simpa using hap
          by_cases hq : nq = []
          · subst hq
            have HNT2 : Hid (clonesL (l.take (k + 1)) p [] = clonesL (l.take k) p [] ++ [xp]) := by
              show _ = _
              rw [HNT.out, if_pos (by rw [HCL.out, hap1]; rfl)]
            clear HNT
            go_wp2_with (at_builtin; (refine wpList_push w4 rfl (.tmp 46) (.tmp 53) 48 rfl W1.heap.size 9 i0 (.string ByteArray.empty) 1 16 Tryz.underlying48 hi0 hz0 hz1 hz2 rfl (by omega) (.slice A1 m c1) m _ rfl ho4 1 #[.string ⟨xp.toArray⟩] 9 rfl rfl (by simp [Value.oneCell']) (by unfold maxLen; omega) (by omega) hbase ?_); intro v' w' ho' hb' hg')
            obtain ⟨A2, c2, rfl, _, _, _⟩ := own_form ho'
            go_wp2_with fail
            go_roundw
            case rel => exact ⟨k + 1, m + 1, A2, c2, by omega, by omega, rfl, by go_num, by show _ = _; rw [HNT2.out, List.length_append, ← hml.out]; rfl, by rw [HNT2.out, scells_append]; exact ho', hbf.trans hb'⟩
            case measure => simp [intOf]; omega
          · have hq1 : (nq == []) = false := by simpa using hq
            have hq2 : (nq.toArray == #[]) = false := by simpa using hq
            by_cases hb : sb = nq
            · subst hb
              have hq3 : (sb == sb) = true := by simp
              have HNT2 : Hid (clonesL (l.take (k + 1)) p sb = clonesL (l.take k) p sb ++ [xp]) := by
                show _ = _
                rw [HNT.out, if_pos (by rw [HCL.out, hap1, hq3]; simp)]
              clear HNT
              go_wp2_with (at_builtin; (refine wpList_push w4 rfl (.tmp 46) (.tmp 53) 48 rfl W1.heap.size 9 i0 (.string ByteArray.empty) 1 16 Tryz.underlying48 hi0 hz0 hz1 hz2 rfl (by omega) (.slice A1 m c1) m _ rfl ho4 1 #[.string ⟨xp.toArray⟩] 9 rfl rfl (by simp [Value.oneCell']) (by unfold maxLen; omega) (by omega) hbase ?_); intro v' w' ho' hb' hg')
              obtain ⟨A2, c2, rfl, _, _, _⟩ := own_form ho'
              go_wp2_with fail
              go_roundw
              case rel => exact ⟨k + 1, m + 1, A2, c2, by omega, by omega, rfl, by go_num, by show _ = _; rw [HNT2.out, List.length_append, ← hml.out]; rfl, by rw [HNT2.out, scells_append]; exact ho', hbf.trans hb'⟩
              case measure => simp [intOf]; omega
            · have hb1 : (sb == nq) = false := by simpa using hb
              have hb2 : ¬ nq = sb := fun e => hb e.symm
              have hb3 : (nq == sb) = false := by simpa using hb2
              have HNT2 : Hid (clonesL (l.take (k + 1)) p nq = clonesL (l.take k) p nq) := by
                show _ = _
                rw [HNT.out, if_neg (by rw [HCL.out, hap1, hq1, hb1]; simp)]
                simp
              clear HNT
              go_wp2_with fail
              go_roundw
              case rel => exact ⟨k + 1, m, A1, c1, by omega, by omega, rfl, by go_num, by rw [HNT2.out]; exact hml.out, by rw [HNT2.out]; exact ho4, hbf⟩
              case measure => simp [intOf]; omega
        · have hap1 : (sa == p) = false := by simpa using hap
          have HNT2 : Hid (clonesL (l.take (k + 1)) p nq = clonesL (l.take k) p nq) := by
            show _ = _
            rw [HNT.out, if_neg (by rw [HCL.out, hap1]; simp)]
            simp
          clear HNT
          go_wp2_with fail
          go_roundw
          case rel => exact ⟨k + 1, m, A1, c1, by omega, by omega, rfl, by go_num, by rw [HNT2.out]; exact hml.out, by rw [HNT2.out]; exact ho4, hbf⟩
          case measure => simp [intOf]; omega
    · have hkn : k = n := by omega
      have HML : Hid (m = (clonesL l p nq).length) := by
        show _ = _
        rw [hml.out, List.take_of_length_le (by rw [hkn, HN.out]; exact Nat.le_refl _)]
      have hbf := HB1.out.trans (hbw.mono HB1.out.size)
      subst hkn
      clear hown hbw
      go_wp2_with fail
      go_ret
      exact ⟨⟨A1, c1, by rw [← HML.out]; rfl⟩, hbf⟩
end Go.Proofs.YtcgclpcocdappaaGreatDoor
