/-
  The page's Write, by its contract. (mkrf1.py)
-/
import Derived.Test.YthfjfkjlgdnohaaRf1y
import Derived.Test.YthfjfkjlgdnohaaZ13
import Derived.Lib.AppendStr
import Derived.Deep.RegionLaw
namespace Go.Proofs.Ythfjfkjlgdnohaa
open Go.RowKit

section
variable {P : Program}
theorem step_append_string {ops : Array Oper} {o : Oper} {a : Act} {w : World} {K : Act → World → Prop} {Q : Exit → Act → World → Prop} {E : Prop} (hgd : o.guard = none) (sl x : Operand) (t u : TypeId)
    (ho : o.op = .call { callee := .builtin .append, args := #[sl, x], argTypes := #[t, u] })
    (base : Nat) (e : TypeId) (i : TypeInfo) (ht : P.underlying t = some (.slice e)) (hu : P.underlying u = some .string) (hi : P.info? e = some i) (hz : i.zero = some (.int .u8 0))
    (hsize : i.size = 1) (hby : i.bytes = 1)
    (v : Value) (n : Nat) (xs : List Value) (hs : a.eval sl = v) (hown : w.ownsRow base e 1 v n xs) (s : ByteArray) (hx : a.eval x = .string s)
    (h63 : n + s.size ≤ maxLen) (hbytes : n + s.size ≤ 140737488355328) (hbase : base ≤ w.heap.size)
    (h : ∀ v' w', w'.ownsRow base e 1 v' (n + s.size) (xs ++ Lib.strCells s) → w.grownBy w' v.ownBlock → K (a.put o.dst v') w') :
    if Region.wanted o (yielded ops a.tmps) = true then Oper.wp P o a w K Q else E := by
  have hw : Region.wanted o (yielded ops a.tmps) = true := by simp [Region.wanted, hgd]
  rw [if_pos hw]
  obtain ⟨v', w', hr, h2, h3, h4⟩ := Lib.run_append_own_string (P := P) w base t u o.type e i ht hu hi hz hsize hby v n xs hown s h63 hbytes hbase
  unfold Oper.wp execOp
  simp only [ho, resolve, invoke, builtin, Sem.run_bind, Sem.run_pure, Result.andThen_ok, List.map_toArray, List.map_cons, List.map_nil, hs, hx, hr]
  exact h v' w' h2 h3
end
theorem below_d (W : World) : Below W.heap.size W W.drew := (Below.refl _ W).drew
set_option maxRecDepth 100000 in
set_option maxHeartbeats 2000000 in
theorem pwrite_any (l : List BS) (hl : ∀ s ∈ l, s.length ≤ 1000) (n : Nat) (hnl : n = l.length) (A : Option Addr) (c : Nat) (w : World) (B : Nat) (hr : Reads w B 1 A n (scells l)) (hB : B ≤ w.heap.size) (hn : n ≤ 100) :
    Calls Try.prog 57 #[.slice A n c] w fun e w' => ∃ v, e = .returned (.tuple #[v, .int .i64 0]) ∧ w'.ownsRow w.heap.size 5 1 v (fwrite l).length (bts (fwrite l)) ∧ Below w.heap.size w w' := by
  obtain ⟨i0, hi0, hz0, hz1, hz2⟩ := info_parts Try.infoU8c
  have HN := Lib.hid hnl
  have HL := Lib.hid hl
  have HW : Hid (fwrite l = putL (n : Int) 2 ++ l.flatMap fone) := by show _ = _; rw [hnl]; rfl
  have hn1 : ¬ (1024 : Int) < (n : Int) := by omega
  clear hnl hl
  go_enter Try.func57, Try.ntmps57
  go_wp2_with fail
  go_loopw [4] (fun i wr => ∃ k : Nat, k ≤ n ∧ i = .int .i64 (k : Int) ∧ wr = w) (fun i _ => n - (intOf i).toNat)
  case atStart => exact ⟨0, Nat.zero_le _, rfl, rfl⟩
  case round =>
    obtain ⟨k, hk, rfl, hw⟩ := hrel
    rw [hw]
    clear hw wr
    by_cases hlt : k < n
    · have hki : (k : Int) < (n : Int) := by omega
      have hkl : k < l.length := by have := HN.out; omega
      obtain ⟨ad, rfl, hadB, hcell⟩ := strs_at hr HN.out hlt
      obtain ⟨x, hx⟩ : ∃ x, x = l[k]'hkl := ⟨_, rfl⟩
      rw [← hx] at hcell
      have hxl := HL.out x (by rw [hx]; exact List.getElem_mem _)
      simp only [strV] at hcell
      have hx6 : ¬ (65536 : Int) < (x.length : Int) := by omega
      have hx8 : ¬ 65536 < x.length := by omega
      clear hx hr
      go_wp2_with fail
      go_roundw
      case rel => exact ⟨k + 1, by omega, by go_num, by trivial⟩
      case measure => simp [intOf]; omega
    · have hkn : ¬ (k : Int) < (n : Int) := by omega
      clear hk hlt
      go_wp2_with fail
      refine (pput2_any (n : Int) w).mono ?_
      rintro e w1 ⟨v1, rfl, hown1, hb1⟩
      have HO1 := Lib.hid hown1
      clear hown1 hkn
      go_wp2_with fail
      go_loopw [5, 6] (fun v i wr => ∃ k q : Nat, k ≤ n ∧ i = .int .i64 (k : Int) ∧ Hid (q = (putL (n : Int) 2 ++ (l.take k).flatMap fone).length) ∧ q ≤ 2 + 1003 * k ∧ wr.ownsRow w.heap.size 5 1 v q (bts (putL (n : Int) 2 ++ (l.take k).flatMap fone)) ∧ Below w.heap.size w wr) (fun _ i _ => n - (intOf i).toNat)
      case atStart => exact ⟨0, 2, Nat.zero_le _, rfl, (show 2 = _ by simp [putL_length]), by omega, by simpa using HO1.out, hb1⟩
      case round =>
        obtain ⟨k, q, hk, rfl, hq, hqb, hown, hbw⟩ := hrel
        obtain ⟨A1, c1, rfl, _, _, _⟩ := own_form hown
        clear hb1 HO1
        by_cases hlt : k < n
        · have hki : (k : Int) < (n : Int) := by omega
          have hkl : k < l.length := by have := HN.out; omega
          obtain ⟨ad, rfl, hadB, hcell⟩ := strs_at (hr.below (hbw.mono hB)) HN.out hlt
          obtain ⟨x, hx⟩ : ∃ x, x = l[k]'hkl := ⟨_, rfl⟩
          rw [← hx] at hcell
          have hxl := HL.out x (by rw [hx]; exact List.getElem_mem _)
          have htk := List.take_succ_eq_append_getElem hkl
          rw [← hx] at htk
          simp only [strV] at hcell
          have HT : Hid (bts (putL (n : Int) 2 ++ (l.take (k + 1)).flatMap fone) = bts (putL (n : Int) 2 ++ (l.take k).flatMap fone) ++ bts (putL (x.length : Int) 3) ++ bts x) := by
            show _ = _
            rw [htk, List.flatMap_append]
            simp [fone, bts_append]
          have HQ : Hid (q + 3 + x.length = (putL (n : Int) 2 ++ (l.take (k + 1)).flatMap fone).length) := by
            show _ = _
            rw [htk, List.flatMap_append, ← List.append_assoc, List.length_append, ← hq.out]
            simp [fone_len]
            omega
          have HXL := Lib.hid hxl
          have HOWN := Lib.hid hown
          have HBW := Lib.hid hbw
          generalize bts (putL (n : Int) 2 ++ (l.take k).flatMap fone) = ob at HT HOWN
          have hadw : (ad.add k).block < w.heap.size := by rw [block_of_add]; omega
          have HE0 := Lib.hid ((hbw.cell (p := ad.add k) hadw).symm.trans hcell)
          have hxs : (⟨x.toArray⟩ : ByteArray).size = x.length := by show x.toArray.size = _; simp
          have HXS := Lib.hid hxs
          have hq3 := Lib.hid (show q + 3 + (⟨x.toArray⟩ : ByteArray).size ≤ maxLen by unfold maxLen; omega)
          have hq4 := Lib.hid (show q + 3 + (⟨x.toArray⟩ : ByteArray).size ≤ 140737488355328 by omega)
          have h01 : 0 < 1 := by omega
          have hq1 : q + 3 ≤ maxLen := by unfold maxLen; omega
          have hq2 : (q + 3) * 1 ≤ 140737488355328 := by omega
          clear hx htk hr hown hbw hxl hq hxs
          go_wp2_with fail
          go_region_law (first
            | (refine step_append_string rfl (.tmp 38) (.tmp 42) 28 9 rfl w.heap.size 5 i0 Try.underlying28 Try.underlying9 hi0 hz0 hz1 hz2 v6 (q + 3) _ ?hs HO6.out ⟨x.toArray⟩ ?hx ?h63 ?hby hz6 ?_; (case hs => first | rfl | simp [Act.eval] | simp [Act.eval, Act.put]); (case hx => first | rfl | simp [Act.eval] | simp [Act.eval, Act.put]); (case h63 => exact hq3.out); (case hby => exact hq4.out); intro v7 w7 hown7 hg7; have HO7 := Lib.hid hown7; have HB7 := Lib.hid (HB6.out.grown hg7 hz6 (fun r hr => (HO6.out.lt r hr).1)); obtain ⟨A7, c7, rfl, _, _, _⟩ := own_form hown7; clear hown7 hg7)
            | (go_simp; refine (pput3_any (x.length : Int) _).mono ?_; rintro e w5 ⟨v5, rfl, hown5, hb5⟩; obtain ⟨A5, c5, rfl, _, _, hr5⟩ := own_form hown5; have HR5 := Lib.hid hr5; have HO5 := Lib.hid (own_below HOWN.out ((below_d wr).trans hb5)); have HB5 := Lib.hid ((below_step HBW.out ((below_d wr).trans hb5))); have e1b := ((HB5.out.cell (p := ad.add k) hadw).trans HE0.out); have hz5 := HB5.out.size; clear hown5 hr5 hb5)
            | (refine step_append_any _ rfl (.tmp 31) (.tmp 37) 28 rfl w.heap.size 5 i0 _ 1 1 Try.underlying28 hi0 hz0 hz1 hz2 rfl h01 (.slice A1 q c1) q ob ?hs HO5.out _ A5 3 c5 _ ?hx HR5.out (bts_one _) hq1 hq2 hz5 ?_; (case hs => first | rfl | simp [Act.eval] | simp [Act.eval, Act.put]); (case hx => first | rfl | simp [Act.eval] | simp [Act.eval, Act.put]); intro v6 w6 hown6 hg6 _; have HO6 := Lib.hid hown6; have HB6 := Lib.hid (HB5.out.grown hg6 hz5 (fun r hr => (HO5.out.lt r hr).1)); have e1c := (HB6.out.cell (p := ad.add k) hadw).trans HE0.out; have hz6 := HB6.out.size; clear hown6 hg6))
          all_goals
            go_wp2_with fail
            go_roundw
            case rel =>
              refine ⟨k + 1, q + 3 + x.length, by omega, by go_num, HQ.out, by have := HXL.out; omega, ?_, HB7.out⟩
              rw [HT.out, ← strCells_bts x, ← HXS.out]
              exact HO7.out
            case measure => simp [intOf]; omega
        · have HO : Hid (wr.ownsRow w.heap.size 5 1 (.slice A1 q c1) (fwrite l).length (bts (fwrite l))) := by
            show World.ownsRow _ _ _ _ _ _ _
            have hq2 := hq.out
            rw [List.take_of_length_le (by have := HN.out; omega), ← HW.out] at hown hq2
            rw [← hq2]
            exact hown
          clear hr hown hq
          go_wp2_with fail
          go_ret2
          exact ⟨_, rfl, HO.out, hbw⟩
end Go.Proofs.Ythfjfkjlgdnohaa
