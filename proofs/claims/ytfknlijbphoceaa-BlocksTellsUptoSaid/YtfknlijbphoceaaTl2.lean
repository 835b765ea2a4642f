/-
  The page's Octets and Read of contents, by their contracts.
-/
import Derived.Test.YtfknlijbphoceaaTl1
import Derived.Test.YtfknlijbphoceaaRNum
import Derived.Test.YtfknlijbphoceaaBkLaw
import Derived.Test.YtfknlijbphoceaaBkRead
import Derived.Lib.AppendStr
import Derived.Deep.RegionLaw
namespace Go.Proofs.Ytfknlijbphoceaa
open Go.RowKit

theorem strCells_bts (xs : List UInt8) : Lib.strCells ⟨xs.toArray⟩ = bts xs := by
  simp [Lib.strCells, bts]
section
variable {P : Program}
theorem step_append_string {ops : Array Oper} {o : Oper} {a : Act} {w : World} {K : Act → World → Prop} {Q : Exit → Act → World → Prop} {E : Prop} (hgd : o.guard = none) (sl x : Operand) (t u : TypeId)
    (ho : o.op = .call { callee := .builtin .append, args := #[sl, x], argTypes := #[t, u] })
    (base : Nat) (e : TypeId) (i : TypeInfo) (ht : P.underlying t = some (.slice e)) (hu : P.underlying u = some .string) (hi : P.info? e = some i) (hz : i.zero = some (.int .u8 0))
    (hsize : i.size = 1) (hby : i.bytes = 1)
    (v : Value) (n : Nat) (xs : List Value) (hs : a.eval sl = v) (hown : w.ownsRow base e 1 v n xs) (s : ByteArray) (hx : a.eval x = .string s)
    (h63 : n + s.size ≤ maxLen) (hbytes : n + s.size ≤ 140737488355328) (hbase : base ≤ w.heap.size)
    (h : ∀ v' w', w'.ownsRow base e 1 v' (n + s.size) (xs ++ Lib.strCells s) → w.grownBy w' v.ownBlock → K (a.put o.dst v') w') :
    if Region.wanted o (yielded ops a.tmps) = true then Oper.wp P o a w K Q else E := by
  have hw : Region.wanted o (yielded ops a.tmps) = true := by simp [Region.wanted, hgd]
  rw [if_pos hw]
  obtain ⟨v', w', hr, h2, h3, h4⟩ := Lib.run_append_own_string (P := P) w base t u o.type e i ht hu hi hz hsize hby v n xs hown s h63 hbytes hbase
  unfold Oper.wp execOp
  simp only [ho, resolve, invoke, builtin, Sem.run_bind, Sem.run_pure, Result.andThen_ok, List.map_toArray, List.map_cons, List.map_nil, hs, hx, hr]
  exact h v' w' h2 h3
end
theorem below_d (W : World) : Below W.heap.size W W.drew := (Below.refl _ W).drew
set_option maxRecDepth 100000 in
set_option maxHeartbeats 1000000 in
theorem rput2b_any (n : Int) (w : World) :
    Calls Try.prog 41 #[.int .i64 n, .int .i64 2] w fun e w' => ∃ v, e = .returned v ∧ w'.ownsRow w.heap.size 5 1 v 2 (bts (putL n 2)) ∧ Below w.heap.size w w' := by
  obtain ⟨i0, hi0, hz0, hz1, hz2⟩ := info_parts Try.infoU8c
  have hown0 : w.ownsRow w.heap.size 5 1 (.slice none 0 0) 0 [] := World.ownsRow_nil _ _ _ _
  have hb0 := Below.refl w.heap.size w
  go_enter Try.func41, Try.ntmps41
  go_wp2_with fail
  refine wp_loop_rounds 3 ?_
  rw [rounds_succ]
  go_wp2_with (at_builtin; (refine wpList_push w rfl (.tmp 14) (.tmp 20) _ rfl w.heap.size 5 i0 _ 1 1 Try.underlying47 hi0 hz0 hz1 hz2 rfl (by omega) (.slice none 0 0) 0 _ rfl hown0 1 _ _ rfl rfl (by simp [Value.oneCell']) (by unfold maxLen; omega) (by omega) hb0.size ?_); intro v1 w1 hown1 hq1 _)
  have hb1 := hb0.trans hq1
  clear hown0 hb0 hq1
  rw [rounds_succ]
  go_wp2_with (at_builtin; (refine wpList_push w1 rfl (.tmp 14) (.tmp 20) _ rfl w.heap.size 5 i0 _ 1 1 Try.underlying47 hi0 hz0 hz1 hz2 rfl (by omega) v1 1 _ rfl hown1 1 _ _ rfl rfl (by simp [Value.oneCell']) (by unfold maxLen; omega) (by omega) hb1.size ?_); intro v2 w2 hown2 hq2 _)
  have hb2 := hb1.trans hq2
  clear hown1 hb1 hq2
  rw [rounds_succ]
  go_wp2_with fail
  go_ret
  refine ⟨v2, rfl, ?_, hb2⟩
  have hl : bts (putL n 2) = [.int .u8 (n / 256 % 256), .int .u8 (n % 256)] := by
    rw [putL2b]; simp only [bts, List.map_cons, List.map_nil, toByte_int]
  rw [hl]
  exact hown2

set_option maxRecDepth 100000 in
set_option maxHeartbeats 2000000 in
theorem roct_any (l : BL) (n : Nat) (hnl : n = l.length) (A : Option Addr) (c : Nat) (w : World) (B : Nat) (hr : Reads w B 2 A n (bcells l)) (hB : B ≤ w.heap.size) (hn : n ≤ 1024) (hl : ∀ x ∈ l, x.2.length = 16) :
    Calls Try.prog 24 #[.slice A n c] w fun e w' => ∃ v, e = .returned v ∧ w'.ownsRow w.heap.size 5 1 v (18 * n) (bts (bkOct l)) ∧ Below w.heap.size w w' := by
  obtain ⟨i0, hi0, hz0, hz1, hz2⟩ := info_parts Try.infoU8c
  have HN := Lib.hid hnl
  have HL := Lib.hid hl
  clear hnl hl
  go_enter Try.func24, Try.ntmps24
  go_wp2_with fail
  go_loopw [3, 4] (fun v j wr => ∃ k q : Nat, k ≤ n ∧ j = .int .i64 (k : Int) ∧ Hid (q = 18 * k) ∧ wr.ownsRow w.heap.size 5 1 v q (bts (bkOct (l.take k))) ∧ Below w.heap.size w wr) (fun _ j _ => n - (intOf j).toNat)
  case atStart => exact ⟨0, 0, Nat.zero_le _, rfl, rfl, World.ownsRow_nil _ _ _ _, Below.refl _ _⟩
  case round =>
    obtain ⟨k, q, hk, rfl, hq, hown, hbw⟩ := hrel
    have hq18 := hq.out
    have hsz := hbw.size
    obtain ⟨A1, c1, rfl, _, _, _⟩ := own_form hown
    by_cases hlt : k < n
    · have hrw := hr.below (hbw.mono hB)
      obtain ⟨ad, rfl, hadB, e0, e1⟩ := hrw.blk2 HN.out hlt
      have hkl : k < l.length := by have := HN.out; omega
      obtain ⟨x, hx⟩ : ∃ x, x = l[k]'hkl := ⟨_, rfl⟩
      rw [← hx] at e0 e1
      have hxl := HL.out x (by rw [hx]; exact List.getElem_mem _)
      have htk := List.take_succ_eq_append_getElem hkl
      rw [← hx] at htk
      obtain ⟨xi, xs⟩ := x
      simp only at e0 e1 hxl
      have HTK := Lib.hid (show bts (bkOct (l.take (k + 1))) = bts (bkOct (l.take k)) ++ bts (putL xi 2) ++ bts xs by rw [htk, bkOct_append, bts_append]; simp [bkOct, bts_append])
      have hki : (k : Int) < (n : Int) := by omega
      have hqb : q ≤ 18432 := by omega
      have hadw : (ad.add (k * 2)).block < w.heap.size := by rw [block_of_add]; omega
      have HOWN := Lib.hid hown
      have HXL := Lib.hid hxl
      generalize bts (bkOct (l.take k)) = ob at HTK HOWN
      clear hx htk hrw hr hown hq18 hxl
      have HE0 := Lib.hid ((hbw.cell (p := ⟨(ad.add (k * 2)).block, (ad.add (k * 2)).off + 1, none⟩) hadw).symm.trans e1)
      have h01 : 0 < 1 := by omega
      have hq1 : q + 2 ≤ maxLen := by unfold maxLen; omega
      have hq2 : (q + 2) * 1 ≤ 140737488355328 := by omega
      have hq3 := Lib.hid (show q + 2 + (⟨xs.toArray⟩ : ByteArray).size ≤ maxLen by unfold maxLen; show q + 2 + xs.toArray.size ≤ _; simp; have := HXL.out; omega)
      have hq4 := Lib.hid (show q + 2 + (⟨xs.toArray⟩ : ByteArray).size ≤ 140737488355328 by show q + 2 + xs.toArray.size ≤ _; simp; have := HXL.out; omega)
      go_wp2_with fail
      go_region_law (first
        | (refine step_append_string rfl (.tmp 18) (.tmp 23) 47 9 rfl w.heap.size 5 i0 Try.underlying47 Try.underlying9 hi0 hz0 hz1 hz2 v6 (q + 2) _ ?hs HO6.out ⟨xs.toArray⟩ ?hx ?h63 ?hby hz6 ?_; (case hs => first | rfl | simp [Act.eval] | simp [Act.eval, Act.put]); (case hx => first | rfl | simp [Act.eval] | simp [Act.eval, Act.put]); (case h63 => exact hq3.out); (case hby => exact hq4.out); intro v7 w7 hown7 hg7; have HO7 := Lib.hid hown7; have HB7 := Lib.hid (HB6.out.grown hg7 hz6 (fun r hr => (HO6.out.lt r hr).1)); obtain ⟨A7, c7, rfl, _, _, _⟩ := own_form hown7; clear hown7 hg7)
        | (go_simp; refine (rput2b_any xi _).mono ?_; rintro e w5 ⟨v5, rfl, hown5, hb5⟩; obtain ⟨A5, c5, rfl, _, _, hr5⟩ := own_form hown5; have HR5 := Lib.hid hr5; have HO5 := Lib.hid (own_below HOWN.out ((below_d wr).trans hb5)); have HB5 := Lib.hid ((below_step hbw ((below_d wr).trans hb5))); have HE1 := Lib.hid ((HB5.out.cell (p := ⟨(ad.add (k * 2)).block, (ad.add (k * 2)).off + 1, none⟩) hadw).trans HE0.out); have e1b := HE1.out; have hz5 := HB5.out.size; clear hown5 hr5 hb5)
        | (refine step_append_any _ rfl (.tmp 11) (.tmp 17) 47 rfl w.heap.size 5 i0 _ 1 1 Try.underlying47 hi0 hz0 hz1 hz2 rfl h01 (.slice A1 q c1) q ob ?hs HO5.out _ A5 2 c5 _ ?hx HR5.out (bts_one _) hq1 hq2 hz5 ?_; (case hs => first | rfl | simp [Act.eval] | simp [Act.eval, Act.put]); (case hx => first | rfl | simp [Act.eval] | simp [Act.eval, Act.put]); intro v6 w6 hown6 hg6 _; have HO6 := Lib.hid hown6; have HB6 := Lib.hid (HB5.out.grown hg6 hz5 (fun r hr => (HO5.out.lt r hr).1)); have e1c := (HB6.out.cell (p := ⟨(ad.add (k * 2)).block, (ad.add (k * 2)).off + 1, none⟩) hadw).trans HE0.out; have hz6 := HB6.out.size; clear hown6 hg6))
      all_goals
        go_wp2_with fail
        go_roundw
        case rel => exact ⟨k + 1, q + 2 + xs.length, by omega, by go_num, (show _ = _ by have := HXL.out; have := hq.out; omega), by rw [HTK.out, ← strCells_bts]; exact HO7.out, HB7.out⟩
        case measure => simp [intOf]; omega
    · have hkn : k = n := by omega
      have hfin : bkOct (l.take k) = bkOct l := by rw [List.take_of_length_le (by rw [hkn, HN.out]; exact Nat.le_refl _)]
      rw [hfin] at hown
      have hqe : q = 18 * n := by rw [hq18, hkn]
      have HQ := Lib.hid hqe
      have HO := Lib.hid hown
      clear hfin hr hown hqe hq18 hkn
      go_wp2_with fail
      go_ret
      refine ⟨_, rfl, ?_, hbw⟩
      rw [← HQ.out]
      exact HO.out

/-! ### Read -/
def RReadPost (w : World) (b : List UInt8) (e : Ending) (w' : World) : Prop :=
  ∃ v, e = .returned (.tuple #[v, .int .i64 (if b.length % 18 = 0 then okE (readL b) else 8)]) ∧
    (w'.ownsRow w.heap.size 30 2 v (if b.length % 18 = 0 ∧ okL (readL b) = true then readL b else []).length (bcells (if b.length % 18 = 0 ∧ okL (readL b) = true then readL b else []))) ∧ Below w.heap.size w w'
set_option maxRecDepth 100000 in
set_option maxHeartbeats 2000000 in
theorem rread_any (b : List UInt8) (n : Nat) (hnb : n = b.length) (A : Option Addr) (c : Nat) (w : World) (B : Nat) (hr : Reads w B 1 A n (bts b)) (hB : B ≤ w.heap.size) (hc : n ≤ c) (hn : n ≤ 5000000000000) :
    Calls Try.prog 22 #[.slice A n c] w (RReadPost w b) := by
  obtain ⟨i0, hi0, hz0, hz1, hz2⟩ := info_parts Try.infoB
  by_cases h18 : b.length % 18 = 0
  · obtain ⟨M, hM⟩ : ∃ M, n = 18 * M := ⟨n / 18, by omega⟩
    have hrem : ((n : Int) % 18 == 0) = true := by simp; omega
    have hremb : ((n : Int) % 18 != 0) = false := by simp; omega
    have HN := Lib.hid hnb
    have HM := Lib.hid hM
    have H18 := Lib.hid h18
    clear hnb hM h18
    go_enter Try.func22, Try.ntmps22
    go_wp2_with fail
    clear hrem hremb
    go_loopw [4, 5] (fun v j wr => ∃ k : Nat, k ≤ M ∧ j = .int .i64 ((18 * k : Nat) : Int) ∧ wr.ownsRow w.heap.size 30 2 v k (bcells (rdL b (List.range k))) ∧ Below w.heap.size w wr) (fun _ j _ => n - (intOf j).toNat)
    case atStart => exact ⟨0, Nat.zero_le _, rfl, World.ownsRow_nil _ _ _ _, Below.refl _ _⟩
    case round =>
      obtain ⟨k, hk, rfl, hown, hbw⟩ := hrel
      have hsz := hbw.size
      obtain ⟨A1, c1, rfl, _, _, _⟩ := own_form hown
      by_cases hlt : k < M
      · obtain ⟨i, hi⟩ : ∃ i, i = 18 * k := ⟨_, rfl⟩
        rw [← hi]
        have hi18 : i + 18 ≤ n := by have := HM.out; omega
        have hin : (i : Int) < (n : Int) := by omega
        have hrw := hr.below (hbw.mono hB)
        obtain ⟨ad, rfl, _, _⟩ := hrw.2 (by omega)
        have hcell := (hrw.2 (by omega))
        obtain ⟨ad', he, hadB, hcells⟩ := hcell
        injection he with he
        subst he
        obtain ⟨p, hp⟩ : ∃ p, p = chunkEL b k := ⟨_, rfl⟩
        have hpl : p.length = 18 := by rw [hp]; unfold chunkEL; rw [List.length_take, List.length_drop]; have := HN.out; omega
        have hpc : ∀ (j : Nat) (u : Value), (bts p)[j]? = some u → wr.cell? (ad.add (i + j)) = some u := by
          intro j u hu
          refine hcells (i + j) u ?_
          rw [bts_get] at hu ⊢
          rw [← hu, hp]
          unfold chunkEL
          rw [List.getElem?_take, if_pos (by have := (List.getElem?_eq_some_iff.1 (show p[j]? = some (p[j]'(by
            rcases Nat.lt_or_ge j p.length with h | h
            · exact h
            · rw [List.getElem?_eq_none h] at hu; cases hu)) from List.getElem?_eq_getElem _)).1; omega), List.getElem?_drop, hi]
        have hr2 : Reads wr B 1 (some (ad.add i)) 2 (bts (p.take 2)) := by
          refine ⟨by rw [bts_length, List.length_take, hpl]; rfl, fun _ => ⟨_, rfl, by rw [block_of_add]; exact hadB, fun j u hu => ?_⟩⟩
          rw [add_of_add]
          refine hpc j u ?_
          rw [bts_take, List.getElem?_take] at hu
          split at hu
          · exact hu
          · cases hu
        have hr16 : Reads wr B 1 (some (ad.add (i + 2))) 16 (bts (p.drop 2)) := by
          refine ⟨by rw [bts_length, List.length_drop, hpl], fun _ => ⟨_, rfl, by rw [block_of_add]; exact hadB, fun j u hu => ?_⟩⟩
          rw [add_of_add]
          rw [bts_drop, List.getElem?_drop] at hu
          have := hpc (2 + j) u hu
          rwa [← Nat.add_assoc] at this
        have hnum := fun c' => rnumber_any (p.take 2) 2 (by rw [List.length_take, hpl]; rfl) (some (ad.add i)) c' wr B hr2 (by omega)
        have hcv := fun c' => strE_of (P := Try.prog) (c := c') hr16 (by rw [List.length_drop, hpl]) Try.underlying47 Try.underlying5 Try.underlying9
        rw [show ad.add (i + 2) = ⟨ad.block, ad.off + (i + 1 + 1), none⟩ from addr_add_succ ad (i + 1)] at hcv
        obtain ⟨nv, hnv⟩ : ∃ nv, nv = numV (p.take 2) := ⟨_, rfl⟩
        rw [← hnv] at hnum
        obtain ⟨ps, hps⟩ : ∃ ps, ps = p.drop 2 := ⟨_, rfl⟩
        rw [← hps] at hcv
        have HNX := Lib.hid (show bcells (rdL b (List.range (k + 1))) = bcells (rdL b (List.range k)) ++ [.int .i64 nv, .string ⟨ps.toArray⟩] by
          rw [List.range_succ]
          unfold rdL
          rw [List.map_append, bcells_append]
          show _ ++ [Value.int .i64 (rdOne (chunkEL b k)).1, Value.string ⟨(rdOne (chunkEL b k)).2.toArray⟩] = _
          rw [← hp]
          unfold rdOne
          rw [hnv, hps])
        have HI := Lib.hid hi
        have hkb : k ≤ 1000000000000 := by have := HM.out; omega
        have hw2 : IntKind.i64.wrap ((i : Int) + 2) = (i : Int) + 2 := IntWalk.i64_in _ (by omega)
        have hw18 : IntKind.i64.wrap ((i : Int) + 18) = (i : Int) + 18 := IntWalk.i64_in _ (by omega)
        have t2 : ((i : Int) + 2).toNat = i + 2 := by omega
        have t18 : ((i : Int) + 18).toNat = i + 18 := by omega
        have HOWN := Lib.hid hown
        have hnc1 : ¬ c = i := by omega
        have hnc2 : ¬ c = i + 2 := by omega
        clear hi hp hpl hpc hr2 hr16 hnv hps hcells hrw hr hown
        go_wp2_with fail
        refine (hnum _).mono ?_
        clear hnum
        rintro e w1 ⟨rfl, rfl⟩
        go_wp2_with (at_builtin; (refine wpList_push _ rfl (.tmp 27) (.tmp 37) 22 rfl w.heap.size 30 i0 (.agg #[.int .i64 0, .string ByteArray.empty]) 2 24 Try.underlying22 hi0 hz0 hz1 hz2 rfl (by decide) (.slice A1 k c1) k _ rfl HOWN.out 1 #[.int .i64 nv, .string ⟨ps.toArray⟩] 30 rfl rfl (by simp [Value.oneCell']) (by unfold maxLen; omega) (by omega) hsz ?_); intro v2 w2 hown2 hb2 hg2; have HO2 := Lib.hid hown2; have HB2 := Lib.hid hb2; clear hown2 hb2 hg2)
        go_roundw
        case rel => exact ⟨k + 1, by omega, by rw [HI.out]; go_num, by rw [HNX.out]; exact HO2.out, hbw.trans HB2.out⟩
        case measure => simp [intOf]; omega
      · have hkM : k = M := by omega
        have hrd : rdL b (List.range k) = readL b := by unfold readL; congr 2; have := HM.out; have := HN.out; omega
        have hend : n ≤ 18 * k := by have := HM.out; omega
        have hkl : k = (readL b).length := by rw [← hrd]; simp [rdL]
        rw [hrd] at hown
        have hck := rcheck_any (readL b) k hkl A1 c1 wr wr.heap.size (Reads.of_own hown) (Nat.le_refl _) (by have := HM.out; omega)
        obtain ⟨i, hi⟩ : ∃ i, i = 18 * k := ⟨_, rfl⟩
        rw [← hi]
        have hin : (n : Int) ≤ (i : Int) := by omega
        have hnin : ¬ i < n := by omega
        have HKL := Lib.hid hkl
        have HOWN := Lib.hid hown
        obtain ⟨z, hz⟩ : ∃ z, z = okE (readL b) := ⟨_, rfl⟩
        rw [← hz] at hck
        have HZ := Lib.hid hz
        by_cases hok : okL (readL b) = true
        · have hz0' : z = 0 := by rw [hz]; unfold okE; rw [if_pos hok]
          have HOK := Lib.hid hok
          subst hz0'
          clear hi hkM hrd hend hkl hown hz hok hr
          go_wp2_with fail
          refine hck.mono ?_
          clear hck
          rintro e w5 ⟨rfl, hb5⟩
          go_wp2_with fail
          go_ret2
          refine ⟨_, by rw [if_pos H18.out, ← HZ.out]; rfl, ?_, hbw.trans (hb5.mono hsz)⟩
          rw [if_pos ⟨H18.out, HOK.out⟩, ← HKL.out]
          exact own_below HOWN.out hb5
        · have hz9 : z = 9 := by rw [hz]; unfold okE; rw [if_neg hok]
          have HOK := Lib.hid hok
          subst hz9
          clear hi hkM hrd hend hkl hown hz hok hr
          go_wp2_with fail
          refine hck.mono ?_
          clear hck
          rintro e w5 ⟨rfl, hb5⟩
          go_wp2_with fail
          go_ret2
          refine ⟨.slice none 0 0, by rw [if_pos H18.out, ← HZ.out]; rfl, ?_, hbw.trans (hb5.mono hsz)⟩
          rw [if_neg (fun e => HOK.out e.2)]
          exact World.ownsRow_nil _ _ _ _
  · have hrem : ((n : Int) % 18 == 0) = false := by simp; omega
    have hremb : ((n : Int) % 18 != 0) = true := by simp; omega
    have H18 := Lib.hid h18
    clear hnb h18 hr
    go_enter Try.func22, Try.ntmps22
    go_wp2_with fail
    go_ret2
    refine ⟨.slice none 0 0, by rw [if_neg H18.out]; rfl, ?_, Below.refl _ _⟩
    rw [if_neg (fun e => H18.out e.1)]
    exact World.ownsRow_nil _ _ _ _
end Go.Proofs.Ytfknlijbphoceaa
