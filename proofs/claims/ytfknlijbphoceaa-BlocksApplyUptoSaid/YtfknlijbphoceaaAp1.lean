/-
  The law BlocksApply, walked.
-/
import Derived.Test.YtfknlijbphoceaaApLaw
import Derived.Test.YtfknlijbphoceaaDf4
import Derived.Deep.RegionWith
namespace Go.Proofs.Ytfknlijbphoceaa
open Go.RowKit

def lastK (o : RL) (k : Nat) : Int := match k with
  | 0 => -1
  | j + 1 => match o[j]? with
    | some r => lastOf r
    | none => 0
theorem putE_ok (l : BL) (h : OkP l) (i : Int) (d : List UInt8) (hi : 0 ≤ i ∧ i < 1024) (hd : d.length = 16) : putE l i d = 0 := by
  unfold putE
  rw [if_pos (okL_of l h), if_pos hi, if_pos hd]
theorem freeE_ok (l : BL) (h : OkP l) (i c : Int) (hi : 0 ≤ i ∧ i < 1024 ∧ 1 ≤ c ∧ c ≤ 1024 - i) : freeE l i c = 0 := by
  unfold freeE
  rw [if_pos (okL_of l h), if_pos hi]
structure ApW (w w2 : World) (a : BL) (o : RL) (k : Nat) (vo vl vi : Value) (A : Option Addr) (c m : Nat) (wr : World) : Prop where
  eo : vo = .slice A m c
  el : vl = .int .i64 (lastK o k)
  ei : vi = .int .i64 (k : Int)
  hm : m = ((o.take k).foldl apStep a).length
  rd : Reads wr wr.heap.size 2 A m (bcells ((o.take k).foldl apStep a))
  b0 : Below w.heap.size w wr
  b2 : Below w2.heap.size w2 wr

set_option maxRecDepth 100000 in
set_option maxHeartbeats 4000000 in
theorem blocksApply_any (a b : BL) (n m : Nat) (hna : n = a.length) (hmb : m = b.length) (A B : Option Addr) (c c2 : Nat) (hc : n ≤ c) (hc2 : m ≤ c2) (w : World) (hra : Reads w w.heap.size 2 A n (bcells a)) (hrb : Reads w w.heap.size 2 B m (bcells b)) (hn : n ≤ 5000000000000) (hm : m ≤ 5000000000000) :
    LawCalls Try.prog 5 #[.slice A n c, .slice B m c2] w := by
  have hdf := fun W (hb : Below w.heap.size w W) => bkDiff_any a b n m hna hmb A B c c2 W ((hra.below hb).more hb.size) ((hrb.below hb).more hb.size) hc hc2 hn hm
  have hs := diffO_small a b
  unfold DiffPost at hdf
  by_cases hE : diffE a b = 0
  · obtain ⟨ha, hb⟩ := (diffE_ok a b).1 hE
    have hO : diffO a b = (diffGo a b ([], -2)).1 := by unfold diffO; rw [if_pos hE]
    obtain ⟨l1, l2, l3, l4⟩ := apply_law a b ha hb
    rw [← hO] at l1 l2 l3 l4
    have hown := fun W (hb : Below w.heap.size w W) => rown_any (bcells a) n A c W w.heap.size (hra.below hb) (bcells_one a) hn
    have hsab := fun W (hb : Below w.heap.size w W) => rsame_any a b n m hna hmb A B c c2 W w.heap.size w.heap.size (hra.below hb) (hrb.below hb) (by omega)
    have hsbb := fun W (hb : Below w.heap.size w W) A' c' (hr : Reads W W.heap.size 2 A' m (bcells b)) => rsame_any b b m m hmb hmb A' B c' c2 W W.heap.size w.heap.size hr (hrb.below hb) (by omega)
    have hOA := OkP.of a ha
    obtain ⟨o, ho⟩ : ∃ o, o = diffO a b := ⟨_, rfl⟩
    obtain ⟨M, hM⟩ : ∃ M, M = o.length := ⟨_, rfl⟩
    rw [← ho] at l1 l2 l3 l4
    rw [hE, ← ho, ← hM] at hdf
    rw [← ho, ← hM] at hs
    have hend : (a == b) = (M == 0) := by
      rw [Bool.eq_iff_iff, beq_iff_eq, ← l4, hM, beq_iff_eq]
      exact ⟨fun h => by rw [h]; rfl, fun h => List.eq_nil_of_length_eq_zero h⟩
    rw [hend] at hsab
    rw [beq_self_eq_true] at hsbb
    have HM := Lib.hid hM
    have HV := Lib.hid l1
    have HS := Lib.hid l2
    have HF := Lib.hid l3
    have HOA := Lib.hid hOA
    have HNA := Lib.hid hna
    have HMB := Lib.hid hmb
    have HSAB := Lib.hid hsab
    have HSBB := Lib.hid hsbb
    clear ho hM l1 l2 l3 l4 hend hE ha hb hO hOA hna hmb hra hrb hsab hsbb
    go_enter Try.func5, Try.ntmps5
    go_wp2_with fail
    refine (alive11_any _).mono ?_
    rintro e w1 ⟨rfl, hb1⟩
    go_wp2_with fail
    refine (hdf _ hb1).mono ?_
    clear hdf
    rintro e w2 ⟨v2, rfl, hown2, hb2⟩
    obtain ⟨A2, cc2, rfl, _, _, hr2⟩ := own_form hown2
    have HR2 := Lib.hid hr2
    have hb12 := hb1.trans (hb2.mono hb1.size)
    clear hr2 hown2 hb1 hb2
    go_wp2_with fail
    refine (num11 _ _).mono ?_
    rintro e w3 ⟨rfl, rfl⟩
    go_wp2_with fail
    refine (hown _ hb12).mono ?_
    clear hown
    rintro e w3 ⟨v3, rfl, hown3, hb3⟩
    obtain ⟨A3, c3, rfl, _, _, hr3⟩ := own_form hown3
    have HI0 := Lib.hid (⟨rfl, rfl, rfl, HNA.out, hr3, hb12.trans (hb3.mono hb12.size), hb3⟩ : ApW w w2 a o 0 (.slice A3 n c3) (.int .i64 (-1)) (.int .i64 ((0 : Nat) : Int)) A3 c3 n w3)
    have hz2 := hb12.size
    clear hr3 hown3 hb3 hb12
    go_wp2_with fail
    go_loopw [7, 8, 9] (fun vo vl vi wr => ∃ (k : Nat) (A' : Option Addr) (c' m' : Nat), k ≤ M ∧ ApW w w2 a o k vo vl vi A' c' m' wr) (fun _ _ vi _ => M - (intOf vi).toNat)
    case atStart => exact ⟨0, A3, c3, n, Nat.zero_le _, HI0.out⟩
    case round =>
      obtain ⟨k, A', c', m', hk, hI⟩ := hrel
      obtain rfl := hI.eo
      obtain rfl := hI.el
      obtain rfl := hI.ei
      have HI := Lib.hid hI
      clear hI HI0
      by_cases hlt : k < M
      · have hki : (k : Int) < (M : Int) := by omega
        have hkl : k < o.length := by have := HM.out; omega
        obtain ⟨ad, rfl, hadB, cx⟩ := Reads.elK encR_len (HR2.out.below HI.out.b2) HM.out hlt
        obtain ⟨r, hr⟩ : ∃ r, r = o[k]'hkl := ⟨_, rfl⟩
        rw [← hr] at cx
        have x0 := cx 0 (by omega)
        have x5 := cx 5 (by omega)
        have x6 := cx 6 (by omega)
        have x7 := cx 7 (by omega)
        rw [add_zero] at x0
        rw [addr_add_succ] at x5 x6 x7
        simp only [encR, List.getElem?_cons_zero, List.getElem?_cons_succ, Nat.reduceAdd] at x0 x5 x6 x7
        clear cx
        have hv := HV.out r (by rw [hr]; exact List.getElem_mem _)
        have hokk := ok_steps (o.take k) a HOA.out (fun q hq => HV.out q (List.mem_of_mem_take hq))
        have htk := List.take_succ_eq_append_getElem hkl
        rw [← hr] at htk
        have hlast : lastK o k < r.2.1 := by
          have hS := HS.out
          rw [List.pairwise_iff_getElem] at hS
          rcases hv with ⟨_, h1, _⟩ | ⟨_, h1, _⟩
          all_goals
            cases k with
            | zero => show (-1 : Int) < _; omega
            | succ j =>
              show (match o[j]? with | some r => lastOf r | none => 0) < _
              rw [List.getElem?_eq_getElem (by omega), hr]
              exact hS j (j + 1) (by omega) hkl (by omega)
        have hln : lastK o (k + 1) = lastOf r := by
          show (match o[k]? with | some r => lastOf r | none => 0) = _
          rw [List.getElem?_eq_getElem hkl, ← hr]
        have hfold : (o.take (k + 1)).foldl apStep a = apStep ((o.take k).foldl apStep a) r := by rw [htk, List.foldl_append]; rfl
        obtain ⟨L, hL⟩ : ∃ L, L = (o.take k).foldl apStep a := ⟨_, rfl⟩
        have hLm : m' = L.length := by rw [hL]; exact HI.out.hm
        have hLr : Reads wr wr.heap.size 2 A' m' (bcells L) := by rw [hL]; exact HI.out.rd
        rw [← hL] at hokk hfold
        have hms := okL_small L (okL_of L hokk)
        obtain ⟨lk0, hlk0⟩ : ∃ z, z = lastK o k := ⟨_, rfl⟩
        rw [← hlk0] at hlast
        rw [← hlk0]
        have HLN := Lib.hid hln
        have HFO := Lib.hid hfold
        have HLM := Lib.hid hLm
        have HOK := Lib.hid hokk
        clear hr htk hln hfold hL hLm hokk hlk0
        obtain ⟨rk, ri, rc, rd⟩ := r
        simp only at x0 x5 x6 x7 hlast
        rcases hv with ⟨hk2, hi0, hi1, hd⟩ | ⟨hk3, hi0, hi1, hc1, hc2'⟩
        · simp only at hk2 hi0 hi1 hd
          subst hk2
          obtain ⟨m5, hm5⟩ : ∃ m5, m5 = (putL11 L ri rd).length := ⟨_, rfl⟩
          have hput : Calls Try.prog 10 #[.slice A' m' c', .int .i64 ri, .string ⟨rd.toArray⟩] wr.drew (fun e w' => ∃ A5 c5, e = .returned (.tuple #[.slice A5 m5 c5, .int .i64 0]) ∧ Reads w' w'.heap.size 2 A5 m5 (bcells (putL11 L ri rd)) ∧ Below wr.heap.size wr w') := by
            refine (bkPut_any L m' HLM.out A' c' ri rd wr.drew wr.heap.size hLr.drew (Nat.le_refl _) (by have := HLM.out; omega)).mono ?_
            rintro e w' ⟨v, rfl, h1, h2⟩
            have hz := putE_ok L HOK.out ri rd ⟨hi0, hi1⟩ hd
            rw [if_pos hz] at h1
            rw [← hm5] at h1
            obtain ⟨A5, c5, rfl, _, _, h3⟩ := own_form h1
            exact ⟨A5, c5, by rw [hz], h3, (Below.refl _ wr).drew.trans h2⟩
          have hadw : ad.block < wr.heap.size := by have := HI.out.b2.size; omega
          have HM5 := Lib.hid hm5
          clear hd hLr hm5
          go_wp2_with fail
          go_region_with (refine hput.mono ?_; rintro e w5 ⟨A5, c5, rfl, hr5, hb5⟩)
          all_goals
            go_wp2_with fail
            go_roundw
            case rel => exact ⟨k + 1, A5, c5, m5, by omega, ⟨rfl, by rw [HLN.out]; unfold lastOf; rw [if_pos rfl], by go_num, by rw [HFO.out]; unfold apStep; rw [if_pos rfl]; exact HM5.out, by rw [HFO.out]; unfold apStep; rw [if_pos rfl]; exact hr5, HI.out.b0.trans (hb5.mono HI.out.b0.size), HI.out.b2.trans (hb5.mono HI.out.b2.size)⟩⟩
            case measure => simp [intOf]; omega
        · simp only at hk3 hi0 hi1 hc1 hc2'
          subst hk3
          obtain ⟨m5, hm5⟩ : ∃ m5, m5 = (freeL L ri rc).length := ⟨_, rfl⟩
          have hfree : ∀ q, Calls Try.prog 16 #[.slice A' m' c', .int .i64 ri, .int .i64 rc] (wr.drewN q).drew (fun e w' => ∃ A5 c5, e = .returned (.tuple #[.slice A5 m5 c5, .int .i64 0]) ∧ Reads w' w'.heap.size 2 A5 m5 (bcells (freeL L ri rc)) ∧ Below wr.heap.size wr w') := by
            intro q
            refine (bkFree_any L m' HLM.out A' c' ri rc (wr.drewN q).drew wr.heap.size (hLr.drewN q).drew (Nat.le_refl _) (by have := HLM.out; omega)).mono ?_
            rintro e w' ⟨v, rfl, h1, h2⟩
            have hz := freeE_ok L HOK.out ri rc ⟨hi0, hi1, hc1, hc2'⟩
            have hfr : freeR L ri rc = freeL L ri rc := by unfold freeR; rw [if_pos hz]
            rw [hfr, ← hm5] at h1
            obtain ⟨A5, c5, rfl, _, _, h3⟩ := own_form h1
            exact ⟨A5, c5, by rw [hz], h3, ((below_drewN (Below.refl _ wr) q).drew).trans h2⟩
          have HFREE := Lib.hid hfree
          have HM5 := Lib.hid hm5
          have hw1 : IntKind.i64.wrap (ri + rc) = ri + rc := IntWalk.i64_in _ (by omega)
          have hw2 : IntKind.i64.wrap (ri + rc - 1) = ri + rc - 1 := IntWalk.i64_in _ (by omega)
          clear hLr hm5 hfree
          go_wp2_with fail
          go_big_quiet (fail)
          clear hw1 hw2
          have hfree := HFREE.out nq
          replace x5 : (wr.drewN nq).cell? ⟨(ad.add (k * 12)).block, (ad.add (k * 12)).off + 5, none⟩ = some (.int .i64 ri) := x5
          replace x6 : (wr.drewN nq).cell? ⟨(ad.add (k * 12)).block, (ad.add (k * 12)).off + 6, none⟩ = some (.int .i64 rc) := x6
          clear x0 x7 HFREE
          generalize wr.drewN nq = wq at x5 x6 hfree ⊢
          go_wp2_with fail
          go_region_with (refine hfree.mono ?_; rintro e w5 ⟨A5, c5, rfl, hr5, hb5⟩)
          all_goals
            go_wp2_with fail
            go_roundw
            case rel => exact ⟨k + 1, A5, c5, m5, by omega, ⟨rfl, by rw [HLN.out]; unfold lastOf; rw [if_neg (show ¬ (3 : Int) = 2 by decide)], by go_num, by rw [HFO.out]; unfold apStep; rw [if_neg (show ¬ (3 : Int) = 2 by decide)]; exact HM5.out, by rw [HFO.out]; unfold apStep; rw [if_neg (show ¬ (3 : Int) = 2 by decide)]; exact hr5, HI.out.b0.trans (hb5.mono HI.out.b0.size), HI.out.b2.trans (hb5.mono HI.out.b2.size)⟩⟩
            case measure => simp [intOf]; omega
      · obtain rfl : k = M := by omega
        have hfin : (o.take k).foldl apStep a = b := by rw [List.take_of_length_le (by rw [HM.out]; exact Nat.le_refl _)]; exact HF.out
        obtain rfl : m' = m := by have := HI.out.hm; rw [hfin] at this; exact this.trans HMB.out.symm
        have hrd := HI.out.rd
        rw [hfin] at hrd
        have h1 := HSBB.out wr HI.out.b0 A' c' hrd
        have h2 := HSAB.out
        have HB0 := Lib.hid HI.out.b0
        clear hfin hrd
        go_wp2_with fail
        refine h1.mono ?_
        clear h1
        rintro e w5 ⟨rfl, q5, rfl⟩
        go_wp2_with fail
        refine (h2 _ (below_drewN HB0.out q5)).mono ?_
        clear h2
        rintro e w6 ⟨rfl, q6, rfl⟩
        by_cases hk0 : k = 0
        · subst hk0
          go_wp2_with fail
          go_ret
          exact ⟨rfl, below_drewN HB0.out (q5 + q6)⟩
        · have hkb : (k == 0) = false := by simp [hk0]
          have hkb2 : ((k : Int) == 0) = false := by simp [hk0]
          go_wp2_with fail
          go_ret
          exact ⟨rfl, below_drewN HB0.out (q5 + q6)⟩
  · have hO : diffO a b = [] := by unfold diffO; rw [if_neg hE]
    rw [hO] at hdf
    obtain ⟨z, hz⟩ : ∃ z, z = diffE a b := ⟨_, rfl⟩
    rw [← hz] at hE hdf
    have hzb : (z == 0) = false := by simp [hE]
    clear hO hz hna hmb hra hrb hs
    go_enter Try.func5, Try.ntmps5
    go_wp2_with fail
    refine (alive11_any _).mono ?_
    rintro e w1 ⟨rfl, hb1⟩
    go_wp2_with fail
    refine (hdf _ hb1).mono ?_
    clear hdf
    rintro e w2 ⟨v2, rfl, hown2, hb2⟩
    obtain ⟨A2, cc2, rfl, _, _, _⟩ := own_form hown2
    have hb12 := hb1.trans (hb2.mono hb1.size)
    clear hown2 hb1 hb2
    go_wp2_with fail
    refine (num11 _ _).mono ?_
    rintro e w3 ⟨rfl, rfl⟩
    go_wp2_with fail
    go_ret
    exact ⟨rfl, hb12⟩
end Go.Proofs.Ytfknlijbphoceaa
