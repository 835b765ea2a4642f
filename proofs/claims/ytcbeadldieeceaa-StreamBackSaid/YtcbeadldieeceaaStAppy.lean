/-
  stream.Apply, by its contract, at a content and at records that may be.
-/
import Derived.Test.YtcbeadldieeceaaZ11
import Derived.Test.YtcbeadldieeceaaZ10
import Derived.Test.YtcbeadldieeceaaZ14
namespace Go.Proofs.Ytcbeadldieeceaa
open Go.RowKit

/-- what a record does to a content -/
def apR (l : BL) (r : Rc) : BL := if r.kind = 2 then putL11 l r.ix r.dt else if r.kind = 3 then freeL l r.ix r.ct else l
def apAll (a : BL) (l : List Rc) : BL := l.foldl apR a
theorem apAll_snoc (a : BL) (l : List Rc) (r : Rc) : apAll a (l ++ [r]) = apR (apAll a l) r := by simp [apAll]
theorem putE_okS (l : BL) (h : OkP l) (i : Int) (d : List UInt8) (hi : 0 ≤ i ∧ i < 1024) (hd : d.length = 16) : putE l i d = 0 := by
  unfold putE
  rw [if_pos (okL_of l h), if_pos hi, if_pos hd]
theorem freeE_okS (l : BL) (h : OkP l) (i c : Int) (hi : 0 ≤ i ∧ i < 1024 ∧ 1 ≤ c ∧ c ≤ 1024 - i) : freeE l i c = 0 := by
  unfold freeE
  rw [if_pos (okL_of l h), if_pos hi]
theorem apR_ok (l : BL) (h : OkP l) (r : Rc) (hE : recE r = 0) : OkP (apR l r) := by
  obtain ⟨hk, hm⟩ := recE_kind r hE
  unfold apR
  rcases hk with k | k | k | k
  · rw [if_neg (by omega), if_neg (by omega)]; exact h
  · have := mayB_2 r k hm
    rw [if_pos k]; exact ok_put l h _ _ this.1 this.2.1
  · rw [if_neg (by omega), if_pos k]; exact ok_free l h _ _
  · rw [if_neg (by omega), if_neg (by omega)]; exact h
theorem apAll_ok (l : List Rc) : ∀ a : BL, OkP a → (∀ r ∈ l, recE r = 0) → OkP (apAll a l) := by
  induction l with
  | nil => intro a h _; exact h
  | cons r l ih => intro a h hr; exact ih (apR a r) (apR_ok a h r (hr r (by simp))) (fun x hx => hr x (by simp [hx]))
set_option maxRecDepth 100000 in
set_option maxHeartbeats 8000000 in
theorem apply_any (a : BL) (ha : okL a = true) (n : Nat) (hna : n = a.length) (A : Option Addr) (c : Nat) (l : List RcR) (m : Nat) (hml : m = l.length) (A2 : Option Addr) (c2 : Nat) (w : World) (hra : Reads w w.heap.size 2 A n (bcells a)) (hrl : Reads w w.heap.size 12 A2 m (cellsK RcR.cs l)) (hm : m ≤ 100000)
    (hrd : ∀ x ∈ l, x.rd w w.heap.size) (hre : ∀ x ∈ l, recE x.r = 0) :
    Calls Try.prog 14 #[.slice A n c, .slice A2 m c2] w fun e w' => ∃ (A' : Option Addr) (k c' : Nat), e = .returned (.tuple #[.slice A' k c', .int .i64 0]) ∧ k = (apAll a (l.map RcR.r)).length ∧ Reads w' w'.heap.size 2 A' k (bcells (apAll a (l.map RcR.r))) ∧ Below w.heap.size w w' := by
  have hn1 := okL_small a ha
  have hck := checkBk_any a n hna A c w w.heap.size hra (Nat.le_refl _) (by omega)
  have hE : okE a = 0 := by unfold okE; rw [if_pos ha]
  rw [hE] at hck
  have HCK := Lib.hid hck
  have HN := Lib.hid hna
  have HM := Lib.hid hml
  have HRA := Lib.hid hra
  have HRL := Lib.hid hrl
  have HRD := Lib.hid hrd
  have HRE := Lib.hid hre
  have HOK := Lib.hid (OkP.of a ha)
  have hn2 : n ≤ 1024 := by omega
  have hvl : Hid (∀ x ∈ l, x.n ≤ 5000000000000 ∧ ∀ y ∈ x.r.own, y.2.length ≤ 140737488351232) := by
    intro x hx
    have h1 := hre x hx
    refine ⟨?_, fun y hy => ?_⟩
    · have h2 := own_small x.r (recE_kind x.r h1).1 (recE_kind x.r h1).2
      have h3 := (hrd x hx).1
      omega
    · obtain ⟨hk, hmb⟩ := recE_kind x.r h1
      rcases hk with hk | hk | hk | hk
      · have := (propsB_small _ (mayB_1 x.r hk hmb).2.2.2.1).2 y hy; omega
      · rw [(mayB_2 x.r hk hmb).2.2.2.2.2.1] at hy; cases hy
      · rw [(mayB_3 x.r hk hmb).2.2.2.2.2.1] at hy; cases hy
      · rw [(mayB_4 x.r hk hmb).2.2.2.1] at hy; cases hy
  clear hck hE hna hml hra hrl hrd hre hn1 ha
  go_enter Try.func14, Try.ntmps14
  go_wp2_with fail
  refine HCK.out.mono ?_
  clear HCK
  rintro e w1 ⟨rfl, hb1⟩
  have HB1 := Lib.hid hb1
  clear hb1
  go_wp2_with fail
  go_loopw [20] (fun i wr => ∃ k : Nat, k ≤ m ∧ i = .int .i64 (k : Int) ∧ Hid (Below w.heap.size w wr)) (fun i _ => m - (intOf i).toNat)
  case atStart => exact ⟨0, Nat.zero_le _, rfl, HB1.out⟩
  case round =>
    clear HB1
    obtain ⟨k, hk, rfl, HB⟩ := hrel
    by_cases hlt : k < m
    · obtain ⟨ad, rfl, hadB, hel⟩ := Reads.elAll (enc := RcR.cs) (k := 12) RcR.cs_len (HRL.out.below HB.out) HM.out hlt
      have hkl : k < l.length := by have := HM.out; omega
      have HX := Lib.hid (HRD.out _ (List.getElem_mem hkl))
      have HXE := Lib.hid (HRE.out _ (List.getElem_mem hkl))
      have HXV := Lib.hid (hvl.out _ (List.getElem_mem hkl))
      have hki : (k : Int) < (m : Int) := by omega
      obtain ⟨x, hx⟩ : ∃ x, x = l[k]'hkl := ⟨_, rfl⟩
      rw [← hx] at hel HX HXE HXV
      clear hx
      obtain ⟨r, A1, n1, c1⟩ := x
      obtain ⟨cs, hcs⟩ : ∃ cs, cs = RcR.cs ⟨r, A1, n1, c1⟩ := ⟨_, rfl⟩
      have hcl : cs.length = 12 := by rw [hcs]; rfl
      have hc1 : ∀ u ∈ cs, u.oneCell' = true := by rw [hcs]; exact RcR.cs_one _
      have HCA : Hid (Value.agg cs.toArray = rcV r (.slice A1 n1 c1)) := by show _ = _; rw [hcs]; rfl
      rw [← hcs] at hel
      clear hcs
      have HEL := Lib.hid hel
      obtain ⟨W1, hW1⟩ : ∃ W, W = wr.alloc (.cells cs.toArray 47) := ⟨_, rfl⟩
      have hL := new_cells wr 47 cs
      have hb1 : Below wr.heap.size wr (wr.alloc (.cells cs.toArray 47)) := (Below.refl _ _).alloc (Nat.le_refl _) _
      rw [← hW1] at hL hb1
      have HL := Lib.hid hL
      have HB1 := Lib.hid (HB.out.trans (hb1.mono HB.out.size))
      have hck := rcheck_any r n1 HX.out.1 A1 c1 W1 w.heap.size HB1.out.size (HX.out.2.below HB1.out) HXV.out.1 HXV.out.2
      rw [HXE.out] at hck
      have HCK := Lib.hid hck
      clear hel hL hb1 hadB HB hck
      go_wp2_with (first | (refine wpList_load_at rfl 47 (.tmp 22) rfl (ad.add (k * 12)) rfl cs _ HEL.out Try.underlying47 rfl (by rw [hcl]; kernel_rfl) ?_) | (refine wpList_store_new wr rfl 47 (.tmp 8) (.tmp 23) rfl 47 _ cs rfl rfl (by rw [hcl]; rfl) (by rw [hcl]; kernel_rfl) hc1 ?_; rw [← hW1]; clear hW1) | (refine wpList_load_at rfl 47 (.tmp 8) rfl ⟨wr.heap.size, 0, none⟩ rfl cs _ HL.out Try.underlying47 rfl (by rw [hcl]; kernel_rfl) ?_))
      rw [HCA.out]
      refine HCK.out.mono ?_
      clear HCK HEL HL hcl hc1
      rintro e w2 ⟨rfl, hb2⟩
      have HB2 := Lib.hid (HB1.out.trans (hb2.mono HB1.out.size))
      clear hb2 HB1 HX HXE HXV
      go_wp2_with fail
      go_roundw
      case rel => exact ⟨k + 1, by omega, by go_num, HB2.out⟩
      case measure => simp [intOf]; omega
    · obtain rfl : k = m := by omega
      have HCL := Lib.hid (cloneB_any (bcells a) n A c wr w.heap.size (HRA.out.below HB.out) HB.out.size (bcells_one a) (by omega))
      go_wp2_with fail
      refine HCL.out.mono ?_
      clear HCL
      rintro e w2 ⟨v, rfl, hown, hb2⟩
      obtain ⟨A4, c4, rfl, _, _, hr4⟩ := own_form hown
      have HR4 := Lib.hid hr4
      have HB2 := Lib.hid (HB.out.trans (hb2.mono HB.out.size))
      clear hown hb2 hr4 HB
      go_wp2_with fail
      go_loopw [10, 34] (fun u i wr => ∃ (j : Nat) (A5 : Option Addr) (n5 c5 : Nat), j ≤ k ∧ i = .int .i64 (j : Int) ∧ u = .slice A5 n5 c5 ∧ Hid (n5 = (apAll a ((l.take j).map RcR.r)).length) ∧ Hid (Reads wr wr.heap.size 2 A5 n5 (bcells (apAll a ((l.take j).map RcR.r)))) ∧ Hid (Below w.heap.size w wr)) (fun _ i _ => k - (intOf i).toNat)
      case atStart => exact ⟨0, A4, n, c4, Nat.zero_le _, rfl, rfl, HN.out, HR4.out, HB2.out⟩
      case round =>
        clear HR4 HB2
        obtain ⟨j, A5, n5, c5, hj, rfl, rfl, HN5, HR5, HB⟩ := hrel
        have hop : OkP (apAll a ((l.take j).map RcR.r)) := apAll_ok _ a HOK.out (fun r hr => by
          obtain ⟨x, hx, rfl⟩ := List.mem_map.1 hr
          exact HRE.out x (List.mem_of_mem_take hx))
        by_cases hlt : j < k
        · obtain ⟨ad, rfl, hadB, hel⟩ := Reads.elAll (enc := RcR.cs) (k := 12) RcR.cs_len (HRL.out.below HB.out) HM.out hlt
          have hkl : j < l.length := by have := HM.out; omega
          have HTK := Lib.hid (take_map_snoc l j hkl)
          have HXE := Lib.hid (HRE.out _ (List.getElem_mem hkl))
          have hki : (j : Int) < (k : Int) := by omega
          obtain ⟨x, hx⟩ : ∃ x, x = l[j]'hkl := ⟨_, rfl⟩
          rw [← hx] at hel HTK HXE
          clear hx
          obtain ⟨r, A1, n1, c1⟩ := x
          simp only at HTK HXE
          obtain ⟨cur, hcur⟩ : ∃ z, z = apAll a ((l.take j).map RcR.r) := ⟨_, rfl⟩
          rw [← hcur] at hop HN5 HR5
          have HAP : Hid (apAll a ((l.take (j + 1)).map RcR.r) = apR cur r) := by show _ = _; rw [HTK.out, apAll_snoc, hcur]
          clear hcur
          obtain ⟨hkk, hmb⟩ := recE_kind r HXE.out
          have hn5 : n5 ≤ 1024 := by rw [HN5.out]; exact okL_small cur (okL_of cur hop)
          obtain ⟨cs, hcs⟩ : ∃ cs, cs = RcR.cs ⟨r, A1, n1, c1⟩ := ⟨_, rfl⟩
          have hcl : cs.length = 12 := by rw [hcs]; rfl
          have hc1 : ∀ u ∈ cs, u.oneCell' = true := by rw [hcs]; exact RcR.cs_one _
          obtain ⟨W1, hW1⟩ : ∃ W, W = wr.alloc (.cells cs.toArray 47) := ⟨_, rfl⟩
          have hb1 : Below wr.heap.size wr (wr.alloc (.cells cs.toArray 47)) := (Below.refl _ _).alloc (Nat.le_refl _) _
          have hbk : Blk (wr.alloc (.cells cs.toArray 47)) wr.heap.size 47 cs.toArray := Blk.new _ _ _
          rw [← hW1] at hb1 hbk
          have d0 := hbk.cell 0
          have d5 := hbk.cell 5
          have d6 := hbk.cell 6
          have d7 := hbk.cell 7
          have t0 : cs.toArray[0]? = some (.int .i64 r.kind) := by rw [hcs]; rfl
          have t5 : cs.toArray[5]? = some (.int .i64 r.ix) := by rw [hcs]; rfl
          have t6 : cs.toArray[6]? = some (.int .i64 r.ct) := by rw [hcs]; rfl
          have t7 : cs.toArray[7]? = some (.string ⟨r.dt.toArray⟩) := by rw [hcs]; rfl
          rw [t0] at d0
          rw [t5] at d5
          rw [t6] at d6
          rw [t7] at d7
          rw [← hcs] at hel
          have HEL := Lib.hid hel
          have HB1 := Lib.hid (HB.out.trans (hb1.mono HB.out.size))
          have HR51 : Hid (Reads W1 W1.heap.size 2 A5 n5 (bcells cur)) := (HR5.out.below hb1).more hb1.size
          have HOP := Lib.hid hop
          have HMB := Lib.hid hmb
          obtain ⟨kd, hkd⟩ : ∃ z, z = r.kind := ⟨_, rfl⟩
          rw [← hkd] at d0 hkk
          have HKD := Lib.hid hkd
          clear t0 t5 t6 t7 hcs hel hb1 hbk hadB HB HR5 hop hmb hkd
          rcases hkk with rfl | rfl | rfl | rfl
          · go_wp2_with (first | (refine wpList_load_at rfl 47 (.tmp 36) rfl (ad.add (j * 12)) rfl cs _ HEL.out Try.underlying47 rfl (by rw [hcl]; kernel_rfl) ?_) | (refine wpList_store_new wr rfl 47 (.tmp 12) (.tmp 37) rfl 47 _ cs rfl rfl (by rw [hcl]; rfl) (by rw [hcl]; kernel_rfl) hc1 ?_; rw [← hW1]; clear hW1))
            have hap : apR cur r = cur := by unfold apR; rw [if_neg (by have := HKD.out; omega), if_neg (by have := HKD.out; omega)]
            go_roundw
            case rel => exact ⟨j + 1, A5, n5, c5, by omega, by go_num, rfl, (show _ = _ by rw [HAP.out, hap]; exact HN5.out), (show Reads _ _ _ _ _ _ by rw [HAP.out, hap]; exact HR51.out), HB1.out⟩
            case measure => simp [intOf]; omega
          · have hmk := mayB_2 r HKD.out.symm HMB.out
            have hpu := bkPut_any cur n5 HN5.out A5 c5 r.ix r.dt W1 W1.heap.size HR51.out (Nat.le_refl _) (by omega)
            unfold PutPost at hpu
            rw [putE_okS cur HOP.out r.ix r.dt hmk.1 hmk.2.1] at hpu
            have HPU := Lib.hid hpu
            clear hmk hpu
            go_wp2_with (first | (refine wpList_load_at rfl 47 (.tmp 36) rfl (ad.add (j * 12)) rfl cs _ HEL.out Try.underlying47 rfl (by rw [hcl]; kernel_rfl) ?_) | (refine wpList_store_new wr rfl 47 (.tmp 12) (.tmp 37) rfl 47 _ cs rfl rfl (by rw [hcl]; rfl) (by rw [hcl]; kernel_rfl) hc1 ?_; rw [← hW1]; clear hW1))
            refine HPU.out.mono ?_
            clear HPU d0 d5 d6 d7
            rintro e w6 ⟨v, rfl, hv, hb6⟩
            simp only [↓reduceIte] at hv
            obtain ⟨A7, c7, rfl, _, _, hr7⟩ := own_form hv
            have HR7 := Lib.hid hr7
            have HB6 := Lib.hid (HB1.out.trans (hb6.mono HB1.out.size))
            have hap : Hid (apR cur r = putL11 cur r.ix r.dt) := by show _ = _; unfold apR; rw [if_pos HKD.out.symm]
            obtain ⟨P, hP⟩ : ∃ z, z = putL11 cur r.ix r.dt := ⟨_, rfl⟩
            rw [← hP] at HR7 hap ⊢
            clear hv hb6 hr7 hP
            go_wp2_with fail
            go_roundw
            case rel => exact ⟨j + 1, A7, P.length, c7, by omega, by go_num, rfl, (show _ = _ by rw [HAP.out, hap.out]), (show Reads _ _ _ _ _ _ by rw [HAP.out, hap.out]; exact HR7.out), HB6.out⟩
            case measure => simp [intOf]; omega
          · have hmk := mayB_3 r HKD.out.symm HMB.out
            have hfe := freeE_okS cur HOP.out r.ix r.ct (by have := hmk.1; have := hmk.2.1; omega)
            have hpu := bkFree_any cur n5 HN5.out A5 c5 r.ix r.ct W1 W1.heap.size HR51.out (Nat.le_refl _) (by omega)
            unfold FreePost freeR at hpu
            rw [hfe] at hpu
            simp only [↓reduceIte] at hpu
            have HPU := Lib.hid hpu
            clear hmk hpu hfe
            go_wp2_with (first | (refine wpList_load_at rfl 47 (.tmp 36) rfl (ad.add (j * 12)) rfl cs _ HEL.out Try.underlying47 rfl (by rw [hcl]; kernel_rfl) ?_) | (refine wpList_store_new wr rfl 47 (.tmp 12) (.tmp 37) rfl 47 _ cs rfl rfl (by rw [hcl]; rfl) (by rw [hcl]; kernel_rfl) hc1 ?_; rw [← hW1]; clear hW1))
            refine HPU.out.mono ?_
            clear HPU d0 d5 d6 d7
            rintro e w6 ⟨v, rfl, hv, hb6⟩
            obtain ⟨A7, c7, rfl, _, _, hr7⟩ := own_form hv
            have HR7 := Lib.hid hr7
            have HB6 := Lib.hid (HB1.out.trans (hb6.mono HB1.out.size))
            have hap : Hid (apR cur r = freeL cur r.ix r.ct) := by show _ = _; unfold apR; rw [if_neg (by have := HKD.out; omega), if_pos HKD.out.symm]
            obtain ⟨P, hP⟩ : ∃ z, z = freeL cur r.ix r.ct := ⟨_, rfl⟩
            rw [← hP] at HR7 hap ⊢
            clear hv hb6 hr7 hP
            go_wp2_with fail
            go_roundw
            case rel => exact ⟨j + 1, A7, P.length, c7, by omega, by go_num, rfl, (show _ = _ by rw [HAP.out, hap.out]), (show Reads _ _ _ _ _ _ by rw [HAP.out, hap.out]; exact HR7.out), HB6.out⟩
            case measure => simp [intOf]; omega
          · go_wp2_with (first | (refine wpList_load_at rfl 47 (.tmp 36) rfl (ad.add (j * 12)) rfl cs _ HEL.out Try.underlying47 rfl (by rw [hcl]; kernel_rfl) ?_) | (refine wpList_store_new wr rfl 47 (.tmp 12) (.tmp 37) rfl 47 _ cs rfl rfl (by rw [hcl]; rfl) (by rw [hcl]; kernel_rfl) hc1 ?_; rw [← hW1]; clear hW1))
            have hap : apR cur r = cur := by unfold apR; rw [if_neg (by have := HKD.out; omega), if_neg (by have := HKD.out; omega)]
            go_roundw
            case rel => exact ⟨j + 1, A5, n5, c5, by omega, by go_num, rfl, (show _ = _ by rw [HAP.out, hap]; exact HN5.out), (show Reads _ _ _ _ _ _ by rw [HAP.out, hap]; exact HR51.out), HB1.out⟩
            case measure => simp [intOf]; omega
        · obtain rfl : j = k := by omega
          have htl : (l.take j).map RcR.r = l.map RcR.r := by rw [HM.out, List.take_length]
          rw [htl] at HN5 HR5
          clear htl hop
          go_wp2_with fail
          go_ret2
          exact ⟨A5, n5, c5, rfl, HN5.out, HR5.out, HB.out⟩
end Go.Proofs.Ytcbeadldieeceaa
