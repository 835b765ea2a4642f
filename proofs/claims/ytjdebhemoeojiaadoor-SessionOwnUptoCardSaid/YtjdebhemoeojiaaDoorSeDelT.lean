/-
  slices.Delete of one element, at elements of 5 cells, by its contract.
-/
import Derived.Test.YtjdebhemoeojiaaDoorAppendK
import Derived.Test.YtjdebhemoeojiaaDoorRows
import Derived.Handy
import Derived.Lib.Hide
import Derived.Deep.RegionLaw
namespace Go.Proofs.YtjdebhemoeojiaaDoor
open Go.RowKit

theorem Tryd.delT_size : (Tryd.prog.info? 33).map (·.size) = some 5 := by kernel_rfl
theorem Tryd.delT_zero (w : World) : (zeroValue 33).run Tryd.prog w = .ok (.agg #[.string ByteArray.empty, .int .i64 0, .string ByteArray.empty, .slice none 0 0, .bool false]) w := by kernel_rfl
theorem delT_splice (cur : List Value) (n i c0 : Nat) (xs : List Value) (hx : cur.take (n * 5) = xs) (hi : i < n) (hn : n ≤ c0) (hl : cur.length = c0 * 5) (zs : List Value) (hz : zs.length = 1 * 5) :
    (splice (splice cur (i * 5) (xs.drop ((i + 1) * 5))) ((n - 1) * 5) zs).take ((n - 1) * 5) = xs.take (i * 5) ++ xs.drop ((i + 1) * 5) ∧ (splice (splice cur (i * 5) (xs.drop ((i + 1) * 5))) ((n - 1) * 5) zs).length = c0 * 5 := by
  have hxl : xs.length = n * 5 := by rw [← hx, List.length_take]; omega
  have hdl : (xs.drop ((i + 1) * 5)).length = (n - 1 - i) * 5 := by rw [List.length_drop, hxl]; omega
  have h1 : (splice cur (i * 5) (xs.drop ((i + 1) * 5))).length = c0 * 5 := by
    unfold splice
    simp only [List.length_append, List.length_take, List.length_drop] at hdl ⊢
    omega
  refine ⟨?_, ?_⟩
  · have e1 : (splice (splice cur (i * 5) (xs.drop ((i + 1) * 5))) ((n - 1) * 5) zs).take ((n - 1) * 5) = (splice cur (i * 5) (xs.drop ((i + 1) * 5))).take ((n - 1) * 5) := by
      show List.take _ (List.take _ (splice cur (i * 5) (xs.drop ((i + 1) * 5))) ++ (zs ++ _)) = _
      rw [List.take_append_of_le_length (by rw [List.length_take, h1]; omega), List.take_take, Nat.min_self]
    rw [e1]
    have hc : cur.take (i * 5) = xs.take (i * 5) := by rw [← hx, List.take_take, Nat.min_eq_left (by omega)]
    have hL : (xs.take (i * 5) ++ xs.drop ((i + 1) * 5)).length = (n - 1) * 5 := by rw [List.length_append, List.length_take, hdl, hxl]; omega
    show List.take _ (cur.take (i * 5) ++ (xs.drop ((i + 1) * 5) ++ _)) = _
    rw [hc, ← List.append_assoc, List.take_append_of_le_length (by rw [hL]; exact Nat.le_refl _)]
    exact List.take_of_length_le (by rw [hL]; exact Nat.le_refl _)
  · show (List.take _ (splice cur (i * 5) (xs.drop ((i + 1) * 5))) ++ (zs ++ List.drop _ _)).length = _
    rw [List.length_append, List.length_append, List.length_take, List.length_drop, h1, hz]
    omega
set_option maxRecDepth 100000 in
set_option maxHeartbeats 1000000 in
theorem delT_any (xs : List Value) (h1 : ∀ u ∈ xs, u.oneCell' = true) (n i c0 base : Nat) (A0 : Option Addr) (w : World) (hi : i < n) (hn : n ≤ 5000000000000) (hown : w.ownsRow base 33 5 (.slice A0 n c0) n xs) :
    Calls Tryd.prog 46 #[.slice A0 n c0, .int .i64 i, .int .i64 ((i : Int) + 1)] w fun e w' => ∃ v, e = .returned v ∧ w'.ownsRow base 33 5 v (n - 1) (xs.take (i * 5) ++ xs.drop ((i + 1) * 5)) ∧ w.grownBy w' (Value.slice A0 n c0).ownBlock := by
  rcases hown.2 with ⟨_, h0⟩ | ⟨g, cap, cur, hs, hbg, hh, hnc, hcm, hsz, hx⟩
  · omega
  injection hs with e1 _ e2
  subst e1 e2
  have hh' : w.heap[g]? = some (.cells cur.toList.toArray 33 (0, 0)) := by simpa using hh
  have hcl : cur.toList.length = c0 * 5 := by simpa using hsz
  obtain ⟨cl, hcl0⟩ : ∃ cl, cl = cur.toList := ⟨_, rfl⟩
  rw [← hcl0] at hh' hcl hx
  have hxl : xs.length = n * 5 := hown.1
  have hdl : (xs.drop ((i + 1) * 5)).length = (n - 1 - i) * 5 := by rw [List.length_drop, hxl]; omega
  have hcells : ∀ (w' : World), w'.heap[g]? = w.heap[g]? → ∀ j v, (xs.drop ((i + 1) * 5))[j]? = some v → w'.cell? ((⟨g, (i + 1) * 5, none⟩ : Addr).add j) = some v := by
    intro w' hw j v hv
    have hv2 : cl[(i + 1) * 5 + j]? = some v := by
      rw [List.getElem?_drop, ← hx] at hv
      obtain ⟨hlt, _⟩ := List.getElem?_eq_some_iff.1 hv
      rw [List.length_take] at hlt
      rwa [List.getElem?_take_of_lt (by omega)] at hv
    have had : (⟨g, (i + 1) * 5, none⟩ : Addr).add j = ⟨g, (i + 1) * 5 + j, none⟩ := by unfold Addr.add; split <;> simp_all
    rw [had, cell_of_row w' g _ _ _ _ (hw.trans hh')]
    simpa using hv2
  have hni : (i : Int) + 1 ≤ (n : Int) := by omega
  have hin : (i : Int) ≤ (n : Int) := by omega
  have hnci : (n : Int) ≤ (c0 : Int) := by omega
  have hcmi : c0 ≤ 9223372036854775807 := by unfold maxLen at hcm; omega
  have hne : (((i : Int)) == (i : Int) + 1) = false := by rw [beq_eq_false_iff_ne]; omega
  have ht1 : ((i : Int) + 1).toNat = i + 1 := by omega
  have hsub : n - (i + 1) = n - 1 - i := by omega
  have hi1c : (i : Int) + 1 ≤ (c0 : Int) := by omega
  have hic : (i : Int) ≤ (c0 : Int) := by omega
  have hi0 : (0 : Int) ≤ (i : Int) + 1 := by omega
  have HC := Lib.hid hcells
  have HH := Lib.hid hh'
  have HDL := Lib.hid hdl
  have HXL := Lib.hid hxl
  have HCL := Lib.hid hcl
  have HX := Lib.hid hx
  have H1 := Lib.hid (fun u hu => h1 u (List.mem_of_mem_drop (i := (i + 1) * 5) hu))
  have HSP := Lib.hid (fun zs hz => delT_splice cl n i c0 xs hx hi hnc hcl zs hz)
  have hgl : g < w.heap.size := heap_lt hh'
  clear hcells hh' hdl hxl hcl hx h1 hown hh hsz hcl0
  go_enter Tryd.func46, Tryd.ntmps46
  go_wp2_with fail
  by_cases hlast : c0 = i + 1
  · have hnl : n = i + 1 := by omega
    subst hlast
    subst hnl
    have hic2 : (i : Int) ≤ (i : Int) + 1 := by omega
    have hnil : xs.drop ((i + 1) * 5) = [] := List.drop_eq_nil_of_le (by rw [HXL.out]; exact Nat.le_refl _)
    have HNIL := Lib.hid hnil
    clear hnil
    go_region_law (refine step_appendK rfl _ _ 22 rfl 33 5 Tryd.underlying22 Tryd.delT_size g i (i + 1) ⟨g, 0, none⟩ 0 0 (by simp [Act.eval, Act.put]) (by simp [Act.eval, Act.put]) cl 33 HH.out [] (by simp) (by simp) (by rw [HCL.out]; simp; omega) (by omega) (by simp) ?_; intro w1 hg1 hgr1)
    have hgr := grown_drew hgr1
    have HGR := Lib.hid hgr
    have HG1 := hg1
    have hz1 : ∀ u ∈ (.agg #[.string ByteArray.empty, .int .i64 0, .string ByteArray.empty, .slice none 0 0, .bool false] : Value).cells.toList, u.oneCell' = true := fun u hu => List.all_eq_true.1 (show ((.agg #[.string ByteArray.empty, .int .i64 0, .string ByteArray.empty, .slice none 0 0, .bool false] : Value).cells.toList.all (·.oneCell')) = true from rfl) u hu
    clear hg1 hgr1 hgr
    simp only [Act.put, List.setIfInBounds_toArray]
    go_wp2_with (with_reducible refine wpList_clearK rfl (.tmp 31) 22 rfl 33 (.agg #[.string ByteArray.empty, .int .i64 0, .string ByteArray.empty, .slice none 0 0, .bool false]) Tryd.underlying22 Tryd.delT_zero hz1 g (i * 5) 1 1 (by simp [Act.eval]) (splice cl (i * 5) ([])) 33 HG1.out (by simp [splice, Value.cells, HCL.out]; omega) ?_; intro w2 zs hzs hg2 hgr2)
    have hzz : zs.length = 1 * 5 := by rw [hzs]; rfl
    have hsp := HSP.out zs hzz
    rw [HNIL.out, Nat.add_sub_cancel] at hsp
    have hrow := own_of_row (base := base) hg2.out hbg (Nat.le_succ i) hcm hsp.2 hsp.1
    have hgr := HGR.out.trans hgr2
    have HROW := Lib.hid hrow
    clear hrow hsp hg2 hgr2 hzs hzz
    go_ret
    exact ⟨_, rfl, by rw [HNIL.out]; exact HROW.out, hgr⟩
  · have hlt2 : i + 1 < c0 := by omega
    obtain ⟨p, hp⟩ : ∃ p, p = n - 1 := ⟨_, rfl⟩
    have hip : i + (n - 1 - i) = p := by omega
    have hnp1 : n - p = 1 := by omega
    have hpn : (p : Int) ≤ (n : Int) := by omega
    have hpc : (p : Int) ≤ (c0 : Int) := by omega
    have hcp : ¬ c0 = p := by omega
    have HIP := Lib.hid hip
    have HP := Lib.hid hp
    clear hip hp
    go_region_law (refine step_appendK rfl _ _ 22 rfl 33 5 Tryd.underlying22 Tryd.delT_size g i c0 ⟨g, (i + 1) * 5, none⟩ (n - 1 - i) (c0 - (i + 1)) (by simp [Act.eval, Act.put]) (by simp [Act.eval, Act.put]) cl 33 HH.out (xs.drop ((i + 1) * 5)) HDL.out (HC.out _ rfl) (by rw [HDL.out, HCL.out]; omega) (by omega) H1.out ?_; intro w1 hg1 hgr1)
    have hgr := grown_drew hgr1
    have HGR := Lib.hid hgr
    have HG1 := hg1
    have hz1 : ∀ u ∈ (.agg #[.string ByteArray.empty, .int .i64 0, .string ByteArray.empty, .slice none 0 0, .bool false] : Value).cells.toList, u.oneCell' = true := fun u hu => List.all_eq_true.1 (show ((.agg #[.string ByteArray.empty, .int .i64 0, .string ByteArray.empty, .slice none 0 0, .bool false] : Value).cells.toList.all (·.oneCell')) = true from rfl) u hu
    clear hg1 hgr1 hgr
    simp only [Act.put, List.setIfInBounds_toArray]
    rw [HIP.out]
    go_wp2_with (with_reducible refine wpList_clearK rfl (.tmp 31) 22 rfl 33 (.agg #[.string ByteArray.empty, .int .i64 0, .string ByteArray.empty, .slice none 0 0, .bool false]) Tryd.underlying22 Tryd.delT_zero hz1 g (p * 5) 1 (c0 - p) (by simp [Act.eval]) (splice cl (i * 5) (xs.drop ((i + 1) * 5))) 33 HG1.out (by have h2 := (HSP.out (.agg #[.string ByteArray.empty, .int .i64 0, .string ByteArray.empty, .slice none 0 0, .bool false] : Value).cells.toList rfl).2; have h3 := HDL.out; have h4 := HCL.out; have h5 := HP.out; unfold splice; simp only [List.length_append, List.length_take, List.length_drop] at h3 ⊢; simp [Value.cells]; omega) ?_; intro w2 zs hzs hg2 hgr2)
    have hzz : zs.length = 1 * 5 := by rw [hzs]; rfl
    have hsp := HSP.out zs hzz
    rw [← HP.out] at hsp
    have hrow := own_of_row (base := base) hg2.out hbg (by have := HP.out; omega) hcm hsp.2 hsp.1
    have hgr := HGR.out.trans hgr2
    have HROW := Lib.hid hrow
    clear hrow hsp hg2 hgr2 hzs hzz
    go_ret
    exact ⟨_, rfl, by rw [← HP.out]; exact HROW.out, hgr⟩
end Go.Proofs.YtjdebhemoeojiaaDoor
