/-
  tree.Same at tenants of one content: it answers true.
  tree.sameSnap, sameSet, sameRecord, sameStage, Same at one content: they answer true.
-/
import Derived.Test.YtbppdlhbjddhjaaGreatDoorYSame
import Derived.Test.YtbppdlhbjddhjaaGreatDoorYEach
namespace Go.Proofs.YtbppdlhbjddhjaaGreatDoor
open Go.RowKit

set_option maxRecDepth 100000 in
set_option maxHeartbeats 1000000 in
theorem eqlS_any (l : List BS) (n : Nat) (hnl : n = l.length) (A A' : Option Addr) (c c' : Nat) (w : World) (B : Nat) (hr : Reads w B 1 A n (cellsK encS l)) (hr' : Reads w B 1 A' n (cellsK encS l)) (hn : n ≤ 1000000000000) :
    Calls Tryz.prog 140 #[.slice A n c, .slice A' n c'] w fun e w' => e = .returned (.bool true) ∧ Below w.heap.size w w' := by
  have HN := Lib.hid hnl
  clear hnl
  go_enter Tryz.func140, Tryz.ntmps140
  go_wp2_with fail
  go_loopw [13] (fun j wr => ∃ k : Nat, k ≤ n ∧ j = .int .i64 (k : Int) ∧ ∃ q, wr = w.drewN q) (fun j _ => n - (intOf j).toNat)
  case atStart => exact ⟨0, Nat.zero_le _, rfl, 0, rfl⟩
  case round =>
    obtain ⟨k, hk, rfl, q, rfl⟩ := hrel
    by_cases hlt : k < n
    · have hki : (k : Int) < (n : Int) := by omega
      obtain ⟨ad, rfl, -, hel⟩ := Reads.elAll (enc := encS) (k := 1) (fun _ => rfl) hr HN.out hlt
      obtain ⟨ad2, rfl, -, hel2⟩ := Reads.elAll (enc := encS) (k := 1) (fun _ => rfl) hr' HN.out hlt
      obtain ⟨x, hx⟩ : ∃ x, x = l[k]'(by have := HN.out; omega) := ⟨_, rfl⟩
      rw [← hx] at hel hel2
      obtain ⟨xs, hxs⟩ : ∃ xs, xs = x := ⟨x, rfl⟩
      subst hxs
      have c0 : w.cell? (ad.add (k * 1)) = some (.string ⟨xs.toArray⟩) := hel 0 _ rfl
      have d0 : w.cell? (ad2.add (k * 1)) = some (.string ⟨xs.toArray⟩) := hel2 0 _ rfl
      rw [Nat.mul_one] at c0 d0
      clear hx hr hr' hel hel2
      go_wp2_with fail
      go_region
      go_wp2_with fail
      go_roundw
      case rel => exact ⟨k + 1, by omega, by go_num, q + 1, rfl⟩
      case measure => simp [intOf]; omega
    · clear hr hr'
      go_wp2_with fail
      go_ret
      exact ⟨rfl, below_drewN (Below.refl _ _) q⟩
set_option maxRecDepth 100000 in
set_option maxHeartbeats 1000000 in
theorem eqlB_any (l : List BlkT) (n : Nat) (hnl : n = l.length) (A A' : Option Addr) (c c' : Nat) (w : World) (B : Nat) (hr : Reads w B 2 A n (cellsK encB l)) (hr' : Reads w B 2 A' n (cellsK encB l)) (hn : n ≤ 1000000000000) :
    Calls Tryz.prog 138 #[.slice A n c, .slice A' n c'] w fun e w' => e = .returned (.bool true) ∧ Below w.heap.size w w' := by
  have HN := Lib.hid hnl
  clear hnl
  go_enter Tryz.func138, Tryz.ntmps138
  go_wp2_with fail
  go_loopw [13] (fun j wr => ∃ k : Nat, k ≤ n ∧ j = .int .i64 (k : Int) ∧ ∃ q, wr = w.drewN q) (fun j _ => n - (intOf j).toNat)
  case atStart => exact ⟨0, Nat.zero_le _, rfl, 0, rfl⟩
  case round =>
    obtain ⟨k, hk, rfl, q, rfl⟩ := hrel
    by_cases hlt : k < n
    · have hki : (k : Int) < (n : Int) := by omega
      obtain ⟨ad, rfl, -, hel⟩ := Reads.elAll (enc := encB) (k := 2) (fun _ => rfl) hr HN.out hlt
      obtain ⟨ad2, rfl, -, hel2⟩ := Reads.elAll (enc := encB) (k := 2) (fun _ => rfl) hr' HN.out hlt
      obtain ⟨x, hx⟩ : ∃ x, x = l[k]'(by have := HN.out; omega) := ⟨_, rfl⟩
      rw [← hx] at hel hel2
      obtain ⟨xi, xd⟩ := x
      have c0 : w.cell? (ad.add (k * 2)) = some (.int .i64 xi) := hel 0 _ rfl
      have d0 : w.cell? (ad2.add (k * 2)) = some (.int .i64 xi) := hel2 0 _ rfl
      have c1 : w.cell? ⟨(ad.add (k * 2)).block, (ad.add (k * 2)).off + 1, none⟩ = some (.string ⟨xd.toArray⟩) := hel 1 _ rfl
      have d1 : w.cell? ⟨(ad2.add (k * 2)).block, (ad2.add (k * 2)).off + 1, none⟩ = some (.string ⟨xd.toArray⟩) := hel2 1 _ rfl
      clear hx hr hr' hel hel2
      go_wp2_with fail
      go_region
      go_wp2_with fail
      go_roundw
      case rel => exact ⟨k + 1, by omega, by go_num, q + 1, rfl⟩
      case measure => simp [intOf]; omega
    · clear hr hr'
      go_wp2_with fail
      go_ret
      exact ⟨rfl, below_drewN (Below.refl _ _) q⟩
set_option maxRecDepth 100000 in
set_option maxHeartbeats 1000000 in
theorem eqlP_any (l : List (BS × BS)) (n : Nat) (hnl : n = l.length) (A A' : Option Addr) (c c' : Nat) (w : World) (B : Nat) (hr : Reads w B 2 A n (cellsK encP l)) (hr' : Reads w B 2 A' n (cellsK encP l)) (hn : n ≤ 1000000000000) :
    Calls Tryz.prog 139 #[.slice A n c, .slice A' n c'] w fun e w' => e = .returned (.bool true) ∧ Below w.heap.size w w' := by
  have HN := Lib.hid hnl
  clear hnl
  go_enter Tryz.func139, Tryz.ntmps139
  go_wp2_with fail
  go_loopw [13] (fun j wr => ∃ k : Nat, k ≤ n ∧ j = .int .i64 (k : Int) ∧ ∃ q, wr = w.drewN q) (fun j _ => n - (intOf j).toNat)
  case atStart => exact ⟨0, Nat.zero_le _, rfl, 0, rfl⟩
  case round =>
    obtain ⟨k, hk, rfl, q, rfl⟩ := hrel
    by_cases hlt : k < n
    · have hki : (k : Int) < (n : Int) := by omega
      obtain ⟨ad, rfl, -, hel⟩ := Reads.elAll (enc := encP) (k := 2) (fun _ => rfl) hr HN.out hlt
      obtain ⟨ad2, rfl, -, hel2⟩ := Reads.elAll (enc := encP) (k := 2) (fun _ => rfl) hr' HN.out hlt
      obtain ⟨x, hx⟩ : ∃ x, x = l[k]'(by have := HN.out; omega) := ⟨_, rfl⟩
      rw [← hx] at hel hel2
      obtain ⟨xi, xd⟩ := x
      have c0 : w.cell? (ad.add (k * 2)) = some (.string ⟨xi.toArray⟩) := hel 0 _ rfl
      have d0 : w.cell? (ad2.add (k * 2)) = some (.string ⟨xi.toArray⟩) := hel2 0 _ rfl
      have c1 : w.cell? ⟨(ad.add (k * 2)).block, (ad.add (k * 2)).off + 1, none⟩ = some (.string ⟨xd.toArray⟩) := hel 1 _ rfl
      have d1 : w.cell? ⟨(ad2.add (k * 2)).block, (ad2.add (k * 2)).off + 1, none⟩ = some (.string ⟨xd.toArray⟩) := hel2 1 _ rfl
      clear hx hr hr' hel hel2
      go_wp2_with fail
      go_region
      go_wp2_with fail
      go_roundw
      case rel => exact ⟨k + 1, by omega, by go_num, q + 1, rfl⟩
      case measure => simp [intOf]; omega
    · clear hr hr'
      go_wp2_with fail
      go_ret
      exact ⟨rfl, below_drewN (Below.refl _ _) q⟩
set_option maxRecDepth 100000 in
set_option maxHeartbeats 1000000 in
theorem eqlG_any (l : List GT) (n : Nat) (hnl : n = l.length) (A A' : Option Addr) (c c' : Nat) (w : World) (B : Nat) (hr : Reads w B 3 A n (cellsK encG l)) (hr' : Reads w B 3 A' n (cellsK encG l)) (hn : n ≤ 1000000000000) :
    Calls Tryz.prog 46 #[.slice A n c, .slice A' n c'] w fun e w' => e = .returned (.bool true) ∧ Below w.heap.size w w' := by
  have HN := Lib.hid hnl
  clear hnl
  go_enter Tryz.func46, Tryz.ntmps46
  go_wp2_with fail
  go_loopw [13] (fun j wr => ∃ k : Nat, k ≤ n ∧ j = .int .i64 (k : Int) ∧ ∃ q, wr = w.drewN q) (fun j _ => n - (intOf j).toNat)
  case atStart => exact ⟨0, Nat.zero_le _, rfl, 0, rfl⟩
  case round =>
    obtain ⟨k, hk, rfl, q, rfl⟩ := hrel
    by_cases hlt : k < n
    · have hki : (k : Int) < (n : Int) := by omega
      obtain ⟨ad, rfl, -, hel⟩ := Reads.elAll (enc := encG) (k := 3) (fun _ => rfl) hr HN.out hlt
      obtain ⟨ad2, rfl, -, hel2⟩ := Reads.elAll (enc := encG) (k := 3) (fun _ => rfl) hr' HN.out hlt
      obtain ⟨x, hx⟩ : ∃ x, x = l[k]'(by have := HN.out; omega) := ⟨_, rfl⟩
      rw [← hx] at hel hel2
      obtain ⟨xi, xd, xe⟩ := x
      have c0 : w.cell? (ad.add (k * 3)) = some (.string ⟨xi.toArray⟩) := hel 0 _ rfl
      have d0 : w.cell? (ad2.add (k * 3)) = some (.string ⟨xi.toArray⟩) := hel2 0 _ rfl
      have c1 : w.cell? ⟨(ad.add (k * 3)).block, (ad.add (k * 3)).off + 1, none⟩ = some (.string ⟨xd.toArray⟩) := hel 1 _ rfl
      have d1 : w.cell? ⟨(ad2.add (k * 3)).block, (ad2.add (k * 3)).off + 1, none⟩ = some (.string ⟨xd.toArray⟩) := hel2 1 _ rfl
      have c2 : w.cell? ⟨(ad.add (k * 3)).block, (ad.add (k * 3)).off + 2, none⟩ = some (.int .i64 xe) := hel 2 _ rfl
      have d2 : w.cell? ⟨(ad2.add (k * 3)).block, (ad2.add (k * 3)).off + 2, none⟩ = some (.int .i64 xe) := hel2 2 _ rfl
      clear hx hr hr' hel hel2
      go_wp2_with fail
      go_region
      go_wp2_with fail
      go_roundw
      case rel => exact ⟨k + 1, by omega, by go_num, q + 1, rfl⟩
      case measure => simp [intOf]; omega
    · clear hr hr'
      go_wp2_with fail
      go_ret
      exact ⟨rfl, below_drewN (Below.refl _ _) q⟩
set_option maxRecDepth 100000 in
set_option maxHeartbeats 1000000 in
theorem eqlE_any (l : List EntryR) (n : Nat) (hnl : n = l.length) (A A' : Option Addr) (c c' : Nat) (w : World) (B : Nat) (hr : Reads w B 4 A n (cellsK encEntry l)) (hr' : Reads w B 4 A' n (cellsK encEntry l)) (hn : n ≤ 1000000000000) :
    Calls Tryz.prog 49 #[.slice A n c, .slice A' n c'] w fun e w' => e = .returned (.bool true) ∧ Below w.heap.size w w' := by
  have HN := Lib.hid hnl
  clear hnl
  go_enter Tryz.func49, Tryz.ntmps49
  go_wp2_with fail
  go_loopw [13] (fun j wr => ∃ k : Nat, k ≤ n ∧ j = .int .i64 (k : Int) ∧ ∃ q, wr = w.drewN q) (fun j _ => n - (intOf j).toNat)
  case atStart => exact ⟨0, Nat.zero_le _, rfl, 0, rfl⟩
  case round =>
    obtain ⟨k, hk, rfl, q, rfl⟩ := hrel
    by_cases hlt : k < n
    · have hki : (k : Int) < (n : Int) := by omega
      obtain ⟨ad, rfl, -, hel⟩ := Reads.elAll (enc := encEntry) (k := 4) (fun _ => rfl) hr HN.out hlt
      obtain ⟨ad2, rfl, -, hel2⟩ := Reads.elAll (enc := encEntry) (k := 4) (fun _ => rfl) hr' HN.out hlt
      obtain ⟨x, hx⟩ : ∃ x, x = l[k]'(by have := HN.out; omega) := ⟨_, rfl⟩
      rw [← hx] at hel hel2
      obtain ⟨xi, xk, xd, xe⟩ := x
      have c0 : w.cell? (ad.add (k * 4)) = some (.string ⟨xi.toArray⟩) := hel 0 _ rfl
      have d0 : w.cell? (ad2.add (k * 4)) = some (.string ⟨xi.toArray⟩) := hel2 0 _ rfl
      have c1 : w.cell? ⟨(ad.add (k * 4)).block, (ad.add (k * 4)).off + 1, none⟩ = some (.int .i64 xk) := hel 1 _ rfl
      have d1 : w.cell? ⟨(ad2.add (k * 4)).block, (ad2.add (k * 4)).off + 1, none⟩ = some (.int .i64 xk) := hel2 1 _ rfl
      have c2 : w.cell? ⟨(ad.add (k * 4)).block, (ad.add (k * 4)).off + 2, none⟩ = some (.string ⟨xd.toArray⟩) := hel 2 _ rfl
      have d2 : w.cell? ⟨(ad2.add (k * 4)).block, (ad2.add (k * 4)).off + 2, none⟩ = some (.string ⟨xd.toArray⟩) := hel2 2 _ rfl
      have c3 : w.cell? ⟨(ad.add (k * 4)).block, (ad.add (k * 4)).off + 3, none⟩ = some (.int .i64 xe) := hel 3 _ rfl
      have d3 : w.cell? ⟨(ad2.add (k * 4)).block, (ad2.add (k * 4)).off + 3, none⟩ = some (.int .i64 xe) := hel2 3 _ rfl
      clear hx hr hr' hel hel2
      go_wp2_with fail
      go_region
      go_wp2_with fail
      go_roundw
      case rel => exact ⟨k + 1, by omega, by go_num, q + 1, rfl⟩
      case measure => simp [intOf]; omega
    · clear hr hr'
      go_wp2_with fail
      go_ret
      exact ⟨rfl, below_drewN (Below.refl _ _) q⟩
theorem bsameT_any (l : List BlkT) (n : Nat) (hnl : n = l.length) (A A' : Option Addr) (c c' : Nat) (w : World) (B : Nat) (hr : Reads w B 2 A n (cellsK encB l)) (hr' : Reads w B 2 A' n (cellsK encB l)) (hn : n ≤ 1000000000000) :
    Calls Tryz.prog 95 #[.slice A n c, .slice A' n c'] w fun e w' => e = .returned (.bool true) ∧ Below w.heap.size w w' := by
  have hc := eqlB_any l n hnl A A' c c' w B hr hr' hn
  clear hnl hr hr'
  go_enter Tryz.func95, Tryz.ntmps95
  go_wp2_with fail
  refine hc.mono ?_
  rintro e w1 ⟨rfl, hb⟩
  go_wp2_with fail
  go_ret
  exact ⟨rfl, hb⟩
theorem psameT_any (l : List (BS × BS)) (n : Nat) (hnl : n = l.length) (A A' : Option Addr) (c c' : Nat) (w : World) (B : Nat) (hr : Reads w B 2 A n (cellsK encP l)) (hr' : Reads w B 2 A' n (cellsK encP l)) (hn : n ≤ 1000000000000) :
    Calls Tryz.prog 96 #[.slice A n c, .slice A' n c'] w fun e w' => e = .returned (.bool true) ∧ Below w.heap.size w w' := by
  have hc := eqlP_any l n hnl A A' c c' w B hr hr' hn
  clear hnl hr hr'
  go_enter Tryz.func96, Tryz.ntmps96
  go_wp2_with fail
  refine hc.mono ?_
  rintro e w1 ⟨rfl, hb⟩
  go_wp2_with fail
  go_ret
  exact ⟨rfl, hb⟩
set_option maxRecDepth 100000 in
set_option maxHeartbeats 2000000 in
theorem eqfSnap_any (l l' : List SnapR) (n : Nat) (hnl : n = l.length) (hnl' : n = l'.length) (A A' : Option Addr) (c c' : Nat) (w : World) (B : Nat) (hB : B ≤ w.heap.size) (hr : Reads w B 5 A n (cellsK encSnap l)) (hr' : Reads w B 5 A' n (cellsK encSnap l')) (hn : n ≤ 1000000000000)
    (hC : ∀ i (h : i < l.length) (h' : i < l'.length) W, Below w.heap.size w W → Calls Tryz.prog 98 #[.agg (encSnap (l[i]'h)).toArray, .agg (encSnap (l'[i]'h')).toArray] W fun e w' => e = .returned (.bool true) ∧ Below W.heap.size W w') :
    Calls Tryz.prog 97 #[.slice A n c, .slice A' n c', .func (.func 98) #[] #[]] w fun e w' => e = .returned (.bool true) ∧ Below w.heap.size w w' := by
  have HN := Lib.hid hnl
  have HM := Lib.hid hnl'
  have HC := Lib.hid hC
  clear hnl hnl' hC
  go_enter Tryz.func97, Tryz.ntmps97
  go_wp2_with fail
  go_loopw [17] (fun j wr => ∃ k : Nat, k ≤ n ∧ j = .int .i64 (k : Int) ∧ Hid (Below w.heap.size w wr)) (fun j _ => n - (intOf j).toNat)
  case atStart => exact ⟨0, Nat.zero_le _, rfl, Below.refl _ _⟩
  case round =>
    obtain ⟨k, hk, rfl, HB⟩ := hrel
    by_cases hlt : k < n
    · have hki : (k : Int) < (n : Int) := by omega
      have hkl : k < l.length := by have := HN.out; omega
      have hkm : k < l'.length := by have := HM.out; omega
      obtain ⟨ad, rfl, -, hel⟩ := Reads.elAll (enc := encSnap) (k := 5) (fun _ => rfl) (hr.below (HB.out.mono hB)) HN.out hlt
      obtain ⟨ad2, rfl, hadB, hel2⟩ := Reads.elAll (enc := encSnap) (k := 5) (fun _ => rfl) (hr'.below (HB.out.mono hB)) HM.out hlt
      obtain ⟨cs, hcs⟩ : ∃ cs, cs = encSnap (l[k]'hkl) := ⟨_, rfl⟩
      obtain ⟨ds, hds⟩ : ∃ ds, ds = encSnap (l'[k]'hkm) := ⟨_, rfl⟩
      have hcx := HC.out k hkl hkm
      rw [← hcs, ← hds] at hcx
      rw [← hcs] at hel
      rw [← hds] at hel2
      have hcl : cs.length = 5 := by rw [hcs]; rfl
      have hdl : ds.length = 5 := by rw [hds]; rfl
      have hc1 : ∀ u ∈ cs, u.oneCell' = true := by rw [hcs]; intro u hu; simp [encSnap] at hu; rcases hu with rfl | rfl | rfl | rfl | rfl <;> rfl
      have hd1 : ∀ u ∈ ds, u.oneCell' = true := by rw [hds]; intro u hu; simp [encSnap] at hu; rcases hu with rfl | rfl | rfl | rfl | rfl <;> rfl
      clear hcs hds
      have HE1 := Lib.hid hel
      obtain ⟨W1, hW1⟩ : ∃ W, W = wr.alloc (.cells cs.toArray 66) := ⟨_, rfl⟩
      have HE2 : Hid (∀ j v, ds[j]? = some v → W1.cell? ((ad2.add (k * 5)).add j) = some v) := by
        show ∀ j v, _ → _
        intro j v hv
        have h1 := hel2 j v hv
        have h2 : ((ad2.add (k * 5)).add j).block = ad2.block := by simp [Addr.add]; split <;> split <;> rfl
        rw [hW1]
        exact (((Below.refl wr.heap.size wr).alloc (Nat.le_refl _) (.cells cs.toArray 66)).cell (by rw [h2]; have := HB.out.size; omega)).trans h1
      have k1 : Blk W1 wr.heap.size 66 cs.toArray := by rw [hW1]; exact Blk.new _ _ _
      have hs1 : W1.heap.size = wr.heap.size + 1 := by rw [hW1]; simp
      obtain ⟨W2, hW2⟩ : ∃ W, W = W1.alloc (.cells ds.toArray 66) := ⟨_, rfl⟩
      have HL1 : Hid (∀ j v, cs[j]? = some v → W2.cell? ((⟨wr.heap.size, 0, none⟩ : Addr).add j) = some v) := by
        show ∀ j v, _ → _
        intro j v hv
        have := (k1.alloc (.cells ds.toArray 66)).cell j
        rw [← hW2, List.getElem?_toArray, hv] at this
        rw [addr_add0]
        exact this
      have HL2 : Hid (∀ j v, ds[j]? = some v → W2.cell? ((⟨wr.heap.size + 1, 0, none⟩ : Addr).add j) = some v) := by
        show ∀ j v, _ → _
        intro j v hv
        have := (Blk.new W1 66 ds.toArray).cell j
        rw [← hW2, List.getElem?_toArray, hv, hs1] at this
        rw [addr_add0]
        exact this
      have HB2 : Hid (Below w.heap.size w W2) := by
        show Below _ _ _
        rw [hW2, hW1]
        exact (HB.out.alloc HB.out.size _).alloc (by have := HB.out.size; simp; omega) _
      have hcx := hcx W2 HB2.out
      clear hel hel2 hr hr' k1 hadB
      go_wp2_with (first | (refine wpList_load_at rfl 66 (.tmp 20) rfl (ad.add (k * 5)) rfl cs _ HE1.out Tryz.underlying66 rfl (by rw [hcl]; kernel_rfl) ?_) | (refine wpList_store_new wr rfl 66 (.tmp 8) (.tmp 21) rfl 66 _ cs rfl rfl (by rw [hcl]; rfl) (by rw [hcl]; kernel_rfl) hc1 ?_; rw [← hW1]; clear hW1) | (refine wpList_load_at rfl 66 (.tmp 24) rfl (ad2.add (k * 5)) rfl ds _ HE2.out Tryz.underlying66 rfl (by rw [hdl]; kernel_rfl) ?_) | (refine wpList_store_new W1 rfl 66 (.tmp 9) (.tmp 25) rfl 66 _ ds (by rw [hs1]; rfl) rfl (by rw [hdl]; rfl) (by rw [hdl]; kernel_rfl) hd1 ?_; rw [← hW2]; clear hW2) | (refine wpList_load_at rfl 66 (.tmp 8) rfl ⟨wr.heap.size, 0, none⟩ rfl cs _ HL1.out Tryz.underlying66 rfl (by rw [hcl]; kernel_rfl) ?_) | (refine wpList_load_at rfl 66 (.tmp 9) rfl ⟨wr.heap.size + 1, 0, none⟩ rfl ds _ HL2.out Tryz.underlying66 rfl (by rw [hdl]; kernel_rfl) ?_))
      refine hcx.mono ?_
      clear hcx
      rintro e w3 ⟨rfl, hb3⟩
      have HB3 := Lib.hid (HB2.out.trans (hb3.mono HB2.out.size))
      clear hb3
      go_wp2_with fail
      go_roundw
      case rel => exact ⟨k + 1, by omega, by go_num, HB3.out⟩
      case measure => simp [intOf]; omega
    · clear hr hr'
      go_wp2_with fail
      go_ret
      exact ⟨rfl, HB.out⟩
set_option maxRecDepth 100000 in
set_option maxHeartbeats 2000000 in
theorem eqfSet_any (l l' : List SetR) (n : Nat) (hnl : n = l.length) (hnl' : n = l'.length) (A A' : Option Addr) (c c' : Nat) (w : World) (B : Nat) (hB : B ≤ w.heap.size) (hr : Reads w B 5 A n (cellsK encSet l)) (hr' : Reads w B 5 A' n (cellsK encSet l')) (hn : n ≤ 1000000000000)
    (hC : ∀ i (h : i < l.length) (h' : i < l'.length) W, Below w.heap.size w W → Calls Tryz.prog 45 #[.agg (encSet (l[i]'h)).toArray, .agg (encSet (l'[i]'h')).toArray] W fun e w' => e = .returned (.bool true) ∧ Below W.heap.size W w') :
    Calls Tryz.prog 44 #[.slice A n c, .slice A' n c', .func (.func 45) #[] #[]] w fun e w' => e = .returned (.bool true) ∧ Below w.heap.size w w' := by
  have HN := Lib.hid hnl
  have HM := Lib.hid hnl'
  have HC := Lib.hid hC
  clear hnl hnl' hC
  go_enter Tryz.func44, Tryz.ntmps44
  go_wp2_with fail
  go_loopw [17] (fun j wr => ∃ k : Nat, k ≤ n ∧ j = .int .i64 (k : Int) ∧ Hid (Below w.heap.size w wr)) (fun j _ => n - (intOf j).toNat)
  case atStart => exact ⟨0, Nat.zero_le _, rfl, Below.refl _ _⟩
  case round =>
    obtain ⟨k, hk, rfl, HB⟩ := hrel
    by_cases hlt : k < n
    · have hki : (k : Int) < (n : Int) := by omega
      have hkl : k < l.length := by have := HN.out; omega
      have hkm : k < l'.length := by have := HM.out; omega
      obtain ⟨ad, rfl, -, hel⟩ := Reads.elAll (enc := encSet) (k := 5) (fun _ => rfl) (hr.below (HB.out.mono hB)) HN.out hlt
      obtain ⟨ad2, rfl, hadB, hel2⟩ := Reads.elAll (enc := encSet) (k := 5) (fun _ => rfl) (hr'.below (HB.out.mono hB)) HM.out hlt
      obtain ⟨cs, hcs⟩ : ∃ cs, cs = encSet (l[k]'hkl) := ⟨_, rfl⟩
      obtain ⟨ds, hds⟩ : ∃ ds, ds = encSet (l'[k]'hkm) := ⟨_, rfl⟩
      have hcx := HC.out k hkl hkm
      rw [← hcs, ← hds] at hcx
      rw [← hcs] at hel
      rw [← hds] at hel2
      have hcl : cs.length = 5 := by rw [hcs]; rfl
      have hdl : ds.length = 5 := by rw [hds]; rfl
      have hc1 : ∀ u ∈ cs, u.oneCell' = true := by rw [hcs]; intro u hu; simp [encSet] at hu; rcases hu with rfl | rfl | rfl | rfl | rfl <;> rfl
      have hd1 : ∀ u ∈ ds, u.oneCell' = true := by rw [hds]; intro u hu; simp [encSet] at hu; rcases hu with rfl | rfl | rfl | rfl | rfl <;> rfl
      clear hcs hds
      have HE1 := Lib.hid hel
      obtain ⟨W1, hW1⟩ : ∃ W, W = wr.alloc (.cells cs.toArray 61) := ⟨_, rfl⟩
      have HE2 : Hid (∀ j v, ds[j]? = some v → W1.cell? ((ad2.add (k * 5)).add j) = some v) := by
        show ∀ j v, _ → _
        intro j v hv
        have h1 := hel2 j v hv
        have h2 : ((ad2.add (k * 5)).add j).block = ad2.block := by simp [Addr.add]; split <;> split <;> rfl
        rw [hW1]
        exact (((Below.refl wr.heap.size wr).alloc (Nat.le_refl _) (.cells cs.toArray 61)).cell (by rw [h2]; have := HB.out.size; omega)).trans h1
      have k1 : Blk W1 wr.heap.size 61 cs.toArray := by rw [hW1]; exact Blk.new _ _ _
      have hs1 : W1.heap.size = wr.heap.size + 1 := by rw [hW1]; simp
      obtain ⟨W2, hW2⟩ : ∃ W, W = W1.alloc (.cells ds.toArray 61) := ⟨_, rfl⟩
      have HL1 : Hid (∀ j v, cs[j]? = some v → W2.cell? ((⟨wr.heap.size, 0, none⟩ : Addr).add j) = some v) := by
        show ∀ j v, _ → _
        intro j v hv
        have := (k1.alloc (.cells ds.toArray 61)).cell j
        rw [← hW2, List.getElem?_toArray, hv] at this
        rw [addr_add0]
        exact this
      have HL2 : Hid (∀ j v, ds[j]? = some v → W2.cell? ((⟨wr.heap.size + 1, 0, none⟩ : Addr).add j) = some v) := by
        show ∀ j v, _ → _
        intro j v hv
        have := (Blk.new W1 61 ds.toArray).cell j
        rw [← hW2, List.getElem?_toArray, hv, hs1] at this
        rw [addr_add0]
        exact this
      have HB2 : Hid (Below w.heap.size w W2) := by
        show Below _ _ _
        rw [hW2, hW1]
        exact (HB.out.alloc HB.out.size _).alloc (by have := HB.out.size; simp; omega) _
      have hcx := hcx W2 HB2.out
      clear hel hel2 hr hr' k1 hadB
      go_wp2_with (first | (refine wpList_load_at rfl 61 (.tmp 20) rfl (ad.add (k * 5)) rfl cs _ HE1.out Tryz.underlying61 rfl (by rw [hcl]; kernel_rfl) ?_) | (refine wpList_store_new wr rfl 61 (.tmp 8) (.tmp 21) rfl 61 _ cs rfl rfl (by rw [hcl]; rfl) (by rw [hcl]; kernel_rfl) hc1 ?_; rw [← hW1]; clear hW1) | (refine wpList_load_at rfl 61 (.tmp 24) rfl (ad2.add (k * 5)) rfl ds _ HE2.out Tryz.underlying61 rfl (by rw [hdl]; kernel_rfl) ?_) | (refine wpList_store_new W1 rfl 61 (.tmp 9) (.tmp 25) rfl 61 _ ds (by rw [hs1]; rfl) rfl (by rw [hdl]; rfl) (by rw [hdl]; kernel_rfl) hd1 ?_; rw [← hW2]; clear hW2) | (refine wpList_load_at rfl 61 (.tmp 8) rfl ⟨wr.heap.size, 0, none⟩ rfl cs _ HL1.out Tryz.underlying61 rfl (by rw [hcl]; kernel_rfl) ?_) | (refine wpList_load_at rfl 61 (.tmp 9) rfl ⟨wr.heap.size + 1, 0, none⟩ rfl ds _ HL2.out Tryz.underlying61 rfl (by rw [hdl]; kernel_rfl) ?_))
      refine hcx.mono ?_
      clear hcx
      rintro e w3 ⟨rfl, hb3⟩
      have HB3 := Lib.hid (HB2.out.trans (hb3.mono HB2.out.size))
      clear hb3
      go_wp2_with fail
      go_roundw
      case rel => exact ⟨k + 1, by omega, by go_num, HB3.out⟩
      case measure => simp [intOf]; omega
    · clear hr hr'
      go_wp2_with fail
      go_ret
      exact ⟨rfl, HB.out⟩
set_option maxRecDepth 100000 in
set_option maxHeartbeats 2000000 in
theorem eqfStage_any (l l' : List StageR) (n : Nat) (hnl : n = l.length) (hnl' : n = l'.length) (A A' : Option Addr) (c c' : Nat) (w : World) (B : Nat) (hB : B ≤ w.heap.size) (hr : Reads w B 21 A n (cellsK encStage l)) (hr' : Reads w B 21 A' n (cellsK encStage l')) (hn : n ≤ 1000000000000)
    (hC : ∀ i (h : i < l.length) (h' : i < l'.length) W, Below w.heap.size w W → Calls Tryz.prog 48 #[.agg (encStage (l[i]'h)).toArray, .agg (encStage (l'[i]'h')).toArray] W fun e w' => e = .returned (.bool true) ∧ Below W.heap.size W w') :
    Calls Tryz.prog 47 #[.slice A n c, .slice A' n c', .func (.func 48) #[] #[]] w fun e w' => e = .returned (.bool true) ∧ Below w.heap.size w w' := by
  have HN := Lib.hid hnl
  have HM := Lib.hid hnl'
  have HC := Lib.hid hC
  clear hnl hnl' hC
  go_enter Tryz.func47, Tryz.ntmps47
  go_wp2_with fail
  go_loopw [17] (fun j wr => ∃ k : Nat, k ≤ n ∧ j = .int .i64 (k : Int) ∧ Hid (Below w.heap.size w wr)) (fun j _ => n - (intOf j).toNat)
  case atStart => exact ⟨0, Nat.zero_le _, rfl, Below.refl _ _⟩
  case round =>
    obtain ⟨k, hk, rfl, HB⟩ := hrel
    by_cases hlt : k < n
    · have hki : (k : Int) < (n : Int) := by omega
      have hkl : k < l.length := by have := HN.out; omega
      have hkm : k < l'.length := by have := HM.out; omega
      obtain ⟨ad, rfl, -, hel⟩ := Reads.elAll (enc := encStage) (k := 21) (fun _ => rfl) (hr.below (HB.out.mono hB)) HN.out hlt
      obtain ⟨ad2, rfl, hadB, hel2⟩ := Reads.elAll (enc := encStage) (k := 21) (fun _ => rfl) (hr'.below (HB.out.mono hB)) HM.out hlt
      obtain ⟨cs, hcs⟩ : ∃ cs, cs = encStage (l[k]'hkl) := ⟨_, rfl⟩
      obtain ⟨ds, hds⟩ : ∃ ds, ds = encStage (l'[k]'hkm) := ⟨_, rfl⟩
      have hcx := HC.out k hkl hkm
      rw [← hcs, ← hds] at hcx
      rw [← hcs] at hel
      rw [← hds] at hel2
      have hcl : cs.length = 21 := by rw [hcs]; rfl
      have hdl : ds.length = 21 := by rw [hds]; rfl
      have hc1 : ∀ u ∈ cs, u.oneCell' = true := by rw [hcs]; intro u hu; simp [encStage, smV] at hu; rcases hu with rfl | rfl | rfl | rfl | rfl | rfl | rfl | rfl | rfl | rfl | rfl | rfl | rfl | rfl | rfl | rfl | rfl | rfl | rfl | rfl | rfl <;> rfl
      have hd1 : ∀ u ∈ ds, u.oneCell' = true := by rw [hds]; intro u hu; simp [encStage, smV] at hu; rcases hu with rfl | rfl | rfl | rfl | rfl | rfl | rfl | rfl | rfl | rfl | rfl | rfl | rfl | rfl | rfl | rfl | rfl | rfl | rfl | rfl | rfl <;> rfl
      clear hcs hds
      have HE1 := Lib.hid hel
      obtain ⟨W1, hW1⟩ : ∃ W, W = wr.alloc (.cells cs.toArray 73) := ⟨_, rfl⟩
      have HE2 : Hid (∀ j v, ds[j]? = some v → W1.cell? ((ad2.add (k * 21)).add j) = some v) := by
        show ∀ j v, _ → _
        intro j v hv
        have h1 := hel2 j v hv
        have h2 : ((ad2.add (k * 21)).add j).block = ad2.block := by simp [Addr.add]; split <;> split <;> rfl
        rw [hW1]
        exact (((Below.refl wr.heap.size wr).alloc (Nat.le_refl _) (.cells cs.toArray 73)).cell (by rw [h2]; have := HB.out.size; omega)).trans h1
      have k1 : Blk W1 wr.heap.size 73 cs.toArray := by rw [hW1]; exact Blk.new _ _ _
      have hs1 : W1.heap.size = wr.heap.size + 1 := by rw [hW1]; simp
      obtain ⟨W2, hW2⟩ : ∃ W, W = W1.alloc (.cells ds.toArray 73) := ⟨_, rfl⟩
      have HL1 : Hid (∀ j v, cs[j]? = some v → W2.cell? ((⟨wr.heap.size, 0, none⟩ : Addr).add j) = some v) := by
        show ∀ j v, _ → _
        intro j v hv
        have := (k1.alloc (.cells ds.toArray 73)).cell j
        rw [← hW2, List.getElem?_toArray, hv] at this
        rw [addr_add0]
        exact this
      have HL2 : Hid (∀ j v, ds[j]? = some v → W2.cell? ((⟨wr.heap.size + 1, 0, none⟩ : Addr).add j) = some v) := by
        show ∀ j v, _ → _
        intro j v hv
        have := (Blk.new W1 73 ds.toArray).cell j
        rw [← hW2, List.getElem?_toArray, hv, hs1] at this
        rw [addr_add0]
        exact this
      have HB2 : Hid (Below w.heap.size w W2) := by
        show Below _ _ _
        rw [hW2, hW1]
        exact (HB.out.alloc HB.out.size _).alloc (by have := HB.out.size; simp; omega) _
      have hcx := hcx W2 HB2.out
      clear hel hel2 hr hr' k1 hadB
      go_wp2_with (first | (refine wpList_load_at rfl 73 (.tmp 20) rfl (ad.add (k * 21)) rfl cs _ HE1.out Tryz.underlying73 rfl (by rw [hcl]; kernel_rfl) ?_) | (refine wpList_store_new wr rfl 73 (.tmp 8) (.tmp 21) rfl 73 _ cs rfl rfl (by rw [hcl]; rfl) (by rw [hcl]; kernel_rfl) hc1 ?_; rw [← hW1]; clear hW1) | (refine wpList_load_at rfl 73 (.tmp 24) rfl (ad2.add (k * 21)) rfl ds _ HE2.out Tryz.underlying73 rfl (by rw [hdl]; kernel_rfl) ?_) | (refine wpList_store_new W1 rfl 73 (.tmp 9) (.tmp 25) rfl 73 _ ds (by rw [hs1]; rfl) rfl (by rw [hdl]; rfl) (by rw [hdl]; kernel_rfl) hd1 ?_; rw [← hW2]; clear hW2) | (refine wpList_load_at rfl 73 (.tmp 8) rfl ⟨wr.heap.size, 0, none⟩ rfl cs _ HL1.out Tryz.underlying73 rfl (by rw [hcl]; kernel_rfl) ?_) | (refine wpList_load_at rfl 73 (.tmp 9) rfl ⟨wr.heap.size + 1, 0, none⟩ rfl ds _ HL2.out Tryz.underlying73 rfl (by rw [hdl]; kernel_rfl) ?_))
      refine hcx.mono ?_
      clear hcx
      rintro e w3 ⟨rfl, hb3⟩
      have HB3 := Lib.hid (HB2.out.trans (hb3.mono HB2.out.size))
      clear hb3
      go_wp2_with fail
      go_roundw
      case rel => exact ⟨k + 1, by omega, by go_num, HB3.out⟩
      case measure => simp [intOf]; omega
    · clear hr hr'
      go_wp2_with fail
      go_ret
      exact ⟨rfl, HB.out⟩
end Go.Proofs.YtbppdlhbjddhjaaGreatDoor
namespace Go.Proofs.YtbppdlhbjddhjaaGreatDoor
open Go.RowKit

theorem rdS {x : SnapR} {w w' : World} {B : Nat} (h : x.rd w B) (hb : Below B w w') : x.rd w' B := ⟨h.body.below hb, h.tags.below hb, h.own.below hb⟩
theorem rdT {x : SetR} {w w' : World} {B : Nat} (h : x.rd w B) (hb : Below B w w') : x.rd w' B := ⟨h.body.below hb, h.snaps.below hb, fun y hy => rdS (h.each y hy) hb, h.own.below hb⟩
theorem rdG {x : StageR} {w w' : World} {B : Nat} (h : x.rd w B) (hb : Below B w w') : x.rd w' B := ⟨h.own.below hb, h.body.below hb⟩
set_option maxRecDepth 100000 in
set_option maxHeartbeats 4000000 in
theorem tsameSnapT_any (nm : BS) (gd : Int) (bl : List BlkT) (b1 b1' : Option Addr) (bn b3 b3' : Nat) (tl : List BS) (t1 t1' : Option Addr) (tn t3 t3' : Nat) (ol : List (BS × BS)) (o1 o1' : Option Addr) (on o3 o3' : Nat)  (w : World) (B : Nat) (hB : B ≤ w.heap.size) (hbn : bn = bl.length) (hb : Reads w B 2 b1 bn (cellsK encB bl)) (hb' : Reads w B 2 b1' bn (cellsK encB bl)) (hbm : bn ≤ 1000000000000) (htn : tn = tl.length) (ht : Reads w B 1 t1 tn (cellsK encS tl)) (ht' : Reads w B 1 t1' tn (cellsK encS tl)) (htm : tn ≤ 1000000000000) (hon : on = ol.length) (ho : Reads w B 2 o1 on (cellsK encP ol)) (ho' : Reads w B 2 o1' on (cellsK encP ol)) (hom : on ≤ 1000000000000)  :
    Calls Tryz.prog 98 #[.agg #[.string ⟨nm.toArray⟩, .int .i64 gd, .slice b1 bn b3, .slice t1 tn t3, .slice o1 on o3], .agg #[.string ⟨nm.toArray⟩, .int .i64 gd, .slice b1' bn b3', .slice t1' tn t3', .slice o1' on o3']] w fun e w' => e = .returned (.bool true) ∧ Below w.heap.size w w' := by
  have hb1 := (Below.refl w.heap.size w).alloc (Nat.le_refl _) (.cells #[.string ⟨nm.toArray⟩, .int .i64 gd, .slice b1 bn b3, .slice t1 tn t3, .slice o1 on o3] 66)
  have hb2 := hb1.alloc hb1.size (.cells #[.string ⟨nm.toArray⟩, .int .i64 gd, .slice b1' bn b3', .slice t1' tn t3', .slice o1' on o3'] 66)
  have k1 := (Blk.new w 66 #[.string ⟨nm.toArray⟩, .int .i64 gd, .slice b1 bn b3, .slice t1 tn t3, .slice o1 on o3]).alloc (.cells #[.string ⟨nm.toArray⟩, .int .i64 gd, .slice b1' bn b3', .slice t1' tn t3', .slice o1' on o3'] 66)
  have k2 := Blk.new (w.alloc (.cells #[.string ⟨nm.toArray⟩, .int .i64 gd, .slice b1 bn b3, .slice t1 tn t3, .slice o1 on o3] 66)) 66 #[.string ⟨nm.toArray⟩, .int .i64 gd, .slice b1' bn b3', .slice t1' tn t3', .slice o1' on o3']
  rw [show (w.alloc (.cells #[.string ⟨nm.toArray⟩, .int .i64 gd, .slice b1 bn b3, .slice t1 tn t3, .slice o1 on o3] 66)).heap.size = w.heap.size + 1 by simp] at k2
  obtain ⟨W2, hW2⟩ : ∃ W, W = (w.alloc (.cells #[.string ⟨nm.toArray⟩, .int .i64 gd, .slice b1 bn b3, .slice t1 tn t3, .slice o1 on o3] 66)).alloc (.cells #[.string ⟨nm.toArray⟩, .int .i64 gd, .slice b1' bn b3', .slice t1' tn t3', .slice o1' on o3'] 66) := ⟨_, rfl⟩
  have hsz : W2.heap.size = w.heap.size + 2 := by rw [hW2]; simp
  rw [← hW2] at hb2 k1 k2
  have hS := Lib.hid (fun (W' : World) (hB' : Below W2.heap.size W2 W') => (⟨(k1.below hB' (by omega)).cell 0, (k1.below hB' (by omega)).cell 1, (k1.below hB' (by omega)).cell 2, (k1.below hB' (by omega)).cell 3, (k1.below hB' (by omega)).cell 4, (k2.below hB' (by omega)).cell 0, (k2.below hB' (by omega)).cell 1, (k2.below hB' (by omega)).cell 2, (k2.below hB' (by omega)).cell 3, (k2.below hB' (by omega)).cell 4⟩ : W'.cell? ⟨w.heap.size, 0, none⟩ = some (.string ⟨nm.toArray⟩) ∧ W'.cell? ⟨w.heap.size, 1, none⟩ = some (.int .i64 gd) ∧ W'.cell? ⟨w.heap.size, 2, none⟩ = some (.slice b1 bn b3) ∧ W'.cell? ⟨w.heap.size, 3, none⟩ = some (.slice t1 tn t3) ∧ W'.cell? ⟨w.heap.size, 4, none⟩ = some (.slice o1 on o3) ∧ W'.cell? ⟨w.heap.size + 1, 0, none⟩ = some (.string ⟨nm.toArray⟩) ∧ W'.cell? ⟨w.heap.size + 1, 1, none⟩ = some (.int .i64 gd) ∧ W'.cell? ⟨w.heap.size + 1, 2, none⟩ = some (.slice b1' bn b3') ∧ W'.cell? ⟨w.heap.size + 1, 3, none⟩ = some (.slice t1' tn t3') ∧ W'.cell? ⟨w.heap.size + 1, 4, none⟩ = some (.slice o1' on o3')))
  have HSZ := Lib.hid hsz
  have HB2 := Lib.hid hb2
  have hmv : ∀ W', Below W2.heap.size W2 W' → Below B w W' := fun W' hB' => (hb2.trans (hB'.mono (by omega))).mono hB
  have hC1 : Hid (∀ W, Below W2.heap.size W2 W → Calls Tryz.prog 140 #[.slice t1 tn t3, .slice t1' tn t3'] W fun e W' => e = .returned (.bool true) ∧ Below W.heap.size W W') := fun W h => eqlS_any tl tn htn t1 t1' t3 t3' W B (ht.below (hmv W h)) (ht'.below (hmv W h)) htm
  have hC2 : Hid (∀ W, Below W2.heap.size W2 W → Calls Tryz.prog 95 #[.slice b1 bn b3, .slice b1' bn b3'] W fun e W' => e = .returned (.bool true) ∧ Below W.heap.size W W') := fun W h => bsameT_any bl bn hbn b1 b1' b3 b3' W B (hb.below (hmv W h)) (hb'.below (hmv W h)) hbm
  have hC3 : Hid (∀ W, Below W2.heap.size W2 W → Calls Tryz.prog 96 #[.slice o1 on o3, .slice o1' on o3'] W fun e W' => e = .returned (.bool true) ∧ Below W.heap.size W W') := fun W h => psameT_any ol on hon o1 o1' o3 o3' W B (ho.below (hmv W h)) (ho'.below (hmv W h)) hom
  clear hb1 hb2 k1 k2 hsz hmv hb hb' hbn ht ht' htn ho ho' hon
  have hW0 := Below.refl W2.heap.size W2
  go_enter Tryz.func98, Tryz.ntmps98
  obtain ⟨p0, p1, p2, p3, p4, q0, q1, q2, q3, q4⟩ := hS.out _ hW0
  go_wp2_with (fail)
  rw [← hW2]
  clear hW2
  refine (hC1.out _ hW0).mono ?_
  rintro e w3 ⟨rfl, hb3⟩
  have hW3 := hW0.trans (hb3.mono hW0.size)
  clear hb3 hC1 p0 p1 p2 p3 p4 q0 q1 q2 q3 q4
  obtain ⟨p0, p1, p2, p3, p4, q0, q1, q2, q3, q4⟩ := hS.out _ hW3
  go_wp2_with fail
  refine (hC2.out _ hW3).mono ?_
  rintro e w4 ⟨rfl, hb4⟩
  have hW4 := hW3.trans (hb4.mono hW3.size)
  clear hb4 hC2 p0 p1 p2 p3 p4 q0 q1 q2 q3 q4
  obtain ⟨p0, p1, p2, p3, p4, q0, q1, q2, q3, q4⟩ := hS.out _ hW4
  go_wp2_with fail
  refine (hC3.out _ hW4).mono ?_
  rintro e w5 ⟨rfl, hb5⟩
  have hW5 := hW4.trans (hb5.mono hW4.size)
  clear hb5 hC3 p0 p1 p2 p3 p4 q0 q1 q2 q3 q4
  obtain ⟨p0, p1, p2, p3, p4, q0, q1, q2, q3, q4⟩ := hS.out _ hW5
  go_wp2_with fail
  go_ret
  exact ⟨rfl, HB2.out.trans (hW5.mono (by have := HSZ.out; omega))⟩
theorem tsameSnapR_any (x y : SnapR) (h : x.eqv y) (w : World) (B : Nat) (hB : B ≤ w.heap.size) (hx : x.rd w B) (hy : y.rd w B) (hz : x.sz) :
    Calls Tryz.prog 98 #[.agg (encSnap x).toArray, .agg (encSnap y).toArray] w fun e w' => e = .returned (.bool true) ∧ Below w.heap.size w w' := by
  obtain ⟨h1, h2, h3, h4, h5⟩ := h
  obtain ⟨nm, gd, ⟨b1, bn, b3, bl⟩, ⟨t1, tn, t3, tl⟩, ⟨o1, on, o3, ol⟩⟩ := x
  obtain ⟨nm', gd', ⟨b1', bn', b3', bl'⟩, ⟨t1', tn', t3', tl'⟩, ⟨o1', on', o3', ol'⟩⟩ := y
  simp only at h1 h2 h3 h4 h5
  subst h1 h2 h3 h4 h5
  have e1 : bn' = bn := hy.body.1.trans hx.body.1.symm
  have e2 : tn' = tn := hy.tags.1.trans hx.tags.1.symm
  have e3 : on' = on := hy.own.1.trans hx.own.1.symm
  subst e1 e2 e3
  exact tsameSnapT_any nm gd bl b1 b1' bn' b3 b3' tl t1 t1' tn' t3 t3' ol o1 o1' on' o3 o3' w B hB hx.body.1 hx.body.2.2 hy.body.2.2 hz.body hx.tags.1 hx.tags.2.2 hy.tags.2.2 hz.tags hx.own.1 hx.own.2.2 hy.own.2.2 hz.own
set_option maxRecDepth 100000 in
set_option maxHeartbeats 4000000 in
theorem tsameSetT_any (pa og : BS) (bl : List BlkT) (b1 b1' : Option Addr) (bn b3 b3' : Nat) (zl zl' : List SnapR) (z1 z1' : Option Addr) (zn z3 z3' : Nat) (ol : List (BS × BS)) (o1 o1' : Option Addr) (on o3 o3' : Nat)  (w : World) (B : Nat) (hB : B ≤ w.heap.size) (hbn : bn = bl.length) (hb : Reads w B 2 b1 bn (cellsK encB bl)) (hb' : Reads w B 2 b1' bn (cellsK encB bl)) (hbm : bn ≤ 1000000000000) (hzn : zn = zl.length) (hzn' : zn = zl'.length) (hz : Reads w B 5 z1 zn (cellsK encSnap zl)) (hz' : Reads w B 5 z1' zn (cellsK encSnap zl')) (hzm : zn ≤ 1000000000000) (hze : ∀ y ∈ zl, y.rd w B) (hze' : ∀ y ∈ zl', y.rd w B) (hzq : ∀ i (h : i < zl.length) (h' : i < zl'.length), (zl[i]'h).eqv (zl'[i]'h')) (hzs : ∀ y ∈ zl, y.sz) (hon : on = ol.length) (ho : Reads w B 2 o1 on (cellsK encP ol)) (ho' : Reads w B 2 o1' on (cellsK encP ol)) (hom : on ≤ 1000000000000)  :
    Calls Tryz.prog 45 #[.agg #[.string ⟨pa.toArray⟩, .string ⟨og.toArray⟩, .slice b1 bn b3, .slice z1 zn z3, .slice o1 on o3], .agg #[.string ⟨pa.toArray⟩, .string ⟨og.toArray⟩, .slice b1' bn b3', .slice z1' zn z3', .slice o1' on o3']] w fun e w' => e = .returned (.bool true) ∧ Below w.heap.size w w' := by
  have hb1 := (Below.refl w.heap.size w).alloc (Nat.le_refl _) (.cells #[.string ⟨pa.toArray⟩, .string ⟨og.toArray⟩, .slice b1 bn b3, .slice z1 zn z3, .slice o1 on o3] 61)
  have hb2 := hb1.alloc hb1.size (.cells #[.string ⟨pa.toArray⟩, .string ⟨og.toArray⟩, .slice b1' bn b3', .slice z1' zn z3', .slice o1' on o3'] 61)
  have k1 := (Blk.new w 61 #[.string ⟨pa.toArray⟩, .string ⟨og.toArray⟩, .slice b1 bn b3, .slice z1 zn z3, .slice o1 on o3]).alloc (.cells #[.string ⟨pa.toArray⟩, .string ⟨og.toArray⟩, .slice b1' bn b3', .slice z1' zn z3', .slice o1' on o3'] 61)
  have k2 := Blk.new (w.alloc (.cells #[.string ⟨pa.toArray⟩, .string ⟨og.toArray⟩, .slice b1 bn b3, .slice z1 zn z3, .slice o1 on o3] 61)) 61 #[.string ⟨pa.toArray⟩, .string ⟨og.toArray⟩, .slice b1' bn b3', .slice z1' zn z3', .slice o1' on o3']
  rw [show (w.alloc (.cells #[.string ⟨pa.toArray⟩, .string ⟨og.toArray⟩, .slice b1 bn b3, .slice z1 zn z3, .slice o1 on o3] 61)).heap.size = w.heap.size + 1 by simp] at k2
  obtain ⟨W2, hW2⟩ : ∃ W, W = (w.alloc (.cells #[.string ⟨pa.toArray⟩, .string ⟨og.toArray⟩, .slice b1 bn b3, .slice z1 zn z3, .slice o1 on o3] 61)).alloc (.cells #[.string ⟨pa.toArray⟩, .string ⟨og.toArray⟩, .slice b1' bn b3', .slice z1' zn z3', .slice o1' on o3'] 61) := ⟨_, rfl⟩
  have hsz : W2.heap.size = w.heap.size + 2 := by rw [hW2]; simp
  rw [← hW2] at hb2 k1 k2
  have hS := Lib.hid (fun (W' : World) (hB' : Below W2.heap.size W2 W') => (⟨(k1.below hB' (by omega)).cell 0, (k1.below hB' (by omega)).cell 1, (k1.below hB' (by omega)).cell 2, (k1.below hB' (by omega)).cell 3, (k1.below hB' (by omega)).cell 4, (k2.below hB' (by omega)).cell 0, (k2.below hB' (by omega)).cell 1, (k2.below hB' (by omega)).cell 2, (k2.below hB' (by omega)).cell 3, (k2.below hB' (by omega)).cell 4⟩ : W'.cell? ⟨w.heap.size, 0, none⟩ = some (.string ⟨pa.toArray⟩) ∧ W'.cell? ⟨w.heap.size, 1, none⟩ = some (.string ⟨og.toArray⟩) ∧ W'.cell? ⟨w.heap.size, 2, none⟩ = some (.slice b1 bn b3) ∧ W'.cell? ⟨w.heap.size, 3, none⟩ = some (.slice z1 zn z3) ∧ W'.cell? ⟨w.heap.size, 4, none⟩ = some (.slice o1 on o3) ∧ W'.cell? ⟨w.heap.size + 1, 0, none⟩ = some (.string ⟨pa.toArray⟩) ∧ W'.cell? ⟨w.heap.size + 1, 1, none⟩ = some (.string ⟨og.toArray⟩) ∧ W'.cell? ⟨w.heap.size + 1, 2, none⟩ = some (.slice b1' bn b3') ∧ W'.cell? ⟨w.heap.size + 1, 3, none⟩ = some (.slice z1' zn z3') ∧ W'.cell? ⟨w.heap.size + 1, 4, none⟩ = some (.slice o1' on o3')))
  have HSZ := Lib.hid hsz
  have HB2 := Lib.hid hb2
  have hmv : ∀ W', Below W2.heap.size W2 W' → Below B w W' := fun W' hB' => (hb2.trans (hB'.mono (by omega))).mono hB
  have hC1 : Hid (∀ W, Below W2.heap.size W2 W → Calls Tryz.prog 95 #[.slice b1 bn b3, .slice b1' bn b3'] W fun e W' => e = .returned (.bool true) ∧ Below W.heap.size W W') := fun W h => bsameT_any bl bn hbn b1 b1' b3 b3' W B (hb.below (hmv W h)) (hb'.below (hmv W h)) hbm
  have hC2 : Hid (∀ W, Below W2.heap.size W2 W → Calls Tryz.prog 96 #[.slice o1 on o3, .slice o1' on o3'] W fun e W' => e = .returned (.bool true) ∧ Below W.heap.size W W') := fun W h => psameT_any ol on hon o1 o1' o3 o3' W B (ho.below (hmv W h)) (ho'.below (hmv W h)) hom
  have hC3 : Hid (∀ W, Below W2.heap.size W2 W → Calls Tryz.prog 97 #[.slice z1 zn z3, .slice z1' zn z3', .func (.func 98) #[] #[]] W fun e W' => e = .returned (.bool true) ∧ Below W.heap.size W W') := fun W h => eqfSnap_any zl zl' zn hzn hzn' z1 z1' z3 z3' W B (by have := h.size; omega) (hz.below (hmv W h)) (hz'.below (hmv W h)) hzm (fun i hi hi' W' hW' => tsameSnapR_any _ _ (hzq i hi hi') W' B (by have := h.size; have := hW'.size; omega) (rdS (hze _ (List.getElem_mem hi)) ((hmv W h).trans (hW'.mono (by have := h.size; omega)))) (rdS (hze' _ (List.getElem_mem hi')) ((hmv W h).trans (hW'.mono (by have := h.size; omega)))) (hzs _ (List.getElem_mem hi)))
  clear hb1 hb2 k1 k2 hsz hmv hb hb' hbn ho ho' hon hz hz' hze hze' hzn hzn' hzq hzs
  have hW0 := Below.refl W2.heap.size W2
  go_enter Tryz.func45, Tryz.ntmps45
  obtain ⟨p0, p1, p2, p3, p4, q0, q1, q2, q3, q4⟩ := hS.out _ hW0
  go_wp2_with (fail)
  rw [← hW2]
  clear hW2
  refine (hC1.out _ hW0).mono ?_
  rintro e w3 ⟨rfl, hb3⟩
  have hW3 := hW0.trans (hb3.mono hW0.size)
  clear hb3 hC1 p0 p1 p2 p3 p4 q0 q1 q2 q3 q4
  obtain ⟨p0, p1, p2, p3, p4, q0, q1, q2, q3, q4⟩ := hS.out _ hW3
  go_wp2_with fail
  refine (hC2.out _ hW3).mono ?_
  rintro e w4 ⟨rfl, hb4⟩
  have hW4 := hW3.trans (hb4.mono hW3.size)
  clear hb4 hC2 p0 p1 p2 p3 p4 q0 q1 q2 q3 q4
  obtain ⟨p0, p1, p2, p3, p4, q0, q1, q2, q3, q4⟩ := hS.out _ hW4
  go_wp2_with fail
  refine (hC3.out _ hW4).mono ?_
  rintro e w5 ⟨rfl, hb5⟩
  have hW5 := hW4.trans (hb5.mono hW4.size)
  clear hb5 hC3 p0 p1 p2 p3 p4 q0 q1 q2 q3 q4
  obtain ⟨p0, p1, p2, p3, p4, q0, q1, q2, q3, q4⟩ := hS.out _ hW5
  go_wp2_with fail
  go_ret
  exact ⟨rfl, HB2.out.trans (hW5.mono (by have := HSZ.out; omega))⟩
theorem tsameSetR_any (x y : SetR) (h : x.eqv y) (w : World) (B : Nat) (hB : B ≤ w.heap.size) (hx : x.rd w B) (hy : y.rd w B) (hz : x.sz) :
    Calls Tryz.prog 45 #[.agg (encSet x).toArray, .agg (encSet y).toArray] w fun e w' => e = .returned (.bool true) ∧ Below w.heap.size w w' := by
  obtain ⟨h1, h2, h3, h4, h5, h6⟩ := h
  obtain ⟨pa, og, ⟨b1, bn, b3, bl⟩, ⟨s1, sn, s3, sl⟩, ⟨o1, on, o3, ol⟩⟩ := x
  obtain ⟨pa', og', ⟨b1', bn', b3', bl'⟩, ⟨s1', sn', s3', sl'⟩, ⟨o1', on', o3', ol'⟩⟩ := y
  simp only at h1 h2 h3 h4 h5 h6
  subst h1 h2 h3 h6
  have e1 : bn' = bn := hy.body.1.trans hx.body.1.symm
  have e2 : sn' = sn := by rw [show sn' = sl'.length from hy.snaps.1, show sn = sl.length from hx.snaps.1, h4]
  have e3 : on' = on := hy.own.1.trans hx.own.1.symm
  subst e1 e2 e3
  exact tsameSetT_any pa og bl b1 b1' bn' b3 b3' sl sl' s1 s1' sn' s3 s3' ol o1 o1' on' o3 o3' w B hB hx.body.1 hx.body.2.2 hy.body.2.2 hz.body hx.snaps.1 hy.snaps.1 hx.snaps.2.2 hy.snaps.2.2 hz.snaps hx.each hy.each h5 hz.each hx.own.1 hx.own.2.2 hy.own.2.2 hz.own
set_option maxRecDepth 100000 in
set_option maxHeartbeats 4000000 in
theorem tsameRecT_any (kind : Int) (nm : BS) (frm gd : Int) (ix ct : Int) (dt : BS) (sa sb sc sd : Int) (ol : List (BS × BS)) (o1 o1' : Option Addr) (on o3 o3' : Nat)  (w : World) (B : Nat) (hB : B ≤ w.heap.size) (hon : on = ol.length) (ho : Reads w B 2 o1 on (cellsK encP ol)) (ho' : Reads w B 2 o1' on (cellsK encP ol)) (hom : on ≤ 1000000000000)  :
    Calls Tryz.prog 99 #[.agg #[.int .i64 kind, .string ⟨nm.toArray⟩, .int .i64 frm, .int .i64 gd, .slice o1 on o3, .int .i64 ix, .int .i64 ct, .string ⟨dt.toArray⟩, .int .u64 sa, .int .u64 sb, .int .u64 sc, .int .u64 sd], .agg #[.int .i64 kind, .string ⟨nm.toArray⟩, .int .i64 frm, .int .i64 gd, .slice o1' on o3', .int .i64 ix, .int .i64 ct, .string ⟨dt.toArray⟩, .int .u64 sa, .int .u64 sb, .int .u64 sc, .int .u64 sd]] w fun e w' => e = .returned (.bool true) ∧ Below w.heap.size w w' := by
  have hb1 := (Below.refl w.heap.size w).alloc (Nat.le_refl _) (.cells #[.int .i64 kind, .string ⟨nm.toArray⟩, .int .i64 frm, .int .i64 gd, .slice o1 on o3, .int .i64 ix, .int .i64 ct, .string ⟨dt.toArray⟩, .int .u64 sa, .int .u64 sb, .int .u64 sc, .int .u64 sd] 71)
  have hb2 := hb1.alloc hb1.size (.cells #[.int .i64 kind, .string ⟨nm.toArray⟩, .int .i64 frm, .int .i64 gd, .slice o1' on o3', .int .i64 ix, .int .i64 ct, .string ⟨dt.toArray⟩, .int .u64 sa, .int .u64 sb, .int .u64 sc, .int .u64 sd] 71)
  have k1 := (Blk.new w 71 #[.int .i64 kind, .string ⟨nm.toArray⟩, .int .i64 frm, .int .i64 gd, .slice o1 on o3, .int .i64 ix, .int .i64 ct, .string ⟨dt.toArray⟩, .int .u64 sa, .int .u64 sb, .int .u64 sc, .int .u64 sd]).alloc (.cells #[.int .i64 kind, .string ⟨nm.toArray⟩, .int .i64 frm, .int .i64 gd, .slice o1' on o3', .int .i64 ix, .int .i64 ct, .string ⟨dt.toArray⟩, .int .u64 sa, .int .u64 sb, .int .u64 sc, .int .u64 sd] 71)
  have k2 := Blk.new (w.alloc (.cells #[.int .i64 kind, .string ⟨nm.toArray⟩, .int .i64 frm, .int .i64 gd, .slice o1 on o3, .int .i64 ix, .int .i64 ct, .string ⟨dt.toArray⟩, .int .u64 sa, .int .u64 sb, .int .u64 sc, .int .u64 sd] 71)) 71 #[.int .i64 kind, .string ⟨nm.toArray⟩, .int .i64 frm, .int .i64 gd, .slice o1' on o3', .int .i64 ix, .int .i64 ct, .string ⟨dt.toArray⟩, .int .u64 sa, .int .u64 sb, .int .u64 sc, .int .u64 sd]
  rw [show (w.alloc (.cells #[.int .i64 kind, .string ⟨nm.toArray⟩, .int .i64 frm, .int .i64 gd, .slice o1 on o3, .int .i64 ix, .int .i64 ct, .string ⟨dt.toArray⟩, .int .u64 sa, .int .u64 sb, .int .u64 sc, .int .u64 sd] 71)).heap.size = w.heap.size + 1 by simp] at k2
  obtain ⟨W2, hW2⟩ : ∃ W, W = (w.alloc (.cells #[.int .i64 kind, .string ⟨nm.toArray⟩, .int .i64 frm, .int .i64 gd, .slice o1 on o3, .int .i64 ix, .int .i64 ct, .string ⟨dt.toArray⟩, .int .u64 sa, .int .u64 sb, .int .u64 sc, .int .u64 sd] 71)).alloc (.cells #[.int .i64 kind, .string ⟨nm.toArray⟩, .int .i64 frm, .int .i64 gd, .slice o1' on o3', .int .i64 ix, .int .i64 ct, .string ⟨dt.toArray⟩, .int .u64 sa, .int .u64 sb, .int .u64 sc, .int .u64 sd] 71) := ⟨_, rfl⟩
  have hsz : W2.heap.size = w.heap.size + 2 := by rw [hW2]; simp
  rw [← hW2] at hb2 k1 k2
  have hS := Lib.hid (fun (W' : World) (hB' : Below W2.heap.size W2 W') => (⟨(k1.below hB' (by omega)).cell 0, (k1.below hB' (by omega)).cell 1, (k1.below hB' (by omega)).cell 2, (k1.below hB' (by omega)).cell 3, (k1.below hB' (by omega)).cell 4, (k1.below hB' (by omega)).cell 5, (k1.below hB' (by omega)).cell 6, (k1.below hB' (by omega)).cell 7, (k1.below hB' (by omega)).cell 8, (k1.below hB' (by omega)).cell 9, (k1.below hB' (by omega)).cell 10, (k1.below hB' (by omega)).cell 11, (k2.below hB' (by omega)).cell 0, (k2.below hB' (by omega)).cell 1, (k2.below hB' (by omega)).cell 2, (k2.below hB' (by omega)).cell 3, (k2.below hB' (by omega)).cell 4, (k2.below hB' (by omega)).cell 5, (k2.below hB' (by omega)).cell 6, (k2.below hB' (by omega)).cell 7, (k2.below hB' (by omega)).cell 8, (k2.below hB' (by omega)).cell 9, (k2.below hB' (by omega)).cell 10, (k2.below hB' (by omega)).cell 11⟩ : W'.cell? ⟨w.heap.size, 0, none⟩ = some (.int .i64 kind) ∧ W'.cell? ⟨w.heap.size, 1, none⟩ = some (.string ⟨nm.toArray⟩) ∧ W'.cell? ⟨w.heap.size, 2, none⟩ = some (.int .i64 frm) ∧ W'.cell? ⟨w.heap.size, 3, none⟩ = some (.int .i64 gd) ∧ W'.cell? ⟨w.heap.size, 4, none⟩ = some (.slice o1 on o3) ∧ W'.cell? ⟨w.heap.size, 5, none⟩ = some (.int .i64 ix) ∧ W'.cell? ⟨w.heap.size, 6, none⟩ = some (.int .i64 ct) ∧ W'.cell? ⟨w.heap.size, 7, none⟩ = some (.string ⟨dt.toArray⟩) ∧ W'.cell? ⟨w.heap.size, 8, none⟩ = some (.int .u64 sa) ∧ W'.cell? ⟨w.heap.size, 9, none⟩ = some (.int .u64 sb) ∧ W'.cell? ⟨w.heap.size, 10, none⟩ = some (.int .u64 sc) ∧ W'.cell? ⟨w.heap.size, 11, none⟩ = some (.int .u64 sd) ∧ W'.cell? ⟨w.heap.size + 1, 0, none⟩ = some (.int .i64 kind) ∧ W'.cell? ⟨w.heap.size + 1, 1, none⟩ = some (.string ⟨nm.toArray⟩) ∧ W'.cell? ⟨w.heap.size + 1, 2, none⟩ = some (.int .i64 frm) ∧ W'.cell? ⟨w.heap.size + 1, 3, none⟩ = some (.int .i64 gd) ∧ W'.cell? ⟨w.heap.size + 1, 4, none⟩ = some (.slice o1' on o3') ∧ W'.cell? ⟨w.heap.size + 1, 5, none⟩ = some (.int .i64 ix) ∧ W'.cell? ⟨w.heap.size + 1, 6, none⟩ = some (.int .i64 ct) ∧ W'.cell? ⟨w.heap.size + 1, 7, none⟩ = some (.string ⟨dt.toArray⟩) ∧ W'.cell? ⟨w.heap.size + 1, 8, none⟩ = some (.int .u64 sa) ∧ W'.cell? ⟨w.heap.size + 1, 9, none⟩ = some (.int .u64 sb) ∧ W'.cell? ⟨w.heap.size + 1, 10, none⟩ = some (.int .u64 sc) ∧ W'.cell? ⟨w.heap.size + 1, 11, none⟩ = some (.int .u64 sd)))
  have HSZ := Lib.hid hsz
  have HB2 := Lib.hid hb2
  have hmv : ∀ W', Below W2.heap.size W2 W' → Below B w W' := fun W' hB' => (hb2.trans (hB'.mono (by omega))).mono hB
  have hC1 : Hid (∀ W, Below W2.heap.size W2 W → Calls Tryz.prog 96 #[.slice o1 on o3, .slice o1' on o3'] W fun e W' => e = .returned (.bool true) ∧ Below W.heap.size W W') := fun W h => psameT_any ol on hon o1 o1' o3 o3' W B (ho.below (hmv W h)) (ho'.below (hmv W h)) hom
  clear hb1 hb2 k1 k2 hsz hmv ho ho' hon
  have hW0 := Below.refl W2.heap.size W2
  go_enter Tryz.func99, Tryz.ntmps99
  obtain ⟨p0, p1, p2, p3, p4, p5, p6, p7, p8, p9, p10, p11, q0, q1, q2, q3, q4, q5, q6, q7, q8, q9, q10, q11⟩ := hS.out _ hW0
  go_wp2_with (fail)
  rw [← hW2]
  clear hW2
  refine (hC1.out _ hW0).mono ?_
  rintro e w3 ⟨rfl, hb3⟩
  have hW3 := hW0.trans (hb3.mono hW0.size)
  clear hb3 hC1 p0 p1 p2 p3 p4 p5 p6 p7 p8 p9 p10 p11 q0 q1 q2 q3 q4 q5 q6 q7 q8 q9 q10 q11
  obtain ⟨p0, p1, p2, p3, p4, p5, p6, p7, p8, p9, p10, p11, q0, q1, q2, q3, q4, q5, q6, q7, q8, q9, q10, q11⟩ := hS.out _ hW3
  go_wp2_with fail
  go_ret
  exact ⟨rfl, HB2.out.trans (hW3.mono (by have := HSZ.out; omega))⟩
set_option maxRecDepth 100000 in
set_option maxHeartbeats 4000000 in
theorem tsameStageT_any (into : BS) (kind : Int) (nm : BS) (frm gd : Int) (ix ct : Int) (dt : BS) (sa sb sc sd : Int) (at_ nx ua ub uc ud : Int) (done : Bool) (ol : List (BS × BS)) (o1 o1' : Option Addr) (on o3 o3' : Nat) (bl : List BlkT) (b1 b1' : Option Addr) (bn b3 b3' : Nat)  (w : World) (B : Nat) (hB : B ≤ w.heap.size) (hon : on = ol.length) (ho : Reads w B 2 o1 on (cellsK encP ol)) (ho' : Reads w B 2 o1' on (cellsK encP ol)) (hom : on ≤ 1000000000000) (hbn : bn = bl.length) (hb : Reads w B 2 b1 bn (cellsK encB bl)) (hb' : Reads w B 2 b1' bn (cellsK encB bl)) (hbm : bn ≤ 1000000000000)  :
    Calls Tryz.prog 48 #[.agg #[.string ⟨into.toArray⟩, .int .i64 kind, .string ⟨nm.toArray⟩, .int .i64 frm, .int .i64 gd, .slice o1 on o3, .int .i64 ix, .int .i64 ct, .string ⟨dt.toArray⟩, .int .u64 sa, .int .u64 sb, .int .u64 sc, .int .u64 sd, .slice b1 bn b3, .int .i64 at_, .int .i64 nx, .int .u64 ua, .int .u64 ub, .int .u64 uc, .int .u64 ud, .bool done], .agg #[.string ⟨into.toArray⟩, .int .i64 kind, .string ⟨nm.toArray⟩, .int .i64 frm, .int .i64 gd, .slice o1' on o3', .int .i64 ix, .int .i64 ct, .string ⟨dt.toArray⟩, .int .u64 sa, .int .u64 sb, .int .u64 sc, .int .u64 sd, .slice b1' bn b3', .int .i64 at_, .int .i64 nx, .int .u64 ua, .int .u64 ub, .int .u64 uc, .int .u64 ud, .bool done]] w fun e w' => e = .returned (.bool true) ∧ Below w.heap.size w w' := by
  have hb1 := (Below.refl w.heap.size w).alloc (Nat.le_refl _) (.cells #[.string ⟨into.toArray⟩, .int .i64 kind, .string ⟨nm.toArray⟩, .int .i64 frm, .int .i64 gd, .slice o1 on o3, .int .i64 ix, .int .i64 ct, .string ⟨dt.toArray⟩, .int .u64 sa, .int .u64 sb, .int .u64 sc, .int .u64 sd, .slice b1 bn b3, .int .i64 at_, .int .i64 nx, .int .u64 ua, .int .u64 ub, .int .u64 uc, .int .u64 ud, .bool done] 73)
  have hb2 := hb1.alloc hb1.size (.cells #[.string ⟨into.toArray⟩, .int .i64 kind, .string ⟨nm.toArray⟩, .int .i64 frm, .int .i64 gd, .slice o1' on o3', .int .i64 ix, .int .i64 ct, .string ⟨dt.toArray⟩, .int .u64 sa, .int .u64 sb, .int .u64 sc, .int .u64 sd, .slice b1' bn b3', .int .i64 at_, .int .i64 nx, .int .u64 ua, .int .u64 ub, .int .u64 uc, .int .u64 ud, .bool done] 73)
  have k1 := (Blk.new w 73 #[.string ⟨into.toArray⟩, .int .i64 kind, .string ⟨nm.toArray⟩, .int .i64 frm, .int .i64 gd, .slice o1 on o3, .int .i64 ix, .int .i64 ct, .string ⟨dt.toArray⟩, .int .u64 sa, .int .u64 sb, .int .u64 sc, .int .u64 sd, .slice b1 bn b3, .int .i64 at_, .int .i64 nx, .int .u64 ua, .int .u64 ub, .int .u64 uc, .int .u64 ud, .bool done]).alloc (.cells #[.string ⟨into.toArray⟩, .int .i64 kind, .string ⟨nm.toArray⟩, .int .i64 frm, .int .i64 gd, .slice o1' on o3', .int .i64 ix, .int .i64 ct, .string ⟨dt.toArray⟩, .int .u64 sa, .int .u64 sb, .int .u64 sc, .int .u64 sd, .slice b1' bn b3', .int .i64 at_, .int .i64 nx, .int .u64 ua, .int .u64 ub, .int .u64 uc, .int .u64 ud, .bool done] 73)
  have k2 := Blk.new (w.alloc (.cells #[.string ⟨into.toArray⟩, .int .i64 kind, .string ⟨nm.toArray⟩, .int .i64 frm, .int .i64 gd, .slice o1 on o3, .int .i64 ix, .int .i64 ct, .string ⟨dt.toArray⟩, .int .u64 sa, .int .u64 sb, .int .u64 sc, .int .u64 sd, .slice b1 bn b3, .int .i64 at_, .int .i64 nx, .int .u64 ua, .int .u64 ub, .int .u64 uc, .int .u64 ud, .bool done] 73)) 73 #[.string ⟨into.toArray⟩, .int .i64 kind, .string ⟨nm.toArray⟩, .int .i64 frm, .int .i64 gd, .slice o1' on o3', .int .i64 ix, .int .i64 ct, .string ⟨dt.toArray⟩, .int .u64 sa, .int .u64 sb, .int .u64 sc, .int .u64 sd, .slice b1' bn b3', .int .i64 at_, .int .i64 nx, .int .u64 ua, .int .u64 ub, .int .u64 uc, .int .u64 ud, .bool done]
  rw [show (w.alloc (.cells #[.string ⟨into.toArray⟩, .int .i64 kind, .string ⟨nm.toArray⟩, .int .i64 frm, .int .i64 gd, .slice o1 on o3, .int .i64 ix, .int .i64 ct, .string ⟨dt.toArray⟩, .int .u64 sa, .int .u64 sb, .int .u64 sc, .int .u64 sd, .slice b1 bn b3, .int .i64 at_, .int .i64 nx, .int .u64 ua, .int .u64 ub, .int .u64 uc, .int .u64 ud, .bool done] 73)).heap.size = w.heap.size + 1 by simp] at k2
  obtain ⟨W2, hW2⟩ : ∃ W, W = (w.alloc (.cells #[.string ⟨into.toArray⟩, .int .i64 kind, .string ⟨nm.toArray⟩, .int .i64 frm, .int .i64 gd, .slice o1 on o3, .int .i64 ix, .int .i64 ct, .string ⟨dt.toArray⟩, .int .u64 sa, .int .u64 sb, .int .u64 sc, .int .u64 sd, .slice b1 bn b3, .int .i64 at_, .int .i64 nx, .int .u64 ua, .int .u64 ub, .int .u64 uc, .int .u64 ud, .bool done] 73)).alloc (.cells #[.string ⟨into.toArray⟩, .int .i64 kind, .string ⟨nm.toArray⟩, .int .i64 frm, .int .i64 gd, .slice o1' on o3', .int .i64 ix, .int .i64 ct, .string ⟨dt.toArray⟩, .int .u64 sa, .int .u64 sb, .int .u64 sc, .int .u64 sd, .slice b1' bn b3', .int .i64 at_, .int .i64 nx, .int .u64 ua, .int .u64 ub, .int .u64 uc, .int .u64 ud, .bool done] 73) := ⟨_, rfl⟩
  have hsz : W2.heap.size = w.heap.size + 2 := by rw [hW2]; simp
  rw [← hW2] at hb2 k1 k2
  have hS := Lib.hid (fun (W' : World) (hB' : Below W2.heap.size W2 W') => (⟨(k1.below hB' (by omega)).cell 0, (k1.below hB' (by omega)).cell 1, (k1.below hB' (by omega)).cell 2, (k1.below hB' (by omega)).cell 3, (k1.below hB' (by omega)).cell 4, (k1.below hB' (by omega)).cell 5, (k1.below hB' (by omega)).cell 6, (k1.below hB' (by omega)).cell 7, (k1.below hB' (by omega)).cell 8, (k1.below hB' (by omega)).cell 9, (k1.below hB' (by omega)).cell 10, (k1.below hB' (by omega)).cell 11, (k1.below hB' (by omega)).cell 12, (k1.below hB' (by omega)).cell 13, (k1.below hB' (by omega)).cell 14, (k1.below hB' (by omega)).cell 15, (k1.below hB' (by omega)).cell 16, (k1.below hB' (by omega)).cell 17, (k1.below hB' (by omega)).cell 18, (k1.below hB' (by omega)).cell 19, (k1.below hB' (by omega)).cell 20, (k2.below hB' (by omega)).cell 0, (k2.below hB' (by omega)).cell 1, (k2.below hB' (by omega)).cell 2, (k2.below hB' (by omega)).cell 3, (k2.below hB' (by omega)).cell 4, (k2.below hB' (by omega)).cell 5, (k2.below hB' (by omega)).cell 6, (k2.below hB' (by omega)).cell 7, (k2.below hB' (by omega)).cell 8, (k2.below hB' (by omega)).cell 9, (k2.below hB' (by omega)).cell 10, (k2.below hB' (by omega)).cell 11, (k2.below hB' (by omega)).cell 12, (k2.below hB' (by omega)).cell 13, (k2.below hB' (by omega)).cell 14, (k2.below hB' (by omega)).cell 15, (k2.below hB' (by omega)).cell 16, (k2.below hB' (by omega)).cell 17, (k2.below hB' (by omega)).cell 18, (k2.below hB' (by omega)).cell 19, (k2.below hB' (by omega)).cell 20⟩ : W'.cell? ⟨w.heap.size, 0, none⟩ = some (.string ⟨into.toArray⟩) ∧ W'.cell? ⟨w.heap.size, 1, none⟩ = some (.int .i64 kind) ∧ W'.cell? ⟨w.heap.size, 2, none⟩ = some (.string ⟨nm.toArray⟩) ∧ W'.cell? ⟨w.heap.size, 3, none⟩ = some (.int .i64 frm) ∧ W'.cell? ⟨w.heap.size, 4, none⟩ = some (.int .i64 gd) ∧ W'.cell? ⟨w.heap.size, 5, none⟩ = some (.slice o1 on o3) ∧ W'.cell? ⟨w.heap.size, 6, none⟩ = some (.int .i64 ix) ∧ W'.cell? ⟨w.heap.size, 7, none⟩ = some (.int .i64 ct) ∧ W'.cell? ⟨w.heap.size, 8, none⟩ = some (.string ⟨dt.toArray⟩) ∧ W'.cell? ⟨w.heap.size, 9, none⟩ = some (.int .u64 sa) ∧ W'.cell? ⟨w.heap.size, 10, none⟩ = some (.int .u64 sb) ∧ W'.cell? ⟨w.heap.size, 11, none⟩ = some (.int .u64 sc) ∧ W'.cell? ⟨w.heap.size, 12, none⟩ = some (.int .u64 sd) ∧ W'.cell? ⟨w.heap.size, 13, none⟩ = some (.slice b1 bn b3) ∧ W'.cell? ⟨w.heap.size, 14, none⟩ = some (.int .i64 at_) ∧ W'.cell? ⟨w.heap.size, 15, none⟩ = some (.int .i64 nx) ∧ W'.cell? ⟨w.heap.size, 16, none⟩ = some (.int .u64 ua) ∧ W'.cell? ⟨w.heap.size, 17, none⟩ = some (.int .u64 ub) ∧ W'.cell? ⟨w.heap.size, 18, none⟩ = some (.int .u64 uc) ∧ W'.cell? ⟨w.heap.size, 19, none⟩ = some (.int .u64 ud) ∧ W'.cell? ⟨w.heap.size, 20, none⟩ = some (.bool done) ∧ W'.cell? ⟨w.heap.size + 1, 0, none⟩ = some (.string ⟨into.toArray⟩) ∧ W'.cell? ⟨w.heap.size + 1, 1, none⟩ = some (.int .i64 kind) ∧ W'.cell? ⟨w.heap.size + 1, 2, none⟩ = some (.string ⟨nm.toArray⟩) ∧ W'.cell? ⟨w.heap.size + 1, 3, none⟩ = some (.int .i64 frm) ∧ W'.cell? ⟨w.heap.size + 1, 4, none⟩ = some (.int .i64 gd) ∧ W'.cell? ⟨w.heap.size + 1, 5, none⟩ = some (.slice o1' on o3') ∧ W'.cell? ⟨w.heap.size + 1, 6, none⟩ = some (.int .i64 ix) ∧ W'.cell? ⟨w.heap.size + 1, 7, none⟩ = some (.int .i64 ct) ∧ W'.cell? ⟨w.heap.size + 1, 8, none⟩ = some (.string ⟨dt.toArray⟩) ∧ W'.cell? ⟨w.heap.size + 1, 9, none⟩ = some (.int .u64 sa) ∧ W'.cell? ⟨w.heap.size + 1, 10, none⟩ = some (.int .u64 sb) ∧ W'.cell? ⟨w.heap.size + 1, 11, none⟩ = some (.int .u64 sc) ∧ W'.cell? ⟨w.heap.size + 1, 12, none⟩ = some (.int .u64 sd) ∧ W'.cell? ⟨w.heap.size + 1, 13, none⟩ = some (.slice b1' bn b3') ∧ W'.cell? ⟨w.heap.size + 1, 14, none⟩ = some (.int .i64 at_) ∧ W'.cell? ⟨w.heap.size + 1, 15, none⟩ = some (.int .i64 nx) ∧ W'.cell? ⟨w.heap.size + 1, 16, none⟩ = some (.int .u64 ua) ∧ W'.cell? ⟨w.heap.size + 1, 17, none⟩ = some (.int .u64 ub) ∧ W'.cell? ⟨w.heap.size + 1, 18, none⟩ = some (.int .u64 uc) ∧ W'.cell? ⟨w.heap.size + 1, 19, none⟩ = some (.int .u64 ud) ∧ W'.cell? ⟨w.heap.size + 1, 20, none⟩ = some (.bool done)))
  have HSZ := Lib.hid hsz
  have HB2 := Lib.hid hb2
  have hmv : ∀ W', Below W2.heap.size W2 W' → Below B w W' := fun W' hB' => (hb2.trans (hB'.mono (by omega))).mono hB
  have hC1 : Hid (∀ W, Below W2.heap.size W2 W → Calls Tryz.prog 95 #[.slice b1 bn b3, .slice b1' bn b3'] W fun e W' => e = .returned (.bool true) ∧ Below W.heap.size W W') := fun W h => bsameT_any bl bn hbn b1 b1' b3 b3' W B (hb.below (hmv W h)) (hb'.below (hmv W h)) hbm
  have hC2 : Hid (∀ W, Below W2.heap.size W2 W → Calls Tryz.prog 99 #[.agg #[.int .i64 kind, .string ⟨nm.toArray⟩, .int .i64 frm, .int .i64 gd, .slice o1 on o3, .int .i64 ix, .int .i64 ct, .string ⟨dt.toArray⟩, .int .u64 sa, .int .u64 sb, .int .u64 sc, .int .u64 sd], .agg #[.int .i64 kind, .string ⟨nm.toArray⟩, .int .i64 frm, .int .i64 gd, .slice o1' on o3', .int .i64 ix, .int .i64 ct, .string ⟨dt.toArray⟩, .int .u64 sa, .int .u64 sb, .int .u64 sc, .int .u64 sd]] W fun e W' => e = .returned (.bool true) ∧ Below W.heap.size W W') := fun W h => tsameRecT_any kind nm frm gd ix ct dt sa sb sc sd ol o1 o1' on o3 o3' W B (by have := h.size; omega) hon (ho.below (hmv W h)) (ho'.below (hmv W h)) hom
  clear hb1 hb2 k1 k2 hsz hmv ho ho' hon hb hb' hbn
  have hW0 := Below.refl W2.heap.size W2
  go_enter Tryz.func48, Tryz.ntmps48
  obtain ⟨p0, p1, p2, p3, p4, p5, p6, p7, p8, p9, p10, p11, p12, p13, p14, p15, p16, p17, p18, p19, p20, q0, q1, q2, q3, q4, q5, q6, q7, q8, q9, q10, q11, q12, q13, q14, q15, q16, q17, q18, q19, q20⟩ := hS.out _ hW0
  go_wp2_with (fail)
  rw [← hW2]
  clear hW2
  refine (hC1.out _ hW0).mono ?_
  rintro e w3 ⟨rfl, hb3⟩
  have hW3 := hW0.trans (hb3.mono hW0.size)
  clear hb3 hC1 p0 p1 p2 p3 p4 p5 p6 p7 p8 p9 p10 p11 p12 p13 p14 p15 p16 p17 p18 p19 p20 q0 q1 q2 q3 q4 q5 q6 q7 q8 q9 q10 q11 q12 q13 q14 q15 q16 q17 q18 q19 q20
  obtain ⟨p0, p1, p2, p3, p4, p5, p6, p7, p8, p9, p10, p11, p12, p13, p14, p15, p16, p17, p18, p19, p20, q0, q1, q2, q3, q4, q5, q6, q7, q8, q9, q10, q11, q12, q13, q14, q15, q16, q17, q18, q19, q20⟩ := hS.out _ hW3
  go_wp2_with fail
  refine (hC2.out _ hW3).mono ?_
  rintro e w4 ⟨rfl, hb4⟩
  have hW4 := hW3.trans (hb4.mono hW3.size)
  clear hb4 hC2 p0 p1 p2 p3 p4 p5 p6 p7 p8 p9 p10 p11 p12 p13 p14 p15 p16 p17 p18 p19 p20 q0 q1 q2 q3 q4 q5 q6 q7 q8 q9 q10 q11 q12 q13 q14 q15 q16 q17 q18 q19 q20
  obtain ⟨p0, p1, p2, p3, p4, p5, p6, p7, p8, p9, p10, p11, p12, p13, p14, p15, p16, p17, p18, p19, p20, q0, q1, q2, q3, q4, q5, q6, q7, q8, q9, q10, q11, q12, q13, q14, q15, q16, q17, q18, q19, q20⟩ := hS.out _ hW4
  go_wp2_with fail
  go_ret
  exact ⟨rfl, HB2.out.trans (hW4.mono (by have := HSZ.out; omega))⟩
theorem tsameStageR_any (x y : StageR) (h : x.eqv y) (w : World) (B : Nat) (hB : B ≤ w.heap.size) (hx : x.rd w B) (hy : y.rd w B) (hz : x.sz) :
    Calls Tryz.prog 48 #[.agg (encStage x).toArray, .agg (encStage y).toArray] w fun e w' => e = .returned (.bool true) ∧ Below w.heap.size w w' := by
  obtain ⟨h1, h2, h3, h4, h5, h6, h7, h8, h9, h10, h11, h12, h13, h14, h15⟩ := h
  obtain ⟨into, kind, nm, frm, gd, ⟨o1, on, o3, ol⟩, ix, ct, dt, ⟨sa, sb, sc, sd⟩, ⟨b1, bn, b3, bl⟩, at_, nx, ⟨ua, ub, uc, ud⟩, done⟩ := x
  obtain ⟨into', kind', nm', frm', gd', ⟨o1', on', o3', ol'⟩, ix', ct', dt', sm', ⟨b1', bn', b3', bl'⟩, at_', nx', sum', done'⟩ := y
  simp only at h1 h2 h3 h4 h5 h6 h7 h8 h9 h10 h11 h12 h13 h14 h15
  subst h1 h2 h3 h4 h5 h6 h7 h8 h9 h10 h11 h12 h13 h14 h15
  have e1 : bn' = bn := hy.body.1.trans hx.body.1.symm
  have e3 : on' = on := hy.own.1.trans hx.own.1.symm
  subst e1 e3
  exact tsameStageT_any into kind nm frm gd ix ct dt sa sb sc sd at_ nx ua ub uc ud done ol o1 o1' on' o3 o3' bl b1 b1' bn' b3 b3' w B hB hx.own.1 hx.own.2.2 hy.own.2.2 hz.own hx.body.1 hx.body.2.2 hy.body.2.2 hz.body
theorem cmpIntSame_any (x : Int) (w : World) : Calls Tryz.prog 43 #[.int .i64 x, .int .i64 x] w fun e w' => e = .returned (.int .i64 0) ∧ Below w.heap.size w w' := by
  have hnan : ∀ W : World, Calls Tryz.prog 94 #[.int .i64 x] W fun e w' => e = .returned (.bool false) ∧ w' = W := by
    intro W
    go_enter Tryz.func94, Tryz.ntmps94
    go_wp2_with fail
    go_ret
    exact ⟨rfl, rfl⟩
  go_enter Tryz.func43, Tryz.ntmps43
  go_wp2_with fail
  refine (hnan _).mono ?_
  rintro e w1 ⟨rfl, rfl⟩
  go_wp2_with fail
  refine (hnan _).mono ?_
  rintro e w2 ⟨rfl, rfl⟩
  have h1 : ¬ x < x := by omega
  have h2 : ¬ x > x := by omega
  go_wp2_with fail
  go_ret
  exact ⟨rfl, Below.refl _ _⟩
set_option maxRecDepth 100000 in
set_option maxHeartbeats 4000000 in
theorem tsameTenT_any (nm : BS) (qu nx : Int) (sl sl' : List SetR) (s1 s1' : Option Addr) (sn s3 s3' : Nat) (gl : List GT) (g1 g1' : Option Addr) (gn g3 g3' : Nat) (tl tl' : List StageR) (t1 t1' : Option Addr) (tn t3 t3' : Nat) (ll : List EntryR) (l1 l1' : Option Addr) (ln l3 l3' : Nat)  (w : World) (B : Nat) (hB : B ≤ w.heap.size) (hsn : sn = sl.length) (hsn' : sn = sl'.length) (hs : Reads w B 5 s1 sn (cellsK encSet sl)) (hs' : Reads w B 5 s1' sn (cellsK encSet sl')) (hsm : sn ≤ 1000000000000) (hse : ∀ y ∈ sl, y.rd w B) (hse' : ∀ y ∈ sl', y.rd w B) (hsq : ∀ i (h : i < sl.length) (h' : i < sl'.length), (sl[i]'h).eqv (sl'[i]'h')) (hss : ∀ y ∈ sl, y.sz) (hgn : gn = gl.length) (hg : Reads w B 3 g1 gn (cellsK encG gl)) (hg' : Reads w B 3 g1' gn (cellsK encG gl)) (hgm : gn ≤ 1000000000000) (htn : tn = tl.length) (htn' : tn = tl'.length) (ht : Reads w B 21 t1 tn (cellsK encStage tl)) (ht' : Reads w B 21 t1' tn (cellsK encStage tl')) (htm : tn ≤ 1000000000000) (hte : ∀ y ∈ tl, y.rd w B) (hte' : ∀ y ∈ tl', y.rd w B) (htq : ∀ i (h : i < tl.length) (h' : i < tl'.length), (tl[i]'h).eqv (tl'[i]'h')) (hts : ∀ y ∈ tl, y.sz) (hln : ln = ll.length) (hl : Reads w B 4 l1 ln (cellsK encEntry ll)) (hl' : Reads w B 4 l1' ln (cellsK encEntry ll)) (hlm : ln ≤ 1000000000000)  :
    Calls Tryz.prog 12 #[.agg #[.string ⟨nm.toArray⟩, .int .i64 qu, .int .i64 nx, .slice s1 sn s3, .slice g1 gn g3, .slice t1 tn t3, .slice l1 ln l3], .agg #[.string ⟨nm.toArray⟩, .int .i64 qu, .int .i64 nx, .slice s1' sn s3', .slice g1' gn g3', .slice t1' tn t3', .slice l1' ln l3']] w fun e w' => e = .returned (.bool true) ∧ Below w.heap.size w w' := by
  have hb1 := (Below.refl w.heap.size w).alloc (Nat.le_refl _) (.cells #[.string ⟨nm.toArray⟩, .int .i64 qu, .int .i64 nx, .slice s1 sn s3, .slice g1 gn g3, .slice t1 tn t3, .slice l1 ln l3] 27)
  have hb2 := hb1.alloc hb1.size (.cells #[.string ⟨nm.toArray⟩, .int .i64 qu, .int .i64 nx, .slice s1' sn s3', .slice g1' gn g3', .slice t1' tn t3', .slice l1' ln l3'] 27)
  have k1 := (Blk.new w 27 #[.string ⟨nm.toArray⟩, .int .i64 qu, .int .i64 nx, .slice s1 sn s3, .slice g1 gn g3, .slice t1 tn t3, .slice l1 ln l3]).alloc (.cells #[.string ⟨nm.toArray⟩, .int .i64 qu, .int .i64 nx, .slice s1' sn s3', .slice g1' gn g3', .slice t1' tn t3', .slice l1' ln l3'] 27)
  have k2 := Blk.new (w.alloc (.cells #[.string ⟨nm.toArray⟩, .int .i64 qu, .int .i64 nx, .slice s1 sn s3, .slice g1 gn g3, .slice t1 tn t3, .slice l1 ln l3] 27)) 27 #[.string ⟨nm.toArray⟩, .int .i64 qu, .int .i64 nx, .slice s1' sn s3', .slice g1' gn g3', .slice t1' tn t3', .slice l1' ln l3']
  rw [show (w.alloc (.cells #[.string ⟨nm.toArray⟩, .int .i64 qu, .int .i64 nx, .slice s1 sn s3, .slice g1 gn g3, .slice t1 tn t3, .slice l1 ln l3] 27)).heap.size = w.heap.size + 1 by simp] at k2
  obtain ⟨W2, hW2⟩ : ∃ W, W = (w.alloc (.cells #[.string ⟨nm.toArray⟩, .int .i64 qu, .int .i64 nx, .slice s1 sn s3, .slice g1 gn g3, .slice t1 tn t3, .slice l1 ln l3] 27)).alloc (.cells #[.string ⟨nm.toArray⟩, .int .i64 qu, .int .i64 nx, .slice s1' sn s3', .slice g1' gn g3', .slice t1' tn t3', .slice l1' ln l3'] 27) := ⟨_, rfl⟩
  have hsz : W2.heap.size = w.heap.size + 2 := by rw [hW2]; simp
  rw [← hW2] at hb2 k1 k2
  have hS := Lib.hid (fun (W' : World) (hB' : Below W2.heap.size W2 W') => (⟨(k1.below hB' (by omega)).cell 0, (k1.below hB' (by omega)).cell 1, (k1.below hB' (by omega)).cell 2, (k1.below hB' (by omega)).cell 3, (k1.below hB' (by omega)).cell 4, (k1.below hB' (by omega)).cell 5, (k1.below hB' (by omega)).cell 6, (k2.below hB' (by omega)).cell 0, (k2.below hB' (by omega)).cell 1, (k2.below hB' (by omega)).cell 2, (k2.below hB' (by omega)).cell 3, (k2.below hB' (by omega)).cell 4, (k2.below hB' (by omega)).cell 5, (k2.below hB' (by omega)).cell 6⟩ : W'.cell? ⟨w.heap.size, 0, none⟩ = some (.string ⟨nm.toArray⟩) ∧ W'.cell? ⟨w.heap.size, 1, none⟩ = some (.int .i64 qu) ∧ W'.cell? ⟨w.heap.size, 2, none⟩ = some (.int .i64 nx) ∧ W'.cell? ⟨w.heap.size, 3, none⟩ = some (.slice s1 sn s3) ∧ W'.cell? ⟨w.heap.size, 4, none⟩ = some (.slice g1 gn g3) ∧ W'.cell? ⟨w.heap.size, 5, none⟩ = some (.slice t1 tn t3) ∧ W'.cell? ⟨w.heap.size, 6, none⟩ = some (.slice l1 ln l3) ∧ W'.cell? ⟨w.heap.size + 1, 0, none⟩ = some (.string ⟨nm.toArray⟩) ∧ W'.cell? ⟨w.heap.size + 1, 1, none⟩ = some (.int .i64 qu) ∧ W'.cell? ⟨w.heap.size + 1, 2, none⟩ = some (.int .i64 nx) ∧ W'.cell? ⟨w.heap.size + 1, 3, none⟩ = some (.slice s1' sn s3') ∧ W'.cell? ⟨w.heap.size + 1, 4, none⟩ = some (.slice g1' gn g3') ∧ W'.cell? ⟨w.heap.size + 1, 5, none⟩ = some (.slice t1' tn t3') ∧ W'.cell? ⟨w.heap.size + 1, 6, none⟩ = some (.slice l1' ln l3')))
  have HSZ := Lib.hid hsz
  have HB2 := Lib.hid hb2
  have hmv : ∀ W', Below W2.heap.size W2 W' → Below B w W' := fun W' hB' => (hb2.trans (hB'.mono (by omega))).mono hB
  have hCc : Hid (∀ W, Below W2.heap.size W2 W → Calls Tryz.prog 43 #[.int .i64 qu, .int .i64 qu] W fun e W' => e = .returned (.int .i64 0) ∧ Below W.heap.size W W') := fun W h => cmpIntSame_any qu W
  have hCs : Hid (∀ W, Below W2.heap.size W2 W → Calls Tryz.prog 44 #[.slice s1 sn s3, .slice s1' sn s3', .func (.func 45) #[] #[]] W fun e W' => e = .returned (.bool true) ∧ Below W.heap.size W W') := fun W h => eqfSet_any sl sl' sn hsn hsn' s1 s1' s3 s3' W B (by have := h.size; omega) (hs.below (hmv W h)) (hs'.below (hmv W h)) hsm (fun i hi hi' W' hW' => tsameSetR_any _ _ (hsq i hi hi') W' B (by have := h.size; have := hW'.size; omega) (rdT (hse _ (List.getElem_mem hi)) ((hmv W h).trans (hW'.mono (by have := h.size; omega)))) (rdT (hse' _ (List.getElem_mem hi')) ((hmv W h).trans (hW'.mono (by have := h.size; omega)))) (hss _ (List.getElem_mem hi)))
  have hCg : Hid (∀ W, Below W2.heap.size W2 W → Calls Tryz.prog 46 #[.slice g1 gn g3, .slice g1' gn g3'] W fun e W' => e = .returned (.bool true) ∧ Below W.heap.size W W') := fun W h => eqlG_any gl gn hgn g1 g1' g3 g3' W B (hg.below (hmv W h)) (hg'.below (hmv W h)) hgm
  have hCt : Hid (∀ W, Below W2.heap.size W2 W → Calls Tryz.prog 47 #[.slice t1 tn t3, .slice t1' tn t3', .func (.func 48) #[] #[]] W fun e W' => e = .returned (.bool true) ∧ Below W.heap.size W W') := fun W h => eqfStage_any tl tl' tn htn htn' t1 t1' t3 t3' W B (by have := h.size; omega) (ht.below (hmv W h)) (ht'.below (hmv W h)) htm (fun i hi hi' W' hW' => tsameStageR_any _ _ (htq i hi hi') W' B (by have := h.size; have := hW'.size; omega) (rdG (hte _ (List.getElem_mem hi)) ((hmv W h).trans (hW'.mono (by have := h.size; omega)))) (rdG (hte' _ (List.getElem_mem hi')) ((hmv W h).trans (hW'.mono (by have := h.size; omega)))) (hts _ (List.getElem_mem hi)))
  have hCl : Hid (∀ W, Below W2.heap.size W2 W → Calls Tryz.prog 49 #[.slice l1 ln l3, .slice l1' ln l3'] W fun e W' => e = .returned (.bool true) ∧ Below W.heap.size W W') := fun W h => eqlE_any ll ln hln l1 l1' l3 l3' W B (hl.below (hmv W h)) (hl'.below (hmv W h)) hlm
  clear hb1 hb2 k1 k2 hsz hmv hg hg' hgn hl hl' hln hs hs' hsn hsn' hse hse' hsq hss ht ht' htn htn' hte hte' htq hts
  have hW0 := Below.refl W2.heap.size W2
  go_enter Tryz.func12, Tryz.ntmps12
  obtain ⟨p0, p1, p2, p3, p4, p5, p6, q0, q1, q2, q3, q4, q5, q6⟩ := hS.out _ hW0
  go_wp2_with (fail)
  rw [← hW2]
  clear hW2
  refine (hCc.out _ hW0).mono ?_
  rintro e w3 ⟨rfl, hb3⟩
  have hW3 := hW0.trans (hb3.mono hW0.size)
  clear hb3 hCc p0 p1 p2 p3 p4 p5 p6 q0 q1 q2 q3 q4 q5 q6
  obtain ⟨p0, p1, p2, p3, p4, p5, p6, q0, q1, q2, q3, q4, q5, q6⟩ := hS.out _ hW3
  go_wp2_with fail
  refine (hCs.out _ hW3).mono ?_
  rintro e w4 ⟨rfl, hb4⟩
  have hW4 := hW3.trans (hb4.mono hW3.size)
  clear hb4 hCs p0 p1 p2 p3 p4 p5 p6 q0 q1 q2 q3 q4 q5 q6
  obtain ⟨p0, p1, p2, p3, p4, p5, p6, q0, q1, q2, q3, q4, q5, q6⟩ := hS.out _ hW4
  go_wp2_with fail
  refine (hCg.out _ hW4).mono ?_
  rintro e w5 ⟨rfl, hb5⟩
  have hW5 := hW4.trans (hb5.mono hW4.size)
  clear hb5 hCg p0 p1 p2 p3 p4 p5 p6 q0 q1 q2 q3 q4 q5 q6
  obtain ⟨p0, p1, p2, p3, p4, p5, p6, q0, q1, q2, q3, q4, q5, q6⟩ := hS.out _ hW5
  go_wp2_with fail
  refine (hCt.out _ hW5).mono ?_
  rintro e w6 ⟨rfl, hb6⟩
  have hW6 := hW5.trans (hb6.mono hW5.size)
  clear hb6 hCt p0 p1 p2 p3 p4 p5 p6 q0 q1 q2 q3 q4 q5 q6
  obtain ⟨p0, p1, p2, p3, p4, p5, p6, q0, q1, q2, q3, q4, q5, q6⟩ := hS.out _ hW6
  go_wp2_with fail
  refine (hCl.out _ hW6).mono ?_
  rintro e w7 ⟨rfl, hb7⟩
  have hW7 := hW6.trans (hb7.mono hW6.size)
  clear hb7 hCl p0 p1 p2 p3 p4 p5 p6 q0 q1 q2 q3 q4 q5 q6
  obtain ⟨p0, p1, p2, p3, p4, p5, p6, q0, q1, q2, q3, q4, q5, q6⟩ := hS.out _ hW7
  go_wp2_with fail
  go_ret
  exact ⟨rfl, HB2.out.trans (hW7.mono (by have := HSZ.out; omega))⟩
theorem tsame_any (x y : TenR) (h : x.eqv y) (w : World) (B : Nat) (hB : B ≤ w.heap.size) (hx : x.rd w B) (hy : y.rd w B) (hz : x.sz) :
    Calls Tryz.prog 12 #[x.val, y.val] w fun e w' => e = .returned (.bool true) ∧ Below w.heap.size w w' := by
  obtain ⟨h1, h2, h3, h4, h5, h6, h7, h8, h9⟩ := h
  obtain ⟨nm, quota, next, ⟨s1, sn, s3, sl⟩, ⟨g1, gn, g3, gl⟩, ⟨t1, tn, t3, tl⟩, ⟨l1, ln, l3, ll⟩⟩ := x
  obtain ⟨nm', quota', next', ⟨s1', sn', s3', sl'⟩, ⟨g1', gn', g3', gl'⟩, ⟨t1', tn', t3', tl'⟩, ⟨l1', ln', l3', ll'⟩⟩ := y
  simp only at h1 h2 h3 h4 h5 h6 h7 h8 h9
  subst h1 h2 h3 h6 h9
  have e1 : sn' = sn := by rw [show sn' = sl'.length from hy.sets.1, show sn = sl.length from hx.sets.1, h4]
  have e2 : gn' = gn := hy.grants.1.trans hx.grants.1.symm
  have e3 : tn' = tn := by rw [show tn' = tl'.length from hy.stages.1, show tn = tl.length from hx.stages.1, h7]
  have e4 : ln' = ln := hy.log.1.trans hx.log.1.symm
  subst e1 e2 e3 e4
  exact tsameTenT_any nm quota next sl sl' s1 s1' sn' s3 s3' gl g1 g1' gn' g3 g3' tl tl' t1 t1' tn' t3 t3' ll l1 l1' ln' l3 l3' w B hB hx.sets.1 hy.sets.1 hx.sets.2.2 hy.sets.2.2 hz.sets hx.eachS hy.eachS h5 hz.eachS hx.grants.1 hx.grants.2.2 hy.grants.2.2 hz.grants hx.stages.1 hy.stages.1 hx.stages.2.2 hy.stages.2.2 hz.stages hx.eachG hy.eachG h8 hz.eachT hx.log.1 hx.log.2.2 hy.log.2.2 hz.log
end Go.Proofs.YtbppdlhbjddhjaaGreatDoor
