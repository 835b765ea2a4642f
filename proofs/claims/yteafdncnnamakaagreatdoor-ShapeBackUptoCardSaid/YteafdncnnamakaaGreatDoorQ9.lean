/-
 tree.each at snapshots, sets and stages, over any contract of what copies one.
-/
import Derived.Test.YteafdncnnamakaaGreatDoorQ8
import Derived.Test.YteafdncnnamakaaGreatDoorWide3
import Derived.Test.YteafdncnnamakaaGreatDoorRowW
import Derived.Test.YteafdncnnamakaaGreatDoorRgBox
import Derived.Test.YteafdncnnamakaaGreatDoorQ4
import Derived.Test.YteafdncnnamakaaGreatDoorQ7
import Derived.Test.YteafdncnnamakaaGreatDoorQ6
import Derived.Test.YteafdncnnamakaaGreatDoorQ3
import Derived.Test.YteafdncnnamakaaGreatDoorPmClone
import Derived.Test.YteafdncnnamakaaGreatDoorFsSet
namespace Go.Proofs.YteafdncnnamakaaGreatDoor
open Go.RowKit

/-- what a copy is: it stands under all that is done elsewhere -/
structure Kept {α : Type} (O : Nat → World → α → Prop) : Prop where
 below : ∀ b w w' y, O b w y → Below w.heap.size w w' → O b w' y
 kept : ∀ b w w' y g, O b w y → w.grownBy w' (some g) → g < b → O b w' y
 mono : ∀ b b' w y, O b w y → b' ≤ b → O b' w y
theorem Tryz.eachSnap_info : (Tryz.prog.info? 75).map (fun i => (i.zero, i.size, i.bytes)) = some (some (.agg #[.string ByteArray.empty, .int .i64 0, .slice none 0 0, .slice none 0 0, .slice none 0 0]), 5, 96) := by kernel_rfl
set_option maxRecDepth 100000 in
set_option maxHeartbeats 2000000 in
theorem eachSnap_any (O : Nat → World → SnapR → Prop) (hO : Kept O) (r : SnapR → SnapR → Prop) (l : List SnapR) (n : Nat) (hnl : n = l.length) (A : Option Addr) (c : Nat) (w : World) (B : Nat) (hB : B ≤ w.heap.size) (hr : Reads w B 5 A n (cellsK encSnap l)) (hn : n ≤ 1000000000000)
  (hC : ∀ x ∈ l, ∀ W, Below w.heap.size w W → Calls Tryz.prog 139 #[.agg (encSnap x).toArray] W fun e w' => ∃ y, e = .returned (.agg (encSnap y).toArray) ∧ O W.heap.size w' y ∧ r x y ∧ Below W.heap.size W w') :
  Calls Tryz.prog 138 #[.slice A n c, .func (.func 139) #[] #[]] w fun e w' => ∃ s : FS SnapR, e = .returned s.val ∧ s.own w' w.heap.size 75 5 encSnap ∧ (∀ y ∈ s.l, O w.heap.size w' y) ∧ EachR r l s.l ∧ Below w.heap.size w w' := by
 obtain ⟨i0, hi0, hz0, hz1, hz2⟩ := info_parts Tryz.eachSnap_info
 have HN := Lib.hid hnl
 have HC := Lib.hid hC
 have HR := Lib.hid hr
 obtain ⟨g, hg⟩ : ∃ g, g = w.heap.size := ⟨_, rfl⟩
 have HGG := Lib.hid hg
 clear hnl hC hr
 go_enter Tryz.func138, Tryz.ntmps138
 go_wp2_with (refine wpList_make_own w rfl (.const (.int .i64 0)) (.tmp 9) 61 rfl w.heap.size 75 i0 _ 5 Tryz.underlying61 hi0 hz0 hz1 .i64 .i64 (n : Int) n rfl rfl rfl (by rw [hz2]; omega) (by unfold maxLen; omega) (Nat.le_refl _) ?_; intro w1 hown1 hg1; have HO1 := Lib.hid hown1; have HB1 := Lib.hid (show Below w.heap.size w w1 from ⟨hg1.os, hg1.tape, hg1.output, hg1.size, fun k hk => hg1.block k hk (by simp)⟩); clear hown1 hg1)
 rw [← hg] at HO1 HB1 ⊢
 clear hg
 go_loopw [5, 13] (fun o j wr => ∃ (k : Nat) (ys : List SnapR), k ≤ n ∧ j = .int .i64 (k : Int) ∧ o = .slice (some ⟨g, 0, none⟩) k n ∧ Hid (ys.length = k) ∧ Hid (wr.ownsRow g 75 5 (.slice (some ⟨g, 0, none⟩) k n) k (cellsK encSnap ys)) ∧ Hid (∀ y ∈ ys, O (g + 1) wr y) ∧ Hid (EachR r (l.take k) ys) ∧ Hid (Below g w wr)) (fun _ j _ => n - (intOf j).toNat)
 case atStart => exact ⟨0, [], Nat.zero_le _, rfl, rfl, rfl, HO1.out, fun y hy => absurd hy (by simp), by rw [List.take_zero]; exact EachR.nil, HB1.out⟩
 case round =>
  clear HO1 HB1
  obtain ⟨k, ys, hk, rfl, rfl, HY, HOW, HE, HEQ, HB⟩ := hrel
  by_cases hlt : k < n
  ·obtain ⟨ad, rfl, hadB, hel⟩ := Reads.elAll (enc := encSnap) (k := 5) (fun _ => rfl) (HR.out.below (HB.out.mono (by have := HGG.out; omega))) HN.out hlt
   have hkl : k < l.length := by have := HN.out; omega
   have hcx := HC.out _ (List.getElem_mem hkl)
   have HTK := Lib.hid (show l.take (k + 1) = l.take k ++ [l[k]'hkl] from by rw [List.take_add_one, List.getElem?_eq_getElem hkl]; rfl)
   have hki : (k : Int) < (n : Int) := by omega
   obtain ⟨x, hx⟩ : ∃ x, x = l[k]'hkl := ⟨_, rfl⟩
   rw [← hx] at hel hcx HTK
   obtain ⟨cs, hcs⟩ : ∃ cs, cs = encSnap x := ⟨_, rfl⟩
   have hcl : cs.length = 5 := by rw [hcs]; rfl
   have hc1 : ∀ u ∈ cs, u.oneCell' = true := by rw [hcs]; intro u hu; simp [encSnap] at hu; rcases hu with rfl | rfl | rfl | rfl | rfl <;> rfl
   rw [← hcs] at hel hcx
   have HEL := Lib.hid hel
   have hSB : Below w.heap.size w (wr.alloc (.cells cs.toArray 75)) := by rw [← HGG.out]; exact HB.out.alloc (by have := HB.out.size; have := HGG.out; omega) _
   have hcx := hcx _ hSB
   have hOW2 := own_below HOW.out ((Below.refl wr.heap.size wr).alloc (Nat.le_refl _) (.cells cs.toArray 75))
   have HL7 : Hid (∀ j v, cs[j]? = some v → (wr.alloc (.cells cs.toArray 75)).cell? ((⟨wr.heap.size, 0, none⟩ : Addr).add j) = some v) := by
    show ∀ j v, _ → _
    intro j v hv
    have := (Blk.new wr 75 cs.toArray).cell j
    rw [List.getElem?_toArray, hv] at this
    rw [addr_add0]
    exact this
   clear hel hadB HR HC hcs hx
   go_wp2_with (first | (refine wpList_load_at rfl 75 (.tmp 15) rfl (ad.add (k * 5)) rfl cs _ HEL.out Tryz.underlying75 rfl (by rw [hcl]; kernel_rfl) ?_) | (refine wpList_store_new wr rfl 75 (.tmp 7) (.tmp 16) rfl 75 _ cs rfl rfl (by rw [hcl]; rfl) (by rw [hcl]; kernel_rfl) hc1 ?_) | (refine wpList_load_at rfl 75 (.tmp 7) rfl ⟨wr.heap.size, 0, none⟩ rfl cs _ HL7.out Tryz.underlying75 rfl (by rw [hcl]; kernel_rfl) ?_))
   clear HEL
   refine hcx.mono ?_
   clear hcx
   rintro e w2 ⟨y, rfl, hoy, hry, hby⟩
   obtain ⟨ds, hds⟩ : ∃ ds, ds = encSnap y := ⟨_, rfl⟩
   have hdl : ds.length = 5 := by rw [hds]; rfl
   have hd1 : ∀ u ∈ ds, u.oneCell' = true := by rw [hds]; intro u hu; simp [encSnap] at hu; rcases hu with rfl | rfl | rfl | rfl | rfl <;> rfl
   rw [← hds]
   have hgs : g < wr.heap.size := (HOW.out.lt g rfl).2
   have hba : Below wr.heap.size wr (w2.alloc (.cells ds.toArray 75)) := ((((Below.refl wr.heap.size wr).alloc (Nat.le_refl _) (.cells cs.toArray 75)).trans (hby.mono (by simp))).alloc (by have := hby.size; simp at this; omega) _)
   have HOW3 := Lib.hid (own_below HOW.out hba)
   have HB3 := Lib.hid (HB.out.trans (hba.mono (by omega)))
   have HE3 : Hid (∀ z ∈ ys ++ [y], O (g + 1) (w2.alloc (.cells ds.toArray 75)) z) := by
    show ∀ z ∈ _, _
    intro z hz
    rcases List.mem_append.1 hz with hz | hz
    ·exact hO.below _ _ _ _ (HE.out z hz) hba
    ·rw [List.mem_singleton.1 hz]
     exact hO.below _ _ _ _ (hO.mono _ _ _ _ hoy (by simp; omega)) ((Below.refl w2.heap.size w2).alloc (Nat.le_refl _) _)
   have HEQ3 : Hid (EachR r (l.take (k + 1)) (ys ++ [y])) := by show EachR _ _ _; rw [HTK.out]; exact HEQ.out.snoc hry
   have HY3 := Lib.hid (show (ys ++ [y]).length = k + 1 by rw [List.length_append, HY.out]; rfl)
   have hcell : ∀ (j : Nat) (u : Value), ds[j]? = some u → (w2.alloc (.cells ds.toArray 75)).cell? ((⟨w2.heap.size, 0, none⟩ : Addr).add j) = some u := fun j u hu => by
    have := (Blk.new w2 75 ds.toArray).cell j
    rw [List.getElem?_toArray, hu] at this
    rw [addr_add0]
    exact this
   have HSZ3 := Lib.hid (show g ≤ (w2.alloc (.cells ds.toArray 75)).heap.size by have := hba.size; omega)
   have hds' := Lib.hid hds
   clear hba hoy hry hby HOW HE HEQ HY HB HTK hds
   have hi1 : i0.size = ds.length := by rw [hdl]; exact hz1
   obtain ⟨W3, hW3⟩ : ∃ W, W = w2.alloc (.cells ds.toArray 75) := ⟨_, rfl⟩
   rw [← hW3] at HOW3 HB3 HE3 hcell HSZ3
   go_wp2_with (first | (refine wpList_build_one rfl 61 75 (.tmp 20) rfl ds rfl i0 _ Tryz.underlying61 hi0 hz0 hi1 (by omega) (by omega) ?_; rw [← hW3]; clear hW3) | (at_builtin; refine wpList_append_fits _ rfl (.tmp 17) (.tmp 21) 61 rfl g 75 i0 5 Tryz.underlying61 hi0 hz1 g k n _ rfl HOW3.out ⟨w2.heap.size, 0, none⟩ 1 1 ds rfl (by omega) hcell hd1 (by omega) ?_; intro w4 hown4 hg4; have HO4 := Lib.hid hown4; have HG4 := Lib.hid hg4; clear hown4 hg4))
   go_roundw
   case rel =>
    refine ⟨k + 1, ys ++ [y], by omega, by go_num, rfl, HY3.out, ?_, fun z hz => hO.kept _ _ _ _ _ (HE3.out z hz) HG4.out (by omega), HEQ3.out, HB3.out.grown HG4.out HSZ3.out (fun q hq => by simp at hq; omega)⟩
    show World.ownsRow _ _ _ _ _ _ _
    rw [cellsK_append, cellsK_one, ← hds'.out]
    exact HO4.out
   case measure => simp [intOf]; omega
  ·have hki : ¬ (k : Int) < (n : Int) := by omega
   obtain rfl : k = n := by omega
   go_wp2_with fail
   go_ret
   obtain rfl := HGG.out
   refine ⟨⟨some ⟨w.heap.size, 0, none⟩, k, k, ys⟩, rfl, ⟨HY.out.symm, HOW.out⟩, fun y hy => hO.mono _ _ _ _ (HE.out y hy) (by omega), ?_, HB.out⟩
   have := HEQ.out
   rw [HN.out, List.take_length] at this
   exact this
theorem Tryz.eachSet_info : (Tryz.prog.info? 63).map (fun i => (i.zero, i.size, i.bytes)) = some (some (.agg #[.string ByteArray.empty, .string ByteArray.empty, .slice none 0 0, .slice none 0 0, .slice none 0 0]), 5, 104) := by kernel_rfl
set_option maxRecDepth 100000 in
set_option maxHeartbeats 2000000 in
theorem eachSet_any (O : Nat → World → SetR → Prop) (hO : Kept O) (r : SetR → SetR → Prop) (l : List SetR) (n : Nat) (hnl : n = l.length) (A : Option Addr) (c : Nat) (w : World) (B : Nat) (hB : B ≤ w.heap.size) (hr : Reads w B 5 A n (cellsK encSet l)) (hn : n ≤ 1000000000000)
  (hC : ∀ x ∈ l, ∀ W, Below w.heap.size w W → Calls Tryz.prog 85 #[.agg (encSet x).toArray] W fun e w' => ∃ y, e = .returned (.agg (encSet y).toArray) ∧ O W.heap.size w' y ∧ r x y ∧ Below W.heap.size W w') :
  Calls Tryz.prog 84 #[.slice A n c, .func (.func 85) #[] #[]] w fun e w' => ∃ s : FS SetR, e = .returned s.val ∧ s.own w' w.heap.size 63 5 encSet ∧ (∀ y ∈ s.l, O w.heap.size w' y) ∧ EachR r l s.l ∧ Below w.heap.size w w' := by
 obtain ⟨i0, hi0, hz0, hz1, hz2⟩ := info_parts Tryz.eachSet_info
 have HN := Lib.hid hnl
 have HC := Lib.hid hC
 have HR := Lib.hid hr
 obtain ⟨g, hg⟩ : ∃ g, g = w.heap.size := ⟨_, rfl⟩
 have HGG := Lib.hid hg
 clear hnl hC hr
 go_enter Tryz.func84, Tryz.ntmps84
 go_wp2_with (refine wpList_make_own w rfl (.const (.int .i64 0)) (.tmp 9) 22 rfl w.heap.size 63 i0 _ 5 Tryz.underlying22 hi0 hz0 hz1 .i64 .i64 (n : Int) n rfl rfl rfl (by rw [hz2]; omega) (by unfold maxLen; omega) (Nat.le_refl _) ?_; intro w1 hown1 hg1; have HO1 := Lib.hid hown1; have HB1 := Lib.hid (show Below w.heap.size w w1 from ⟨hg1.os, hg1.tape, hg1.output, hg1.size, fun k hk => hg1.block k hk (by simp)⟩); clear hown1 hg1)
 rw [← hg] at HO1 HB1 ⊢
 clear hg
 go_loopw [5, 13] (fun o j wr => ∃ (k : Nat) (ys : List SetR), k ≤ n ∧ j = .int .i64 (k : Int) ∧ o = .slice (some ⟨g, 0, none⟩) k n ∧ Hid (ys.length = k) ∧ Hid (wr.ownsRow g 63 5 (.slice (some ⟨g, 0, none⟩) k n) k (cellsK encSet ys)) ∧ Hid (∀ y ∈ ys, O (g + 1) wr y) ∧ Hid (EachR r (l.take k) ys) ∧ Hid (Below g w wr)) (fun _ j _ => n - (intOf j).toNat)
 case atStart => exact ⟨0, [], Nat.zero_le _, rfl, rfl, rfl, HO1.out, fun y hy => absurd hy (by simp), by rw [List.take_zero]; exact EachR.nil, HB1.out⟩
 case round =>
  clear HO1 HB1
  obtain ⟨k, ys, hk, rfl, rfl, HY, HOW, HE, HEQ, HB⟩ := hrel
  by_cases hlt : k < n
  ·obtain ⟨ad, rfl, hadB, hel⟩ := Reads.elAll (enc := encSet) (k := 5) (fun _ => rfl) (HR.out.below (HB.out.mono (by have := HGG.out; omega))) HN.out hlt
   have hkl : k < l.length := by have := HN.out; omega
   have hcx := HC.out _ (List.getElem_mem hkl)
   have HTK := Lib.hid (show l.take (k + 1) = l.take k ++ [l[k]'hkl] from by rw [List.take_add_one, List.getElem?_eq_getElem hkl]; rfl)
   have hki : (k : Int) < (n : Int) := by omega
   obtain ⟨x, hx⟩ : ∃ x, x = l[k]'hkl := ⟨_, rfl⟩
   rw [← hx] at hel hcx HTK
   obtain ⟨cs, hcs⟩ : ∃ cs, cs = encSet x := ⟨_, rfl⟩
   have hcl : cs.length = 5 := by rw [hcs]; rfl
   have hc1 : ∀ u ∈ cs, u.oneCell' = true := by rw [hcs]; intro u hu; simp [encSet] at hu; rcases hu with rfl | rfl | rfl | rfl | rfl <;> rfl
   rw [← hcs] at hel hcx
   have HEL := Lib.hid hel
   have hSB : Below w.heap.size w (wr.alloc (.cells cs.toArray 63)) := by rw [← HGG.out]; exact HB.out.alloc (by have := HB.out.size; have := HGG.out; omega) _
   have hcx := hcx _ hSB
   have hOW2 := own_below HOW.out ((Below.refl wr.heap.size wr).alloc (Nat.le_refl _) (.cells cs.toArray 63))
   have HL7 : Hid (∀ j v, cs[j]? = some v → (wr.alloc (.cells cs.toArray 63)).cell? ((⟨wr.heap.size, 0, none⟩ : Addr).add j) = some v) := by
    show ∀ j v, _ → _
    intro j v hv
    have := (Blk.new wr 63 cs.toArray).cell j
    rw [List.getElem?_toArray, hv] at this
    rw [addr_add0]
    exact this
   clear hel hadB HR HC hcs hx
   go_wp2_with (first | (refine wpList_load_at rfl 63 (.tmp 15) rfl (ad.add (k * 5)) rfl cs _ HEL.out Tryz.underlying63 rfl (by rw [hcl]; kernel_rfl) ?_) | (refine wpList_store_new wr rfl 63 (.tmp 7) (.tmp 16) rfl 63 _ cs rfl rfl (by rw [hcl]; rfl) (by rw [hcl]; kernel_rfl) hc1 ?_) | (refine wpList_load_at rfl 63 (.tmp 7) rfl ⟨wr.heap.size, 0, none⟩ rfl cs _ HL7.out Tryz.underlying63 rfl (by rw [hcl]; kernel_rfl) ?_))
   clear HEL
   refine hcx.mono ?_
   clear hcx
   rintro e w2 ⟨y, rfl, hoy, hry, hby⟩
   obtain ⟨ds, hds⟩ : ∃ ds, ds = encSet y := ⟨_, rfl⟩
   have hdl : ds.length = 5 := by rw [hds]; rfl
   have hd1 : ∀ u ∈ ds, u.oneCell' = true := by rw [hds]; intro u hu; simp [encSet] at hu; rcases hu with rfl | rfl | rfl | rfl | rfl <;> rfl
   rw [← hds]
   have hgs : g < wr.heap.size := (HOW.out.lt g rfl).2
   have hba : Below wr.heap.size wr (w2.alloc (.cells ds.toArray 63)) := ((((Below.refl wr.heap.size wr).alloc (Nat.le_refl _) (.cells cs.toArray 63)).trans (hby.mono (by simp))).alloc (by have := hby.size; simp at this; omega) _)
   have HOW3 := Lib.hid (own_below HOW.out hba)
   have HB3 := Lib.hid (HB.out.trans (hba.mono (by omega)))
   have HE3 : Hid (∀ z ∈ ys ++ [y], O (g + 1) (w2.alloc (.cells ds.toArray 63)) z) := by
    show ∀ z ∈ _, _
    intro z hz
    rcases List.mem_append.1 hz with hz | hz
    ·exact hO.below _ _ _ _ (HE.out z hz) hba
    ·rw [List.mem_singleton.1 hz]
     exact hO.below _ _ _ _ (hO.mono _ _ _ _ hoy (by simp; omega)) ((Below.refl w2.heap.size w2).alloc (Nat.le_refl _) _)
   have HEQ3 : Hid (EachR r (l.take (k + 1)) (ys ++ [y])) := by show EachR _ _ _; rw [HTK.out]; exact HEQ.out.snoc hry
   have HY3 := Lib.hid (show (ys ++ [y]).length = k + 1 by rw [List.length_append, HY.out]; rfl)
   have hcell : ∀ (j : Nat) (u : Value), ds[j]? = some u → (w2.alloc (.cells ds.toArray 63)).cell? ((⟨w2.heap.size, 0, none⟩ : Addr).add j) = some u := fun j u hu => by
    have := (Blk.new w2 63 ds.toArray).cell j
    rw [List.getElem?_toArray, hu] at this
    rw [addr_add0]
    exact this
   have HSZ3 := Lib.hid (show g ≤ (w2.alloc (.cells ds.toArray 63)).heap.size by have := hba.size; omega)
   have hds' := Lib.hid hds
   clear hba hoy hry hby HOW HE HEQ HY HB HTK hds
   have hi1 : i0.size = ds.length := by rw [hdl]; exact hz1
   obtain ⟨W3, hW3⟩ : ∃ W, W = w2.alloc (.cells ds.toArray 63) := ⟨_, rfl⟩
   rw [← hW3] at HOW3 HB3 HE3 hcell HSZ3
   go_wp2_with (first | (refine wpList_build_one rfl 22 63 (.tmp 20) rfl ds rfl i0 _ Tryz.underlying22 hi0 hz0 hi1 (by omega) (by omega) ?_; rw [← hW3]; clear hW3) | (at_builtin; refine wpList_append_fits _ rfl (.tmp 17) (.tmp 21) 22 rfl g 63 i0 5 Tryz.underlying22 hi0 hz1 g k n _ rfl HOW3.out ⟨w2.heap.size, 0, none⟩ 1 1 ds rfl (by omega) hcell hd1 (by omega) ?_; intro w4 hown4 hg4; have HO4 := Lib.hid hown4; have HG4 := Lib.hid hg4; clear hown4 hg4))
   go_roundw
   case rel =>
    refine ⟨k + 1, ys ++ [y], by omega, by go_num, rfl, HY3.out, ?_, fun z hz => hO.kept _ _ _ _ _ (HE3.out z hz) HG4.out (by omega), HEQ3.out, HB3.out.grown HG4.out HSZ3.out (fun q hq => by simp at hq; omega)⟩
    show World.ownsRow _ _ _ _ _ _ _
    rw [cellsK_append, cellsK_one, ← hds'.out]
    exact HO4.out
   case measure => simp [intOf]; omega
  ·have hki : ¬ (k : Int) < (n : Int) := by omega
   obtain rfl : k = n := by omega
   go_wp2_with fail
   go_ret
   obtain rfl := HGG.out
   refine ⟨⟨some ⟨w.heap.size, 0, none⟩, k, k, ys⟩, rfl, ⟨HY.out.symm, HOW.out⟩, fun y hy => hO.mono _ _ _ _ (HE.out y hy) (by omega), ?_, HB.out⟩
   have := HEQ.out
   rw [HN.out, List.take_length] at this
   exact this
theorem Tryz.eachStage_info : (Tryz.prog.info? 47).map (fun i => (i.zero, i.size, i.bytes)) = some (some (.agg #[.string ByteArray.empty, .int .i64 0, .string ByteArray.empty, .int .i64 0, .int .i64 0, .slice none 0 0, .int .i64 0, .int .i64 0, .string ByteArray.empty, .int .u64 0, .int .u64 0, .int .u64 0, .int .u64 0, .slice none 0 0, .int .i64 0, .int .i64 0, .int .u64 0, .int .u64 0, .int .u64 0, .int .u64 0, .bool false]), 21, 224) := by kernel_rfl
set_option maxRecDepth 100000 in
set_option maxHeartbeats 2000000 in
theorem eachStage_any (O : Nat → World → StageR → Prop) (hO : Kept O) (r : StageR → StageR → Prop) (l : List StageR) (n : Nat) (hnl : n = l.length) (A : Option Addr) (c : Nat) (w : World) (B : Nat) (hB : B ≤ w.heap.size) (hr : Reads w B 21 A n (cellsK encStage l)) (hn : n ≤ 1000000000000)
  (hC : ∀ x ∈ l, ∀ W, Below w.heap.size w W → Calls Tryz.prog 88 #[.agg (encStage x).toArray] W fun e w' => ∃ y, e = .returned (.agg (encStage y).toArray) ∧ O W.heap.size w' y ∧ r x y ∧ Below W.heap.size W w') :
  Calls Tryz.prog 87 #[.slice A n c, .func (.func 88) #[] #[]] w fun e w' => ∃ s : FS StageR, e = .returned s.val ∧ s.own w' w.heap.size 47 21 encStage ∧ (∀ y ∈ s.l, O w.heap.size w' y) ∧ EachR r l s.l ∧ Below w.heap.size w w' := by
 obtain ⟨i0, hi0, hz0, hz1, hz2⟩ := info_parts Tryz.eachStage_info
 have HN := Lib.hid hnl
 have HC := Lib.hid hC
 have HR := Lib.hid hr
 obtain ⟨g, hg⟩ : ∃ g, g = w.heap.size := ⟨_, rfl⟩
 have HGG := Lib.hid hg
 clear hnl hC hr
 go_enter Tryz.func87, Tryz.ntmps87
 go_wp2_with (refine wpList_make_own w rfl (.const (.int .i64 0)) (.tmp 9) 24 rfl w.heap.size 47 i0 _ 21 Tryz.underlying24 hi0 hz0 hz1 .i64 .i64 (n : Int) n rfl rfl rfl (by rw [hz2]; omega) (by unfold maxLen; omega) (Nat.le_refl _) ?_; intro w1 hown1 hg1; have HO1 := Lib.hid hown1; have HB1 := Lib.hid (show Below w.heap.size w w1 from ⟨hg1.os, hg1.tape, hg1.output, hg1.size, fun k hk => hg1.block k hk (by simp)⟩); clear hown1 hg1)
 rw [← hg] at HO1 HB1 ⊢
 clear hg
 go_loopw [5, 13] (fun o j wr => ∃ (k : Nat) (ys : List StageR), k ≤ n ∧ j = .int .i64 (k : Int) ∧ o = .slice (some ⟨g, 0, none⟩) k n ∧ Hid (ys.length = k) ∧ Hid (wr.ownsRow g 47 21 (.slice (some ⟨g, 0, none⟩) k n) k (cellsK encStage ys)) ∧ Hid (∀ y ∈ ys, O (g + 1) wr y) ∧ Hid (EachR r (l.take k) ys) ∧ Hid (Below g w wr)) (fun _ j _ => n - (intOf j).toNat)
 case atStart => exact ⟨0, [], Nat.zero_le _, rfl, rfl, rfl, HO1.out, fun y hy => absurd hy (by simp), by rw [List.take_zero]; exact EachR.nil, HB1.out⟩
 case round =>
  clear HO1 HB1
  obtain ⟨k, ys, hk, rfl, rfl, HY, HOW, HE, HEQ, HB⟩ := hrel
  by_cases hlt : k < n
  ·obtain ⟨ad, rfl, hadB, hel⟩ := Reads.elAll (enc := encStage) (k := 21) (fun _ => rfl) (HR.out.below (HB.out.mono (by have := HGG.out; omega))) HN.out hlt
   have hkl : k < l.length := by have := HN.out; omega
   have hcx := HC.out _ (List.getElem_mem hkl)
   have HTK := Lib.hid (show l.take (k + 1) = l.take k ++ [l[k]'hkl] from by rw [List.take_add_one, List.getElem?_eq_getElem hkl]; rfl)
   have hki : (k : Int) < (n : Int) := by omega
   obtain ⟨x, hx⟩ : ∃ x, x = l[k]'hkl := ⟨_, rfl⟩
   rw [← hx] at hel hcx HTK
   obtain ⟨cs, hcs⟩ : ∃ cs, cs = encStage x := ⟨_, rfl⟩
   have hcl : cs.length = 21 := by rw [hcs]; rfl
   have hc1 : ∀ u ∈ cs, u.oneCell' = true := by rw [hcs]; intro u hu; simp [encStage, smV] at hu; rcases hu with rfl | rfl | rfl | rfl | rfl | rfl | rfl | rfl | rfl | rfl | rfl | rfl | rfl | rfl | rfl | rfl | rfl | rfl | rfl | rfl | rfl <;> rfl
   rw [← hcs] at hel hcx
   have HEL := Lib.hid hel
   have hSB : Below w.heap.size w (wr.alloc (.cells cs.toArray 47)) := by rw [← HGG.out]; exact HB.out.alloc (by have := HB.out.size; have := HGG.out; omega) _
   have hcx := hcx _ hSB
   have hOW2 := own_below HOW.out ((Below.refl wr.heap.size wr).alloc (Nat.le_refl _) (.cells cs.toArray 47))
   have HL7 : Hid (∀ j v, cs[j]? = some v → (wr.alloc (.cells cs.toArray 47)).cell? ((⟨wr.heap.size, 0, none⟩ : Addr).add j) = some v) := by
    show ∀ j v, _ → _
    intro j v hv
    have := (Blk.new wr 47 cs.toArray).cell j
    rw [List.getElem?_toArray, hv] at this
    rw [addr_add0]
    exact this
   clear hel hadB HR HC hcs hx
   go_wp2_with (first | (refine wpList_load_at rfl 47 (.tmp 15) rfl (ad.add (k * 21)) rfl cs _ HEL.out Tryz.underlying47 rfl (by rw [hcl]; kernel_rfl) ?_) | (refine wpList_store_new wr rfl 47 (.tmp 7) (.tmp 16) rfl 47 _ cs rfl rfl (by rw [hcl]; rfl) (by rw [hcl]; kernel_rfl) hc1 ?_) | (refine wpList_load_at rfl 47 (.tmp 7) rfl ⟨wr.heap.size, 0, none⟩ rfl cs _ HL7.out Tryz.underlying47 rfl (by rw [hcl]; kernel_rfl) ?_))
   clear HEL
   refine hcx.mono ?_
   clear hcx
   rintro e w2 ⟨y, rfl, hoy, hry, hby⟩
   obtain ⟨ds, hds⟩ : ∃ ds, ds = encStage y := ⟨_, rfl⟩
   have hdl : ds.length = 21 := by rw [hds]; rfl
   have hd1 : ∀ u ∈ ds, u.oneCell' = true := by rw [hds]; intro u hu; simp [encStage, smV] at hu; rcases hu with rfl | rfl | rfl | rfl | rfl | rfl | rfl | rfl | rfl | rfl | rfl | rfl | rfl | rfl | rfl | rfl | rfl | rfl | rfl | rfl | rfl <;> rfl
   rw [← hds]
   have hgs : g < wr.heap.size := (HOW.out.lt g rfl).2
   have hba : Below wr.heap.size wr (w2.alloc (.cells ds.toArray 47)) := ((((Below.refl wr.heap.size wr).alloc (Nat.le_refl _) (.cells cs.toArray 47)).trans (hby.mono (by simp))).alloc (by have := hby.size; simp at this; omega) _)
   have HOW3 := Lib.hid (own_below HOW.out hba)
   have HB3 := Lib.hid (HB.out.trans (hba.mono (by omega)))
   have HE3 : Hid (∀ z ∈ ys ++ [y], O (g + 1) (w2.alloc (.cells ds.toArray 47)) z) := by
    show ∀ z ∈ _, _
    intro z hz
    rcases List.mem_append.1 hz with hz | hz
    ·exact hO.below _ _ _ _ (HE.out z hz) hba
    ·rw [List.mem_singleton.1 hz]
     exact hO.below _ _ _ _ (hO.mono _ _ _ _ hoy (by simp; omega)) ((Below.refl w2.heap.size w2).alloc (Nat.le_refl _) _)
   have HEQ3 : Hid (EachR r (l.take (k + 1)) (ys ++ [y])) := by show EachR _ _ _; rw [HTK.out]; exact HEQ.out.snoc hry
   have HY3 := Lib.hid (show (ys ++ [y]).length = k + 1 by rw [List.length_append, HY.out]; rfl)
   have hcell : ∀ (j : Nat) (u : Value), ds[j]? = some u → (w2.alloc (.cells ds.toArray 47)).cell? ((⟨w2.heap.size, 0, none⟩ : Addr).add j) = some u := fun j u hu => by
    have := (Blk.new w2 47 ds.toArray).cell j
    rw [List.getElem?_toArray, hu] at this
    rw [addr_add0]
    exact this
   have HSZ3 := Lib.hid (show g ≤ (w2.alloc (.cells ds.toArray 47)).heap.size by have := hba.size; omega)
   have hds' := Lib.hid hds
   clear hba hoy hry hby HOW HE HEQ HY HB HTK hds
   have hi1 : i0.size = ds.length := by rw [hdl]; exact hz1
   obtain ⟨W3, hW3⟩ : ∃ W, W = w2.alloc (.cells ds.toArray 47) := ⟨_, rfl⟩
   rw [← hW3] at HOW3 HB3 HE3 hcell HSZ3
   go_wp2_with (first | (refine wpList_build_one rfl 24 47 (.tmp 20) rfl ds rfl i0 _ Tryz.underlying24 hi0 hz0 hi1 (by omega) (by omega) ?_; rw [← hW3]; clear hW3) | (at_builtin; refine wpList_append_fits _ rfl (.tmp 17) (.tmp 21) 24 rfl g 47 i0 21 Tryz.underlying24 hi0 hz1 g k n _ rfl HOW3.out ⟨w2.heap.size, 0, none⟩ 1 1 ds rfl (by omega) hcell hd1 (by omega) ?_; intro w4 hown4 hg4; have HO4 := Lib.hid hown4; have HG4 := Lib.hid hg4; clear hown4 hg4))
   go_roundw
   case rel =>
    refine ⟨k + 1, ys ++ [y], by omega, by go_num, rfl, HY3.out, ?_, fun z hz => hO.kept _ _ _ _ _ (HE3.out z hz) HG4.out (by omega), HEQ3.out, HB3.out.grown HG4.out HSZ3.out (fun q hq => by simp at hq; omega)⟩
    show World.ownsRow _ _ _ _ _ _ _
    rw [cellsK_append, cellsK_one, ← hds'.out]
    exact HO4.out
   case measure => simp [intOf]; omega
  ·have hki : ¬ (k : Int) < (n : Int) := by omega
   obtain rfl : k = n := by omega
   go_wp2_with fail
   go_ret
   obtain rfl := HGG.out
   refine ⟨⟨some ⟨w.heap.size, 0, none⟩, k, k, ys⟩, rfl, ⟨HY.out.symm, HOW.out⟩, fun y hy => hO.mono _ _ _ _ (HE.out y hy) (by omega), ?_, HB.out⟩
   have := HEQ.out
   rw [HN.out, List.take_length] at this
   exact this
end Go.Proofs.YteafdncnnamakaaGreatDoor

/-
 A tenant's rows that are written over, in themselves: what can be read of them stays good.
-/
namespace Go.Proofs.YteafdncnnamakaaGreatDoor
open Go.RowKit

def SnapsW (w : World) (lo hi : Nat) (v : Value) : Prop := ∃ n xs, RowW w lo hi 75 5 v n xs ∧ ∀ i, i < n → ∃ b, xs[i * 5 + 2]? = some b ∧ RowX w lo hi 141 2 b
def SetsW (w : World) (lo hi : Nat) (v : Value) : Prop := ∃ n xs, RowW w lo hi 63 5 v n xs ∧ ∀ i, i < n → ∃ b s o, xs[i * 5 + 2]? = some b ∧ xs[i * 5 + 3]? = some s ∧ xs[i * 5 + 4]? = some o ∧ RowX w lo hi 141 2 b ∧ SnapsW w lo hi s ∧ RowX w lo hi 152 2 o
theorem SnapsW.nil (w : World) (lo hi : Nat) : SnapsW w lo hi (.slice none 0 0) := ⟨0, [], ⟨World.ownsRow_nil _ _ _ _, fun g h => by simp [Value.ownBlock] at h⟩, fun i hi => absurd hi (by omega)⟩
section
variable {w w' : World} {lo hi base size n cap g : Nat} {e : TypeId} {xs : List Value}
/-- a store into a row that is no snapshots' -/
theorem SnapsW.set (hrow : w.ownsRow base e size (.slice (some ⟨g, 0, none⟩) n cap) n xs) (hne : 75 ≠ e) {v : Value} (h : SnapsW w lo hi v) (o : Nat) (cs : List Value) : SnapsW (w.setCells g o cs) lo hi v := by
 obtain ⟨m, ys, h, hs⟩ := h
 rcases h.or hrow o cs with h | ⟨he, _, _⟩
 ·exact ⟨m, ys, h, fun i hi => let ⟨b, h1, h2⟩ := hs i hi; ⟨b, h1, h2.set hrow o cs⟩⟩
 ·exact absurd he hne
/-- a snapshot's cells, written over -/
theorem SnapsW.setSnap (hrow : w.ownsRow base e size (.slice (some ⟨g, 0, none⟩) n cap) n xs) {v : Value} (h : SnapsW w lo hi v) (j : Nat) (hj : (j + 1) * 5 ≤ xs.length) (_hx : xs.length = n * 5) (a0 a1 a3 a4 : Value) : SnapsW (w.setCells g (j * 5) [a0, a1, .slice none 0 0, a3, a4]) lo hi v := by
 obtain ⟨m, ys, h, hs⟩ := h
 rcases h.or hrow (j * 5) [a0, a1, .slice none 0 0, a3, a4] with h' | ⟨he, hb, h'⟩
 ·exact ⟨m, ys, h', fun i hi => let ⟨b, h1, h2⟩ := hs i hi; ⟨b, h1, h2.set hrow _ _⟩⟩
 ·refine ⟨m, _, h', fun i hi => ?_⟩
  obtain ⟨b, h1, h2⟩ := hs i hi
  by_cases hij : (j + 1) * 5 ≤ ys.length
  ·rw [setL_get _ _ _ _ (by simp only [List.length_cons, List.length_nil]; omega)]
   by_cases hi2 : i = j
   ·subst hi2
    rw [if_pos (by simp only [List.length_cons, List.length_nil]; omega), show i * 5 + 2 - i * 5 = 2 by omega]
    exact ⟨_, rfl, RowX.nil _ _ _ _ _⟩
   ·rw [if_neg (by simp only [List.length_cons, List.length_nil]; omega)]
    exact ⟨b, h1, h2.set hrow _ _⟩
  ·have hl := len_of h
   exact ⟨b, by rw [setL_low _ _ _ _ (by omega)]; exact h1, h2.set hrow _ _⟩
/-- a store into a row that is neither sets' nor snapshots' -/
theorem SetsW.set (hrow : w.ownsRow base e size (.slice (some ⟨g, 0, none⟩) n cap) n xs) (hne : 75 ≠ e) (hne2 : 63 ≠ e) {v : Value} (h : SetsW w lo hi v) (o : Nat) (cs : List Value) : SetsW (w.setCells g o cs) lo hi v := by
 obtain ⟨m, ys, h, hs⟩ := h
 rcases h.or hrow o cs with h | ⟨he, _, _⟩
 ·exact ⟨m, ys, h, fun i hi => let ⟨b, s, p, h1, h2, h3, h4, h5, h6⟩ := hs i hi; ⟨b, s, p, h1, h2, h3, h4.set hrow o cs, h5.set hrow hne o cs, h6.set hrow o cs⟩⟩
 ·exact absurd he hne2
theorem SetsW.setSnap (hrow : w.ownsRow base 75 size (.slice (some ⟨g, 0, none⟩) n cap) n xs) {v : Value} (h : SetsW w lo hi v) (j : Nat) (hj : (j + 1) * 5 ≤ xs.length) (_hx : xs.length = n * 5) (a0 a1 a3 a4 : Value) : SetsW (w.setCells g (j * 5) [a0, a1, .slice none 0 0, a3, a4]) lo hi v := by
 obtain ⟨m, ys, h, hs⟩ := h
 rcases h.or hrow (j * 5) [a0, a1, .slice none 0 0, a3, a4] with h' | ⟨he, hb, h'⟩
 ·exact ⟨m, ys, h', fun i hi => let ⟨b, s, p, h1, h2, h3, h4, h5, h6⟩ := hs i hi; ⟨b, s, p, h1, h2, h3, h4.set hrow _ _, h5.setSnap hrow j hj _hx _ _ _ _, h6.set hrow _ _⟩⟩
 ·exact absurd he (by decide)
/-- a set's cells, written over -/
theorem SetsW.setSet (hrow : w.ownsRow base 63 size (.slice (some ⟨g, 0, none⟩) n cap) n xs) {v : Value} (h : SetsW w lo hi v) (j : Nat) (hj : (j + 1) * 5 ≤ xs.length) (_hx : xs.length = n * 5) (a0 a1 : Value) : SetsW (w.setCells g (j * 5) [a0, a1, .slice none 0 0, .slice none 0 0, .slice none 0 0]) lo hi v := by
 obtain ⟨m, ys, h, hs⟩ := h
 rcases h.or hrow (j * 5) [a0, a1, .slice none 0 0, .slice none 0 0, .slice none 0 0] with h' | ⟨he, hb, h'⟩
 ·exact ⟨m, ys, h', fun i hi => let ⟨b, s, p, h1, h2, h3, h4, h5, h6⟩ := hs i hi; ⟨b, s, p, h1, h2, h3, h4.set hrow _ _, h5.set hrow (by decide) _ _, h6.set hrow _ _⟩⟩
 ·refine ⟨m, _, h', fun i hi => ?_⟩
  obtain ⟨b, s, p, h1, h2, h3, h4, h5, h6⟩ := hs i hi
  by_cases hij : (j + 1) * 5 ≤ ys.length
  ·by_cases hi2 : i = j
   ·subst hi2
    refine ⟨.slice none 0 0, .slice none 0 0, .slice none 0 0, ?_, ?_, ?_, RowX.nil _ _ _ _ _, SnapsW.nil _ _ _, RowX.nil _ _ _ _ _⟩
    ·rw [setL_get _ _ _ _ (by simp only [List.length_cons, List.length_nil]; omega), if_pos (by simp only [List.length_cons, List.length_nil]; omega), show i * 5 + 2 - i * 5 = 2 by omega]
     rfl
    ·rw [setL_get _ _ _ _ (by simp only [List.length_cons, List.length_nil]; omega), if_pos (by simp only [List.length_cons, List.length_nil]; omega), show i * 5 + 3 - i * 5 = 3 by omega]
     rfl
    ·rw [setL_get _ _ _ _ (by simp only [List.length_cons, List.length_nil]; omega), if_pos (by simp only [List.length_cons, List.length_nil]; omega), show i * 5 + 4 - i * 5 = 4 by omega]
     rfl
   ·have hget : ∀ q, q < 5 → (setL ys (j * 5) [a0, a1, .slice none 0 0, .slice none 0 0, .slice none 0 0])[i * 5 + q]? = ys[i * 5 + q]? := by
     intro q hq
     rw [setL_get _ _ _ _ (by simp only [List.length_cons, List.length_nil]; omega), if_neg (by simp only [List.length_cons, List.length_nil]; omega)]
    exact ⟨b, s, p, by rw [hget 2 (by omega)]; exact h1, by rw [hget 3 (by omega)]; exact h2, by rw [hget 4 (by omega)]; exact h3, h4.set hrow _ _, h5.set hrow (by decide) _ _, h6.set hrow _ _⟩
  ·have hl := len_of h
   exact ⟨b, s, p, by rw [setL_low _ _ _ _ (by omega)]; exact h1, by rw [setL_low _ _ _ _ (by omega)]; exact h2, by rw [setL_low _ _ _ _ (by omega)]; exact h3, h4.set hrow _ _, h5.set hrow (by decide) _ _, h6.set hrow _ _⟩
theorem SnapsW.below {v : Value} (h : SnapsW w lo hi v) (hb : Below w.heap.size w w') : SnapsW w' lo hi v := by
 obtain ⟨n, xs, h, hs⟩ := h
 exact ⟨n, xs, ⟨own_below h.1 hb, h.2⟩, fun i hi => let ⟨b, h1, h2⟩ := hs i hi; ⟨b, h1, h2.below hb⟩⟩
theorem SetsW.below {v : Value} (h : SetsW w lo hi v) (hb : Below w.heap.size w w') : SetsW w' lo hi v := by
 obtain ⟨n, xs, h, hs⟩ := h
 exact ⟨n, xs, ⟨own_below h.1 hb, h.2⟩, fun i hi => let ⟨b, s, p, h1, h2, h3, h4, h5, h6⟩ := hs i hi; ⟨b, s, p, h1, h2, h3, h4.below hb, h5.below hb, h6.below hb⟩⟩
end
section
variable {w w' : World} {base lo hi : Nat}
theorem SnapO.only {x : SnapR} (h : SnapO w base x) (hb : hi ≤ base) (ho : OnlyIn lo hi w w') : SnapO w' base x := ⟨h.body.only hb ho, h.tags.only hb ho, h.own.only hb ho⟩
theorem SetO.only {x : SetR} (h : SetO w base x) (hb : hi ≤ base) (ho : OnlyIn lo hi w w') : SetO w' base x := ⟨h.body.only hb ho, h.snaps.only hb ho, fun y hy => (h.each y hy).only hb ho, h.own.only hb ho⟩
theorem StageO.only {x : StageR} (h : StageO w base x) (hb : hi ≤ base) (ho : OnlyIn lo hi w w') : StageO w' base x := ⟨h.own.only hb ho, h.body.only hb ho⟩
theorem TenO.only {x : TenR} (h : TenO w base x) (hb : hi ≤ base) (ho : OnlyIn lo hi w w') : TenO w' base x := ⟨h.sets.only hb ho, fun y hy => (h.eachS y hy).only hb ho, h.grants.only hb ho, h.stages.only hb ho, fun y hy => (h.eachG y hy).only hb ho, h.log.only hb ho⟩
/-! ### a tenant of one's own lies in lo ..< hi, hi the size of the heap -/
theorem FS.own.snaps {s : FS SnapR} (h : s.own w lo 75 5 encSnap) (he : ∀ y ∈ s.l, SnapO w lo y) : SnapsW w lo w.heap.size s.val := by
 refine ⟨_, _, RowW.of_own h.2, fun i hi => ?_⟩
 have hl : i < s.l.length := by rw [← h.1]; exact hi
 refine ⟨(s.l[i]'hl).body.val, ?_, (he _ (List.getElem_mem hl)).body.rowx⟩
 rw [show i * 5 + 2 = i * 5 + 2 from rfl, cellsK_get (k := 5) (fun x => by cases x; rfl) s.l i hl 2 (by omega)]
 rfl
theorem FS.own.setsw {s : FS SetR} (h : s.own w lo 63 5 encSet) (he : ∀ y ∈ s.l, SetO w lo y) : SetsW w lo w.heap.size s.val := by
 refine ⟨_, _, RowW.of_own h.2, fun i hi => ?_⟩
 have hl : i < s.l.length := by rw [← h.1]; exact hi
 have ho := he _ (List.getElem_mem hl)
 refine ⟨(s.l[i]'hl).body.val, (s.l[i]'hl).snaps.val, (s.l[i]'hl).own.val, ?_, ?_, ?_, ho.body.rowx, ho.snaps.snaps ho.each, ho.own.rowx⟩
 ·rw [cellsK_get (k := 5) (fun x => by cases x; rfl) s.l i hl 2 (by omega)]
  rfl
 ·rw [cellsK_get (k := 5) (fun x => by cases x; rfl) s.l i hl 3 (by omega)]
  rfl
 ·rw [cellsK_get (k := 5) (fun x => by cases x; rfl) s.l i hl 4 (by omega)]
  rfl
end
/-- what is known of a tenant's rows while they are written over -/
structure SpI (lo hi : Nat) (S G T L : Value) (W0 w : World) : Prop where
 sets : SetsW w lo hi S
 gr : RowX w lo hi 122 3 G
 st : RowX w lo hi 47 21 T
 lg : RowX w lo hi 94 4 L
 only : OnlyIn lo hi W0 w
section
variable {lo hi size n cap g : Nat} {S G T L : Value} {W0 w : World} {e : TypeId} {xs : List Value}
theorem SpI.store (h : SpI lo hi S G T L W0 w) (hrow : w.ownsRow lo e size (.slice (some ⟨g, 0, none⟩) n cap) n xs) (hlo : lo ≤ g) (hhi : g < hi) (hW : lo ≤ w.heap.size) (hne : 75 ≠ e) (hne2 : 63 ≠ e) (o : Nat) (cs : List Value) : SpI lo hi S G T L W0 (w.setCells g o cs) :=
 ⟨h.sets.set hrow hne hne2 o cs, h.gr.set hrow o cs, h.st.set hrow o cs, h.lg.set hrow o cs, h.only.trans (.grown (stored_all cs w xs o hrow).2 hlo hhi hW)⟩
theorem SpI.storeSnap (h : SpI lo hi S G T L W0 w) (hrow : w.ownsRow lo 75 5 (.slice (some ⟨g, 0, none⟩) n cap) n xs) (hlo : lo ≤ g) (hhi : g < hi) (hW : lo ≤ w.heap.size) (j : Nat) (hj : j < n) (a0 a1 a3 a4 : Value) : SpI lo hi S G T L W0 (w.setCells g (j * 5) [a0, a1, .slice none 0 0, a3, a4]) :=
 have hl : xs.length = n * 5 := hrow.1
 ⟨h.sets.setSnap hrow j (by omega) hl _ _ _ _, h.gr.set hrow _ _, h.st.set hrow _ _, h.lg.set hrow _ _, h.only.trans (.grown (stored_all _ w xs _ hrow).2 hlo hhi hW)⟩
theorem SpI.storeSet (h : SpI lo hi S G T L W0 w) (hrow : w.ownsRow lo 63 5 (.slice (some ⟨g, 0, none⟩) n cap) n xs) (hlo : lo ≤ g) (hhi : g < hi) (hW : lo ≤ w.heap.size) (j : Nat) (hj : j < n) (a0 a1 : Value) : SpI lo hi S G T L W0 (w.setCells g (j * 5) [a0, a1, .slice none 0 0, .slice none 0 0, .slice none 0 0]) :=
 have hl : xs.length = n * 5 := hrow.1
 ⟨h.sets.setSet hrow j (by omega) hl _ _, h.gr.set hrow _ _, h.st.set hrow _ _, h.lg.set hrow _ _, h.only.trans (.grown (stored_all _ w xs _ hrow).2 hlo hhi hW)⟩
/-- set i, as it can be read now -/
theorem SetsW.at {n c : Nat} {A : Option Addr} (h : SetsW w lo hi (.slice A n c)) {i : Nat} (hi' : i < n) :
  ∃ g bA bn bc sA sn sc oA on oc xs, A = some ⟨g, 0, none⟩ ∧ lo ≤ g ∧ g < hi ∧ w.cell? ⟨g, i * 5 + 2, none⟩ = some (.slice bA bn bc) ∧ w.cell? ⟨g, i * 5 + 3, none⟩ = some (.slice sA sn sc) ∧ w.cell? ⟨g, i * 5 + 4, none⟩ = some (.slice oA on oc) ∧
   w.there g (i * 5) 5 ∧ w.ownsRow lo 63 5 (.slice (some ⟨g, 0, none⟩) n c) n xs ∧ (∃ ys, RowW w lo hi 141 2 (.slice bA bn bc) bn ys) ∧ SnapsW w lo hi (.slice sA sn sc) ∧ (∃ ys, RowW w lo hi 152 2 (.slice oA on oc) on ys) := by
 obtain ⟨m, xs, hr, hs⟩ := h
 obtain ⟨_, _, e, _⟩ := own_form hr.1
 injection e with _ e1 _
 subst e1
 obtain ⟨g, c', e2, hlo, hhi, _, hc, hth, hown⟩ := hr.el hi'
 injection e2 with e3 _ e4
 subst e3 e4
 obtain ⟨b, s, o, h1, h2, h3, ⟨bm, bx, h4⟩, h5, ⟨om, ox, h6⟩⟩ := hs i hi'
 obtain ⟨bA, bc, rfl, _⟩ := own_form h4.1
 obtain ⟨oA, oc, rfl, _⟩ := own_form h6.1
 obtain ⟨sm, sx, h7, h8⟩ := h5
 obtain ⟨sA, sc, rfl, _⟩ := own_form h7.1
 exact ⟨g, bA, bm, bc, sA, sm, sc, oA, om, oc, xs, rfl, hlo, hhi, by rw [hc _ (by omega)]; exact h1, by rw [hc _ (by omega)]; exact h2, by rw [hc _ (by omega)]; exact h3, hth, hown, ⟨_, h4⟩, ⟨_, _, h7, h8⟩, ⟨_, h6⟩⟩
theorem SnapsW.at {n c : Nat} {A : Option Addr} (h : SnapsW w lo hi (.slice A n c)) {i : Nat} (hi' : i < n) :
  ∃ g bA bn bc xs, A = some ⟨g, 0, none⟩ ∧ lo ≤ g ∧ g < hi ∧ n ≤ maxLen ∧ w.cell? ⟨g, i * 5 + 2, none⟩ = some (.slice bA bn bc) ∧ w.there g (i * 5) 5 ∧ w.ownsRow lo 75 5 (.slice (some ⟨g, 0, none⟩) n c) n xs ∧ (∃ ys, RowW w lo hi 141 2 (.slice bA bn bc) bn ys) := by
 obtain ⟨m, xs, hr, hs⟩ := h
 obtain ⟨_, _, e, _⟩ := own_form hr.1
 injection e with _ e1 _
 subst e1
 obtain ⟨g, c', e2, hlo, hhi, hm, hc, hth, hown⟩ := hr.el hi'
 injection e2 with e3 _ e4
 subst e3 e4
 obtain ⟨b, h1, ⟨bm, bx, h4⟩⟩ := hs i hi'
 obtain ⟨bA, bc, rfl, _⟩ := own_form h4.1
 exact ⟨g, bA, bm, bc, xs, rfl, hlo, hhi, hm, by rw [hc _ (by omega)]; exact h1, hth, hown, ⟨_, h4⟩⟩
end
end Go.Proofs.YteafdncnnamakaaGreatDoor

/-
 Tenants by content alone: what they read, wherever they lie.
-/
namespace Go.Proofs.YteafdncnnamakaaGreatDoor
open Go.RowKit

structure SnapC where
 nm : BS
 gd : Int
 body : List BlkT
 tags : List BS
 own : List (BS × BS)
structure SetC where
 path : BS
 org : BS
 body : List BlkT
 snaps : List SnapC
 own : List (BS × BS)
structure StageC where
 into : BS
 kind : Int
 nm : BS
 frm : Int
 gd : Int
 own : List (BS × BS)
 ix : Int
 ct : Int
 dt : BS
 sm : Sm
 body : List BlkT
 at_ : Int
 nx : Int
 sum : Sm
 done : Bool
structure TenC where
 nm : BS
 quota : Int
 next : Int
 sets : List SetC
 grants : List GT
 stages : List StageC
 log : List EntryR
def SnapR.con (x : SnapR) : SnapC := ⟨x.nm, x.gd, x.body.l, x.tags.l, x.own.l⟩
def SetR.con (x : SetR) : SetC := ⟨x.path, x.org, x.body.l, x.snaps.l.map SnapR.con, x.own.l⟩
def StageR.con (x : StageR) : StageC := ⟨x.into, x.kind, x.nm, x.frm, x.gd, x.own.l, x.ix, x.ct, x.dt, x.sm, x.body.l, x.at_, x.nx, x.sum, x.done⟩
def TenR.con (x : TenR) : TenC := ⟨x.nm, x.quota, x.next, x.sets.l.map SetR.con, x.grants.l, x.stages.l.map StageR.con, x.log.l⟩
theorem each_map {α β : Type} {f : α → β} {l l' : List α} : l.map f = l'.map f ↔ l.length = l'.length ∧ ∀ i (h : i < l.length) (h' : i < l'.length), f (l[i]'h) = f (l'[i]'h') := by
 constructor
 ·intro h
  have hl : l.length = l'.length := by simpa using congrArg List.length h
  refine ⟨hl, fun i h1 h2 => ?_⟩
  have := congrArg (fun m : List β => m[i]?) h
  simpa [h1, h2] using this
 ·rintro ⟨hl, he⟩
  apply List.ext_getElem
  ·simpa using hl
  ·intro i h1 h2
   simp only [List.length_map] at h1 h2
   rw [List.getElem_map, List.getElem_map]
   exact he i h1 h2
theorem SnapR.eqv_iff (x y : SnapR) : x.eqv y ↔ x.con = y.con := by
 constructor
 ·rintro ⟨h1, h2, h3, h4, h5⟩
  simp only [SnapR.con, h1, h2, h3, h4, h5]
 ·intro h
  simp only [SnapR.con, SnapC.mk.injEq] at h
  exact ⟨h.1, h.2.1, h.2.2.1, h.2.2.2.1, h.2.2.2.2⟩
theorem SetR.eqv_iff (x y : SetR) : x.eqv y ↔ x.con = y.con := by
 constructor
 ·rintro ⟨h1, h2, h3, h4, h5, h6⟩
  have := each_map.2 ⟨h4, fun i a b => (SnapR.eqv_iff _ _).1 (h5 i a b)⟩
  simp only [SetR.con, h1, h2, h3, this, h6]
 ·intro h
  simp only [SetR.con, SetC.mk.injEq] at h
  obtain ⟨h1, h2, h3, h4, h5⟩ := h
  obtain ⟨h6, h7⟩ := each_map.1 h4
  exact ⟨h1, h2, h3, h6, fun i a b => (SnapR.eqv_iff _ _).2 (h7 i a b), h5⟩
theorem StageR.eqv_iff (x y : StageR) : x.eqv y ↔ x.con = y.con := by
 constructor
 ·rintro ⟨h1, h2, h3, h4, h5, h6, h7, h8, h9, h10, h11, h12, h13, h14, h15⟩
  simp only [StageR.con, h1, h2, h3, h4, h5, h6, h7, h8, h9, h10, h11, h12, h13, h14, h15]
 ·intro h
  simp only [StageR.con, StageC.mk.injEq] at h
  obtain ⟨h1, h2, h3, h4, h5, h6, h7, h8, h9, h10, h11, h12, h13, h14, h15⟩ := h
  exact ⟨h1, h2, h3, h4, h5, h6, h7, h8, h9, h10, h11, h12, h13, h14, h15⟩
/-- tenants are of one content just if they read alike -/
theorem TenR.eqv_iff (x y : TenR) : x.eqv y ↔ x.con = y.con := by
 constructor
 ·rintro ⟨h1, h2, h3, h4, h5, h6, h7, h8, h9⟩
  have e1 := each_map.2 ⟨h4, fun i a b => (SetR.eqv_iff _ _).1 (h5 i a b)⟩
  have e2 := each_map.2 ⟨h7, fun i a b => (StageR.eqv_iff _ _).1 (h8 i a b)⟩
  simp only [TenR.con, h1, h2, h3, e1, h6, e2, h9]
 ·intro h
  simp only [TenR.con, TenC.mk.injEq] at h
  obtain ⟨h1, h2, h3, h4, h5, h6, h7⟩ := h
  obtain ⟨h8, h9⟩ := each_map.1 h4
  obtain ⟨h10, h11⟩ := each_map.1 h6
  exact ⟨h1, h2, h3, h8, fun i a b => (SetR.eqv_iff _ _).2 (h9 i a b), h5, h10, fun i a b => (StageR.eqv_iff _ _).2 (h11 i a b), h7⟩
/-- what a tenant is charged for -/
def SetC.charge (s : SetC) : Nat := 1 + s.body.length + (s.snaps.map fun x => 1 + x.body.length).sum
def TenC.charge (t : TenC) : Nat := (t.sets.map SetC.charge).sum + (t.stages.map fun s => 1 + s.body.length).sum
end Go.Proofs.YteafdncnnamakaaGreatDoor

/-
 Tenants: sizes hang on the content; what may be read below a bound may be read below a higher one.
-/
namespace Go.Proofs.YteafdncnnamakaaGreatDoor
open Go.RowKit

theorem blk7 {w : World} {g : Nat} {t : TypeId} {a0 a1 a2 a3 a4 a5 a6 : Value} (h : Blk w g t #[a0, a1, a2, a3, a4, a5, a6]) : w.cell? ⟨g, 0, none⟩ = some a0 ∧ w.cell? ⟨g, 1, none⟩ = some a1 ∧ w.cell? ⟨g, 2, none⟩ = some a2 ∧ w.cell? ⟨g, 3, none⟩ = some a3 ∧ w.cell? ⟨g, 4, none⟩ = some a4 ∧ w.cell? ⟨g, 5, none⟩ = some a5 ∧ w.cell? ⟨g, 6, none⟩ = some a6 :=
 ⟨h.cell 0, h.cell 1, h.cell 2, h.cell 3, h.cell 4, h.cell 5, h.cell 6⟩
theorem SnapR.eqv.size {x y : SnapR} {w w' : World} {B B' : Nat} (h : x.eqv y) (hx : x.rd w B) (hy : y.rd w' B') (hz : x.sz) : y.sz :=
 h.sz hz (FS.len_eq hx.body.1 hy.body.1 h.body) (FS.len_eq hx.tags.1 hy.tags.1 h.tags) (FS.len_eq hx.own.1 hy.own.1 h.own)
theorem SetR.eqv.size {x y : SetR} {w w' : World} {B B' : Nat} (h : x.eqv y) (hx : x.rd w B) (hy : y.rd w' B') (hz : x.sz) : y.sz := by
 refine ⟨by rw [← h.path]; exact hz.path, by rw [← h.org]; exact hz.org, by rw [FS.len_eq hx.body.1 hy.body.1 h.body]; exact hz.body, by rw [hy.snaps.1, ← h.len, ← hx.snaps.1]; exact hz.snaps, fun z hm => ?_, by rw [FS.len_eq hx.own.1 hy.own.1 h.own]; exact hz.own, by rw [← h.own]; exact hz.props⟩
 obtain ⟨i, hi, rfl⟩ := List.getElem_of_mem hm
 have hi' : i < x.snaps.l.length := by rw [h.len]; exact hi
 exact (h.each i hi' hi).size (hx.each _ (List.getElem_mem hi')) (hy.each _ hm) (hz.each _ (List.getElem_mem hi'))
theorem StageR.eqv.size {x y : StageR} {w w' : World} {B B' : Nat} (h : x.eqv y) (hx : x.rd w B) (hy : y.rd w' B') (hz : x.sz) : y.sz :=
 ⟨by rw [← h.into]; exact hz.into, by rw [← h.nm]; exact hz.nm, by rw [← h.dt]; exact hz.dt, by rw [FS.len_eq hx.own.1 hy.own.1 h.own]; exact hz.own, by rw [← h.own]; exact hz.props, by rw [FS.len_eq hx.body.1 hy.body.1 h.body]; exact hz.body⟩
theorem TenR.eqv.size {x y : TenR} {w w' : World} {B B' : Nat} (h : x.eqv y) (hx : x.rd w B) (hy : y.rd w' B') (hz : x.sz) : y.sz := by
 refine ⟨by rw [← h.nm]; exact hz.nm, by rw [hy.sets.1, ← h.lenS, ← hx.sets.1]; exact hz.sets, fun z hm => ?_, by rw [FS.len_eq hx.grants.1 hy.grants.1 h.grants]; exact hz.grants, by rw [← h.grants]; exact hz.eachG, by rw [hy.stages.1, ← h.lenT, ← hx.stages.1]; exact hz.stages, fun z hm => ?_, by rw [FS.len_eq hx.log.1 hy.log.1 h.log]; exact hz.log, by rw [← h.log]; exact hz.eachL⟩
 ·obtain ⟨i, hi, rfl⟩ := List.getElem_of_mem hm
  have hi' : i < x.sets.l.length := by rw [h.lenS]; exact hi
  exact (h.eachS i hi' hi).size (hx.eachS _ (List.getElem_mem hi')) (hy.eachS _ hm) (hz.eachS _ (List.getElem_mem hi'))
 ·obtain ⟨i, hi, rfl⟩ := List.getElem_of_mem hm
  have hi' : i < x.stages.l.length := by rw [h.lenT]; exact hi
  exact (h.eachT i hi' hi).size (hx.eachG _ (List.getElem_mem hi')) (hy.eachG _ hm) (hz.eachT _ (List.getElem_mem hi'))
theorem SnapR.rd.more {x : SnapR} {w : World} {B B' : Nat} (h : x.rd w B) (hb : B ≤ B') : x.rd w B' := ⟨h.body.more hb, h.tags.more hb, h.own.more hb⟩
theorem SetR.rd.more {x : SetR} {w : World} {B B' : Nat} (h : x.rd w B) (hb : B ≤ B') : x.rd w B' := ⟨h.body.more hb, h.snaps.more hb, fun y hy => (h.each y hy).more hb, h.own.more hb⟩
theorem TenR.rd.more {x : TenR} {w : World} {B B' : Nat} (h : x.rd w B) (hb : B ≤ B') : x.rd w B' := ⟨h.sets.more hb, fun y hy => (h.eachS y hy).more hb, h.grants.more hb, h.stages.more hb, fun y hy => ⟨(h.eachG y hy).own.more hb, (h.eachG y hy).body.more hb⟩, h.log.more hb⟩
end Go.Proofs.YteafdncnnamakaaGreatDoor

/-
 usage.Fits: is what a tenant is charged for at most its quota?
-/
namespace Go.Proofs.YteafdncnnamakaaGreatDoor
open Go.RowKit

theorem ubody_any (A : Option Addr) (n c : Nat) (w : World) (hn : n ≤ 5000000000000) : Calls Tryz.prog 168 #[.slice A n c] w fun e w' => e = .returned (.int .i64 ((n : Int) + 1)) ∧ w' = w := by
 have hw : IntKind.i64.wrap ((n : Int) + 1) = (n : Int) + 1 := IntWalk.i64_in _ (by omega)
 go_enter Tryz.func168, Tryz.ntmps168
 go_wp2_with fail
 go_ret
 exact ⟨rfl, rfl⟩
set_option maxRecDepth 100000 in
theorem uadd_any (g : Nat) (T : TypeId) (S q : Int) (A : Option Addr) (n c : Nat) (w : World) (hk : Blk w g T #[.int .i64 S, .int .i64 q]) (hn : n ≤ 5000000000000) (h0 : 0 ≤ S) (h1 : S ≤ 4000000000000000000) :
  Calls Tryz.prog 148 #[.pointer (some ⟨g, 0, none⟩), .slice A n c] w fun e w' => e = .returned (.tuple #[]) ∧ Blk w' g T #[.int .i64 (S + ((n : Int) + 1)), .int .i64 q] ∧ OnlyIn g (g + 1) w w' := by
 have hw : IntKind.i64.wrap (S + ((n : Int) + 1)) = S + ((n : Int) + 1) := IntWalk.i64_in _ (by omega)
 have c0 := hk.drew.cell 0
 have f0 := hk.drew.frozen 0
 simp only [List.getElem?_toArray, List.getElem?_cons_zero] at c0
 have hst : Blk (w.drew.setCell ⟨g, 0, none⟩ (.int .i64 (S + ((n : Int) + 1)))) g T #[.int .i64 (S + ((n : Int) + 1)), .int .i64 q] := hk.drew.set_ 0 _
 have HST := Lib.hid hst
 have HO : Hid (OnlyIn g (g + 1) w (w.drew.setCell ⟨g, 0, none⟩ (.int .i64 (S + ((n : Int) + 1))))) := (OnlyIn.of_below (Below.refl _ _).drew (Nat.le_of_lt hk.lt)).trans (OnlyIn.grown (grown_box _ _ _ _) (Nat.le_refl _) (by omega) (Nat.le_of_lt hk.lt))
 clear hst hk
 go_enter Tryz.func148, Tryz.ntmps148
 go_region_with (refine (ubody_any A n c _ hn).mono ?_; rintro e w2 ⟨rfl, rfl⟩)
 all_goals
  go_wp2_with fail
  go_end0
  exact ⟨rfl, HST.out, HO.out⟩
def sumB (l : List SnapR) (k : Nat) : Int := ((l.take k).map fun x => (x.body.n : Int) + 1).sum
theorem sumB_zero (l : List SnapR) : sumB l 0 = 0 := by simp [sumB]
theorem sumB_succ (l : List SnapR) (k : Nat) (h : k < l.length) : sumB l (k + 1) = sumB l k + (((l[k]'h).body.n : Int) + 1) := by
 unfold sumB
 rw [List.take_add_one, List.getElem?_eq_getElem h, Option.toList_some, List.map_append, List.sum_append, List.map_cons, List.map_nil, List.sum_cons, List.sum_nil, Int.add_zero]
theorem sumB_mono (l : List SnapR) (k : Nat) : 0 ≤ sumB l k ∧ sumB l k ≤ sumB l l.length := by
 have h0 : ∀ k, 0 ≤ sumB l k := by
  intro k
  unfold sumB
  induction l.take k with
  | nil => simp
  | cons x r ih => simp only [List.map_cons, List.sum_cons]; omega
 refine ⟨h0 k, ?_⟩
 have h1 : sumB l l.length = sumB l k + ((l.drop k).map fun x => (x.body.n : Int) + 1).sum := by
  unfold sumB
  rw [List.take_length]
  conv => lhs; rw [← List.take_append_drop k l]
  rw [List.map_append, List.sum_append]
 have h2 : 0 ≤ ((l.drop k).map fun x => (x.body.n : Int) + 1).sum := by
  induction l.drop k with
  | nil => simp
  | cons x r ih => simp only [List.map_cons, List.sum_cons]; omega
 omega
/-- what a set adds -/
def setSum (x : SetR) : Int := ((x.body.n : Int) + 1) + sumB x.snaps.l x.snaps.l.length
set_option maxRecDepth 100000 in
set_option maxHeartbeats 2000000 in
theorem ubodies_any (x : SetR) (g : Nat) (T : TypeId) (S q : Int) (w : World) (B : Nat) (hr : x.rd w B) (hz : x.sz) (hB : B ≤ g) (hk : Blk w g T #[.int .i64 S, .int .i64 q]) (h0 : 0 ≤ S) (h1 : S + setSum x ≤ 4000000000000000000) :
  Calls Tryz.prog 167 #[.agg (encSet x).toArray, .func (.func 148) #[.pointer (some ⟨g, 0, none⟩)] #[]] w fun e w' => e = .returned (.tuple #[]) ∧ Blk w' g T #[.int .i64 (S + setSum x), .int .i64 q] ∧ OnlyIn g (g + 1) w w' := by
 obtain ⟨pa, og, ⟨bA, bn, bc, bl⟩, ⟨zA, zn, zc, zl⟩, ⟨oA, on, oc, ol⟩⟩ := x
 have hsm : setSum ⟨pa, og, ⟨bA, bn, bc, bl⟩, ⟨zA, zn, zc, zl⟩, ⟨oA, on, oc, ol⟩⟩ = ((bn : Int) + 1) + sumB zl zl.length := rfl
 rw [hsm] at h1 ⊢
 have HZN : Hid (zn = zl.length) := hr.snaps.1
 have hmn : bn ≤ 1000000000000 := hz.body
 have hzn : zn ≤ 1000000000000 := hz.snaps
 have hm := sumB_mono zl
 have hgw := hk.lt
 have kx := Blk.new w 63 #[.string ⟨pa.toArray⟩, .string ⟨og.toArray⟩, .slice bA bn bc, .slice zA zn zc, .slice oA on oc]
 obtain ⟨W1, hW1⟩ : ∃ W, W = w.alloc (.cells #[.string ⟨pa.toArray⟩, .string ⟨og.toArray⟩, .slice bA bn bc, .slice zA zn zc, .slice oA on oc] 63) := ⟨_, rfl⟩
 have hs1 : W1.heap.size = w.heap.size + 1 := by rw [hW1]; simp
 have hb1 : Below w.heap.size w W1 := by rw [hW1]; exact (Below.refl _ _).alloc (Nat.le_refl _) _
 rw [← hW1] at kx
 have HR : Hid (∀ W, OnlyIn g (g + 1) W1 W → SetR.rd W B ⟨pa, og, ⟨bA, bn, bc, bl⟩, ⟨zA, zn, zc, zl⟩, ⟨oA, on, oc, ol⟩⟩) := by
  show ∀ W, _ → _
  intro W hW
  have hb : Below B w W := (hb1.mono (by omega)).trans (hW.low.mono hB)
  exact ⟨hr.body.below hb, hr.snaps.below hb, fun y hy => ⟨(hr.each y hy).body.below hb, (hr.each y hy).tags.below hb, (hr.each y hy).own.below hb⟩, hr.own.below hb⟩
 have HX : Hid (∀ W, OnlyIn g (g + 1) W1 W → W.cell? ⟨w.heap.size, 2, none⟩ = some (.slice bA bn bc) ∧ W.cell? ⟨w.heap.size, 3, none⟩ = some (.slice zA zn zc)) := by
  show ∀ W, _ → _
  intro W hW
  have hb : Blk W w.heap.size 63 #[.string ⟨pa.toArray⟩, .string ⟨og.toArray⟩, .slice bA bn bc, .slice zA zn zc, .slice oA on oc] := (hW.high _ (by omega) (by omega)).trans kx
  exact ⟨hb.cell 2, hb.cell 3⟩
 have HZ := Lib.hid hz
 have hcl := uadd_any g T S q bA bn bc W1 (hk.below hb1 hgw) (by omega) h0 (by have := (hm zl.length).1; omega)
 obtain ⟨c2, c3⟩ := HX.out W1 (OnlyIn.refl _ _ _)
 have HO0 : Hid (OnlyIn g (g + 1) w W1) := OnlyIn.of_below hb1 (by omega)
 have HM := Lib.hid hm
 have HH1 := Lib.hid h1
 clear kx hr hz hk hb1 hsm hm
 show Calls Tryz.prog 167 #[.agg #[.string ⟨pa.toArray⟩, .string ⟨og.toArray⟩, .slice bA bn bc, .slice zA zn zc, .slice oA on oc], .func (.func 148) #[.pointer (some ⟨g, 0, none⟩)] #[]] w _
 go_enter Tryz.func167, Tryz.ntmps167
 go_wp2_with fail
 rw [← hW1]
 clear hW1
 refine hcl.mono ?_
 clear hcl c2 c3
 rintro e w2 ⟨rfl, hk2, ho2⟩
 have HK2 := Lib.hid hk2
 have HO2 := Lib.hid ho2
 clear hk2 ho2
 obtain ⟨c2, c3⟩ := HX.out w2 HO2.out
 go_wp2_with fail
 go_loopw [13] (fun j wr => ∃ k : Nat, k ≤ zn ∧ j = .int .i64 (k : Int) ∧ Hid (Blk wr g T #[.int .i64 (S + ((bn : Int) + 1) + sumB zl k), .int .i64 q]) ∧ Hid (OnlyIn g (g + 1) W1 wr)) (fun j _ => zn - (intOf j).toNat)
 case atStart => exact ⟨0, Nat.zero_le _, rfl, by show Blk _ _ _ _; rw [sumB_zero, Int.add_zero]; exact HK2.out, HO2.out⟩
 case round =>
  clear HK2 HO2 c2 c3
  obtain ⟨k, hk, rfl, HK, HO⟩ := hrel
  obtain ⟨c2, c3⟩ := HX.out wr HO.out
  by_cases hlt : k < zn
  ·have hki : (k : Int) < (zn : Int) := by omega
   have hkl : k < zl.length := by have := HZN.out; omega
   obtain ⟨ad, hsa, -, r0, r1, r2, r3, r4⟩ := snap_at (HR.out wr HO.out).snaps.2.2 HZN.out hlt
   simp only at hsa
   subst hsa
   have hsz := HZ.out.each _ (List.getElem_mem hkl)
   have hss := sumB_succ zl k hkl
   obtain ⟨y, hy⟩ : ∃ y, y = zl[k]'hkl := ⟨_, rfl⟩
   simp only at r0 r1 r2 r3 r4
   rw [← hy] at r0 r1 r2 r3 r4 hsz hss
   clear hy
   obtain ⟨ynm, ygd, ⟨yb1, ybn, yb3, ybl⟩, ⟨yt1, ytn, yt3, ytl⟩, ⟨yo1, yon, yo3, yol⟩⟩ := y
   simp only at r0 r1 r2 r3 r4
   have hyn : ybn ≤ 1000000000000 := hsz.body
   have HSS : Hid (sumB zl (k + 1) = sumB zl k + ((ybn : Int) + 1)) := hss
   have hbd : 0 ≤ S + ((bn : Int) + 1) + sumB zl k ∧ S + ((bn : Int) + 1) + sumB zl k ≤ 4000000000000000000 := by
    have h1 := HM.out k
    have h2 := HH1.out
    omega
   have hgs := HK.out.lt
   have hcl := uadd_any g T (S + ((bn : Int) + 1) + sumB zl k) q yb1 ybn yb3 (wr.alloc (.cells #[.string ⟨ynm.toArray⟩, .int .i64 ygd, .slice yb1 ybn yb3, .slice yt1 ytn yt3, .slice yo1 yon yo3] 75)) (HK.out.alloc _) (by omega) hbd.1 hbd.2
   have HOA : Hid (OnlyIn g (g + 1) W1 (wr.alloc (.cells #[.string ⟨ynm.toArray⟩, .int .i64 ygd, .slice yb1 ybn yb3, .slice yt1 ytn yt3, .slice yo1 yon yo3] 75))) := HO.out.trans (OnlyIn.of_below ((Below.refl wr.heap.size wr).alloc (Nat.le_refl _) _) (by omega))
   clear hsz hss hbd HK HO
   go_wp2_with fail
   refine hcl.mono ?_
   clear hcl r0 r1 r2 r3 r4
   rintro e w3 ⟨rfl, hk3, ho3⟩
   have HK3 : Hid (Blk w3 g T #[.int .i64 (S + ((bn : Int) + 1) + sumB zl (k + 1)), .int .i64 q]) := by
    show Blk _ _ _ _
    rw [HSS.out, ← Int.add_assoc]
    exact hk3
   have HO3 := Lib.hid (HOA.out.trans ho3)
   clear hk3 ho3 HOA HSS
   go_wp2_with fail
   go_roundw
   case rel => exact ⟨k + 1, by omega, by go_num, HK3, HO3⟩
   case measure => simp [intOf]; omega
  ·obtain rfl : k = zn := by omega
   go_wp2_with fail
   go_end0
   refine ⟨rfl, ?_, HO0.out.trans HO.out⟩
   have h := HK.out
   rw [← Int.add_assoc, ← HZN.out]
   exact h
set_option maxRecDepth 100000 in
theorem uset_any (x : SetR) (g : Nat) (T : TypeId) (S q : Int) (w : World) (B : Nat) (hr : x.rd w B) (hz : x.sz) (hB : B ≤ g) (hk : Blk w g T #[.int .i64 S, .int .i64 q]) (h0 : 0 ≤ S) (h1 : S + setSum x ≤ 4000000000000000000) :
  Calls Tryz.prog 147 #[.pointer (some ⟨g, 0, none⟩), .agg (encSet x).toArray] w fun e w' => e = .returned (.tuple #[]) ∧ Blk w' g T #[.int .i64 (S + setSum x), .int .i64 q] ∧ OnlyIn g (g + 1) w w' := by
 have hb1 : Below w.heap.size w (w.alloc (.cells (encSet x).toArray 63)) := (Below.refl _ _).alloc (Nat.le_refl _) _
 have hgw := hk.lt
 have hcl := ubodies_any x g T S q (w.alloc (.cells (encSet x).toArray 63)) B ⟨hr.body.below (hb1.mono (by omega)), hr.snaps.below (hb1.mono (by omega)), fun y hy => ⟨(hr.each y hy).body.below (hb1.mono (by omega)), (hr.each y hy).tags.below (hb1.mono (by omega)), (hr.each y hy).own.below (hb1.mono (by omega))⟩, hr.own.below (hb1.mono (by omega))⟩ hz hB (hk.alloc _) h0 h1
 obtain ⟨sm, hsm⟩ : ∃ v, v = setSum x := ⟨_, rfl⟩
 rw [← hsm] at hcl ⊢
 have HO0 : Hid (OnlyIn g (g + 1) w (w.alloc (.cells (encSet x).toArray 63))) := OnlyIn.of_below hb1 (by omega)
 clear hb1 hk hr hz hsm h1
 obtain ⟨pa, og, ⟨bA, bn, bc, bl⟩, ⟨zA, zn, zc, zl⟩, ⟨oA, on, oc, ol⟩⟩ := x
 have hcl2 : Calls Tryz.prog 167 #[.agg #[.string ⟨pa.toArray⟩, .string ⟨og.toArray⟩, .slice bA bn bc, .slice zA zn zc, .slice oA on oc], .func (.func 148) #[.pointer (some ⟨g, 0, none⟩)] #[]] (w.alloc (.cells #[.string ⟨pa.toArray⟩, .string ⟨og.toArray⟩, .slice bA bn bc, .slice zA zn zc, .slice oA on oc] 63)) _ := hcl
 have HO1 : Hid (OnlyIn g (g + 1) w (w.alloc (.cells #[.string ⟨pa.toArray⟩, .string ⟨og.toArray⟩, .slice bA bn bc, .slice zA zn zc, .slice oA on oc] 63))) := HO0.out
 clear hcl HO0
 show Calls Tryz.prog 147 #[.pointer (some ⟨g, 0, none⟩), .agg #[.string ⟨pa.toArray⟩, .string ⟨og.toArray⟩, .slice bA bn bc, .slice zA zn zc, .slice oA on oc]] w _
 go_enter Tryz.func147, Tryz.ntmps147
 go_wp2_with fail
 refine hcl2.mono ?_
 clear hcl2
 rintro e w2 ⟨rfl, hk2, ho2⟩
 go_wp2_with fail
 go_end0
 exact ⟨rfl, hk2, HO1.out.trans ho2⟩
def sumS (l : List SetR) (k : Nat) : Int := ((l.take k).map setSum).sum
def sumG (l : List StageR) (k : Nat) : Int := ((l.take k).map fun x => (x.body.n : Int) + 1).sum
theorem setSum_nonneg (x : SetR) : 0 ≤ setSum x := by
 have := (sumB_mono x.snaps.l x.snaps.l.length).1
 unfold setSum
 omega
theorem sum_nonneg {α : Type} (f : α → Int) (hf : ∀ a, 0 ≤ f a) (l : List α) : 0 ≤ (l.map f).sum := by
 induction l with
 | nil => simp
 | cons x r ih => have := hf x; simp only [List.map_cons, List.sum_cons]; omega
theorem sumS_succ (l : List SetR) (k : Nat) (h : k < l.length) : sumS l (k + 1) = sumS l k + setSum (l[k]'h) := by
 unfold sumS
 rw [List.take_add_one, List.getElem?_eq_getElem h, Option.toList_some, List.map_append, List.sum_append, List.map_cons, List.map_nil, List.sum_cons, List.sum_nil, Int.add_zero]
theorem sumG_succ (l : List StageR) (k : Nat) (h : k < l.length) : sumG l (k + 1) = sumG l k + (((l[k]'h).body.n : Int) + 1) := by
 unfold sumG
 rw [List.take_add_one, List.getElem?_eq_getElem h, Option.toList_some, List.map_append, List.sum_append, List.map_cons, List.map_nil, List.sum_cons, List.sum_nil, Int.add_zero]
theorem sumS_mono (l : List SetR) (k : Nat) : 0 ≤ sumS l k ∧ sumS l k ≤ sumS l l.length := by
 refine ⟨sum_nonneg _ setSum_nonneg _, ?_⟩
 have h1 : sumS l l.length = sumS l k + ((l.drop k).map setSum).sum := by
  unfold sumS
  rw [List.take_length]
  conv => lhs; rw [← List.take_append_drop k l]
  rw [List.map_append, List.sum_append]
 have := sum_nonneg _ setSum_nonneg (l.drop k)
 omega
theorem sumG_mono (l : List StageR) (k : Nat) : 0 ≤ sumG l k ∧ sumG l k ≤ sumG l l.length := by
 refine ⟨sum_nonneg _ (fun _ => by omega) _, ?_⟩
 have h1 : sumG l l.length = sumG l k + ((l.drop k).map fun x => (x.body.n : Int) + 1).sum := by
  unfold sumG
  rw [List.take_length]
  conv => lhs; rw [← List.take_append_drop k l]
  rw [List.map_append, List.sum_append]
 have := sum_nonneg (fun x : StageR => (x.body.n : Int) + 1) (fun _ => by omega) (l.drop k)
 omega
/-- what a tenant is charged for, as it lies -/
def tenSum (t : TenR) : Int := sumS t.sets.l t.sets.l.length + sumG t.stages.l t.stages.l.length
set_option maxRecDepth 100000 in
set_option maxHeartbeats 4000000 in
theorem counted_any (t : TenR) (w : World) (B : Nat) (hB : B ≤ w.heap.size) (hr : t.rd w B) (hz : t.sz) (hs : tenSum t ≤ 4000000000000000000) :
  Calls Tryz.prog 99 #[t.val] w fun e w' => ∃ g, e = .returned (.pointer (some ⟨g, 0, none⟩)) ∧ Blk w' g 179 #[.int .i64 (tenSum t), .int .i64 t.quota] ∧ Below w.heap.size w w' := by
 obtain ⟨nm, qu, nx, ⟨s1, sn, s3, sl⟩, ⟨g1, gn, g3, gl⟩, ⟨t1, tn, t3, tl⟩, ⟨l1, ln, l3, ll⟩⟩ := t
 have hts : tenSum ⟨nm, qu, nx, ⟨s1, sn, s3, sl⟩, ⟨g1, gn, g3, gl⟩, ⟨t1, tn, t3, tl⟩, ⟨l1, ln, l3, ll⟩⟩ = sumS sl sl.length + sumG tl tl.length := rfl
 rw [hts] at hs ⊢
 show Calls Tryz.prog 99 #[.agg #[.string ⟨nm.toArray⟩, .int .i64 qu, .int .i64 nx, .slice s1 sn s3, .slice g1 gn g3, .slice t1 tn t3, .slice l1 ln l3]] w _
 have HSN : Hid (sn = sl.length) := hr.sets.1
 have HTN : Hid (tn = tl.length) := hr.stages.1
 have hsn : sn ≤ 1000000000000 := hz.sets
 have htn : tn ≤ 1000000000000 := hz.stages
 have hb2 := ((Below.refl w.heap.size w).alloc (Nat.le_refl _) (.cells #[.string ⟨nm.toArray⟩, .int .i64 qu, .int .i64 nx, .slice s1 sn s3, .slice g1 gn g3, .slice t1 tn t3, .slice l1 ln l3] 27)).alloc (by simp) (.cells #[.int .i64 0, .int .i64 qu] 179)
 have kT := (Blk.new w 27 #[.string ⟨nm.toArray⟩, .int .i64 qu, .int .i64 nx, .slice s1 sn s3, .slice g1 gn g3, .slice t1 tn t3, .slice l1 ln l3]).alloc (.cells #[.int .i64 0, .int .i64 qu] 179)
 have kU := Blk.new (w.alloc (.cells #[.string ⟨nm.toArray⟩, .int .i64 qu, .int .i64 nx, .slice s1 sn s3, .slice g1 gn g3, .slice t1 tn t3, .slice l1 ln l3] 27)) 179 #[.int .i64 0, .int .i64 qu]
 rw [show (w.alloc (.cells #[.string ⟨nm.toArray⟩, .int .i64 qu, .int .i64 nx, .slice s1 sn s3, .slice g1 gn g3, .slice t1 tn t3, .slice l1 ln l3] 27)).heap.size = w.heap.size + 1 by simp] at kU
 obtain ⟨W2, hW2⟩ : ∃ W, W = (w.alloc (.cells #[.string ⟨nm.toArray⟩, .int .i64 qu, .int .i64 nx, .slice s1 sn s3, .slice g1 gn g3, .slice t1 tn t3, .slice l1 ln l3] 27)).alloc (.cells #[.int .i64 0, .int .i64 qu] 179) := ⟨_, rfl⟩
 have hsz : W2.heap.size = w.heap.size + 2 := by rw [hW2]; simp
 rw [← hW2] at hb2 kT kU
 have HR : Hid (∀ W, OnlyIn (w.heap.size + 1) (w.heap.size + 1 + 1) W2 W → TenR.rd W B ⟨nm, qu, nx, ⟨s1, sn, s3, sl⟩, ⟨g1, gn, g3, gl⟩, ⟨t1, tn, t3, tl⟩, ⟨l1, ln, l3, ll⟩⟩) := by
  show ∀ W, _ → _
  intro W hW
  exact TenR.rd.below hr ((hb2.trans (hW.low.mono (by omega))).mono hB)
 have HX : Hid (∀ W, OnlyIn (w.heap.size + 1) (w.heap.size + 1 + 1) W2 W → W.cell? ⟨w.heap.size, 3, none⟩ = some (.slice s1 sn s3) ∧ W.cell? ⟨w.heap.size, 5, none⟩ = some (.slice t1 tn t3)) := by
  show ∀ W, _ → _
  intro W hW
  have hk := kT.below hW.low (by omega)
  exact ⟨hk.cell 3, hk.cell 5⟩
 have HB2 := Lib.hid hb2
 have HZ := Lib.hid hz
 have HS := Lib.hid hs
 have HSZ := Lib.hid hsz
 have HKU := Lib.hid kU
 clear hb2 kT kU hz hr hts hs hsz
 go_enter Tryz.func99, Tryz.ntmps99
 go_wp2_with fail
 rw [← hW2]
 clear hW2
 go_loopw [15] (fun j wr => ∃ k : Nat, k ≤ sn ∧ j = .int .i64 (k : Int) ∧ Hid (Blk wr (w.heap.size + 1) 179 #[.int .i64 (sumS sl k), .int .i64 qu]) ∧ Hid (OnlyIn (w.heap.size + 1) (w.heap.size + 1 + 1) W2 wr)) (fun j _ => sn - (intOf j).toNat)
 case atStart => exact ⟨0, Nat.zero_le _, rfl, by show Blk _ _ _ _; simpa [sumS] using HKU.out, OnlyIn.refl _ _ _⟩
 case round =>
  obtain ⟨k, hk, rfl, HK, HO⟩ := hrel
  by_cases hlt : k < sn
  ·have hki : (k : Int) < (sn : Int) := by omega
   have hkl : k < sl.length := by have := HSN.out; omega
   obtain ⟨ad, hsa, -, p0, p1, p2, p3, p4⟩ := set_at (HR.out wr HO.out).sets.2.2 HSN.out hlt
   simp only at hsa
   subst hsa
   have hss := sumS_succ sl k hkl
   have hmo := (sumS_mono sl (k + 1)).2
   have hm0 := (sumS_mono sl k).1
   have hg0 := (sumG_mono tl tl.length).1
   have hrx := (HR.out wr HO.out).eachS _ (List.getElem_mem hkl)
   have hzx := HZ.out.eachS _ (List.getElem_mem hkl)
   obtain ⟨x, hx⟩ : ∃ x, x = sl[k]'hkl := ⟨_, rfl⟩
   simp only at p0 p1 p2 p3 p4
   rw [← hx] at p0 p1 p2 p3 p4 hss hrx hzx
   clear hx
   have hgs := HK.out.lt
   have hba := (Below.refl wr.heap.size wr).alloc (Nat.le_refl _) (.cells (encSet x).toArray 63)
   have hcl := uset_any x (w.heap.size + 1) 179 (sumS sl k) qu (wr.alloc (.cells (encSet x).toArray 63)).drew B ⟨hrx.body.below (hba.drew.mono (by omega)), hrx.snaps.below (hba.drew.mono (by omega)), fun y hy => ⟨(hrx.each y hy).body.below (hba.drew.mono (by omega)), (hrx.each y hy).tags.below (hba.drew.mono (by omega)), (hrx.each y hy).own.below (hba.drew.mono (by omega))⟩, hrx.own.below (hba.drew.mono (by omega))⟩ hzx (by omega) (HK.out.alloc _).drew hm0 (by rw [← hss]; have := HS.out; omega)
   have HOA : Hid (OnlyIn (w.heap.size + 1) (w.heap.size + 1 + 1) W2 (wr.alloc (.cells (encSet x).toArray 63)).drew) := HO.out.trans (OnlyIn.of_below hba.drew (by omega))
   rw [← hss] at hcl
   obtain ⟨S1, hS1⟩ : ∃ v, v = sumS sl (k + 1) := ⟨_, rfl⟩
   rw [← hS1] at hcl
   have HS1 := Lib.hid hS1
   have kx := (Blk.new wr 63 (encSet x).toArray)
   clear hss hmo hm0 hg0 hrx hzx hba HK HO hS1
   obtain ⟨pa, og, ⟨bA, bn, bc, bl⟩, ⟨zA, zn, zc, zl⟩, ⟨oA, on, oc, ol⟩⟩ := x
   have hcl2 : Calls Tryz.prog 147 #[.pointer (some ⟨w.heap.size + 1, 0, none⟩), .agg #[.string ⟨pa.toArray⟩, .string ⟨og.toArray⟩, .slice bA bn bc, .slice zA zn zc, .slice oA on oc]] (wr.alloc (.cells #[.string ⟨pa.toArray⟩, .string ⟨og.toArray⟩, .slice bA bn bc, .slice zA zn zc, .slice oA on oc] 63)).drew _ := hcl
   have HOB : Hid (OnlyIn (w.heap.size + 1) (w.heap.size + 1 + 1) W2 (wr.alloc (.cells #[.string ⟨pa.toArray⟩, .string ⟨og.toArray⟩, .slice bA bn bc, .slice zA zn zc, .slice oA on oc] 63)).drew) := HOA.out
   clear hcl HOA kx
   simp only at p0 p1 p2 p3 p4
   obtain ⟨c3, c5⟩ := (HX.out W2 (OnlyIn.refl _ _ _))
   go_wp2_with fail
   go_region_with (refine hcl2.mono ?_; rintro e w3 ⟨rfl, hk3, ho3⟩)
   all_goals
    have HK3 : Hid (Blk w3 (w.heap.size + 1) 179 #[.int .i64 (sumS sl (k + 1)), .int .i64 qu]) := by
     show Blk _ _ _ _
     rw [← HS1.out]
     exact hk3
    have HO3 := Lib.hid (HOB.out.trans ho3)
    clear hk3 ho3 HOB HS1
    go_wp2_with fail
    go_roundw
    case rel => exact ⟨k + 1, by omega, by go_num, HK3, HO3⟩
    case measure => simp [intOf]; omega
  ·obtain rfl : k = sn := by omega
   have HK1 : Hid (Blk wr (w.heap.size + 1) 179 #[.int .i64 (sumS sl sl.length + sumG tl 0), .int .i64 qu]) := by
    show Blk _ _ _ _
    have h := HK.out
    rw [HSN.out] at h
    simpa [sumG] using h
   obtain ⟨c3, c5⟩ := HX.out wr HO.out
   clear HK
   go_wp2_with fail
   go_loopw [28] (fun j wq => ∃ k : Nat, k ≤ tn ∧ j = .int .i64 (k : Int) ∧ Hid (Blk wq (w.heap.size + 1) 179 #[.int .i64 (sumS sl sl.length + sumG tl k), .int .i64 qu]) ∧ Hid (OnlyIn (w.heap.size + 1) (w.heap.size + 1 + 1) W2 wq)) (fun j _ => tn - (intOf j).toNat)
   case atStart => exact ⟨0, Nat.zero_le _, rfl, HK1, HO⟩
   case round =>
    clear HK1 HO c3 c5
    obtain ⟨m, hm, rfl, HK, HO⟩ := hrel
    by_cases hlt : m < tn
    ·have hki : (m : Int) < (tn : Int) := by omega
     have hkl : m < tl.length := by have := HTN.out; omega
     obtain ⟨ad, hsa, -, hel⟩ := Reads.elAll (enc := encStage) (k := 21) (fun _ => rfl) (HR.out wr HO.out).stages.2.2 HTN.out hlt
     simp only at hsa
     subst hsa
     have hss := sumG_succ tl m hkl
     have hmo := (sumG_mono tl (m + 1)).2
     have hm0 := (sumG_mono tl m).1
     have hg0 := (sumS_mono sl sl.length).1
     have hzx := HZ.out.eachT _ (List.getElem_mem hkl)
     obtain ⟨x, hx⟩ : ∃ x, x = tl[m]'hkl := ⟨_, rfl⟩
     simp only at hel
     rw [← hx] at hel hss hzx
     clear hx
     obtain ⟨qinto, qkind, qnm, qfrm, qgd, ⟨qo1, qon, qo3, qol⟩, qix, qct, qdt, ⟨qsa, qsb, qsc, qsd⟩, ⟨qb1, qbn, qb3, qbl⟩, qat, qnx, ⟨qua, qub, quc, qud⟩, qdone⟩ := x
     have HEL : Hid (∀ j v, ([.string ⟨qinto.toArray⟩, .int .i64 qkind, .string ⟨qnm.toArray⟩, .int .i64 qfrm, .int .i64 qgd, .slice qo1 qon qo3, .int .i64 qix, .int .i64 qct, .string ⟨qdt.toArray⟩, .int .u64 qsa, .int .u64 qsb, .int .u64 qsc, .int .u64 qsd, .slice qb1 qbn qb3, .int .i64 qat, .int .i64 qnx, .int .u64 qua, .int .u64 qub, .int .u64 quc, .int .u64 qud, .bool qdone] : List Value)[j]? = some v → wr.cell? ((ad.add (m * 21)).add j) = some v) := hel
     have hqn : qbn ≤ 1000000000000 := hzx.body
     have HSS : Hid (sumG tl (m + 1) = sumG tl m + ((qbn : Int) + 1)) := hss
     have hgs := HK.out.lt
     have hba := (Below.refl wr.heap.size wr).alloc (Nat.le_refl _) (.cells #[.string ⟨qinto.toArray⟩, .int .i64 qkind, .string ⟨qnm.toArray⟩, .int .i64 qfrm, .int .i64 qgd, .slice qo1 qon qo3, .int .i64 qix, .int .i64 qct, .string ⟨qdt.toArray⟩, .int .u64 qsa, .int .u64 qsb, .int .u64 qsc, .int .u64 qsd, .slice qb1 qbn qb3, .int .i64 qat, .int .i64 qnx, .int .u64 qua, .int .u64 qub, .int .u64 quc, .int .u64 qud, .bool qdone] 47)
     have hcl := uadd_any (w.heap.size + 1) 179 (sumS sl sl.length + sumG tl m) qu qb1 qbn qb3 (wr.alloc (.cells #[.string ⟨qinto.toArray⟩, .int .i64 qkind, .string ⟨qnm.toArray⟩, .int .i64 qfrm, .int .i64 qgd, .slice qo1 qon qo3, .int .i64 qix, .int .i64 qct, .string ⟨qdt.toArray⟩, .int .u64 qsa, .int .u64 qsb, .int .u64 qsc, .int .u64 qsd, .slice qb1 qbn qb3, .int .i64 qat, .int .i64 qnx, .int .u64 qua, .int .u64 qub, .int .u64 quc, .int .u64 qud, .bool qdone] 47)).drew (HK.out.alloc _).drew (by omega) (by omega) (by have := HS.out; omega)
     have HOA : Hid (OnlyIn (w.heap.size + 1) (w.heap.size + 1 + 1) W2 (wr.alloc (.cells #[.string ⟨qinto.toArray⟩, .int .i64 qkind, .string ⟨qnm.toArray⟩, .int .i64 qfrm, .int .i64 qgd, .slice qo1 qon qo3, .int .i64 qix, .int .i64 qct, .string ⟨qdt.toArray⟩, .int .u64 qsa, .int .u64 qsb, .int .u64 qsc, .int .u64 qsd, .slice qb1 qbn qb3, .int .i64 qat, .int .i64 qnx, .int .u64 qua, .int .u64 qub, .int .u64 quc, .int .u64 qud, .bool qdone] 47)).drew) := HO.out.trans (OnlyIn.of_below hba.drew (by omega))
     have e13 := (Blk.new wr 47 #[.string ⟨qinto.toArray⟩, .int .i64 qkind, .string ⟨qnm.toArray⟩, .int .i64 qfrm, .int .i64 qgd, .slice qo1 qon qo3, .int .i64 qix, .int .i64 qct, .string ⟨qdt.toArray⟩, .int .u64 qsa, .int .u64 qsb, .int .u64 qsc, .int .u64 qsd, .slice qb1 qbn qb3, .int .i64 qat, .int .i64 qnx, .int .u64 qua, .int .u64 qub, .int .u64 quc, .int .u64 qud, .bool qdone]).drew.cell 13
     simp only [List.getElem?_toArray, List.getElem?_cons_succ, List.getElem?_cons_zero] at e13
     clear hss hmo hm0 hg0 hzx hba HK HO hel
     go_wp2_with (first | (refine wpList_load_at rfl 47 (.tmp 30) rfl (ad.add (m * 21)) rfl [.string ⟨qinto.toArray⟩, .int .i64 qkind, .string ⟨qnm.toArray⟩, .int .i64 qfrm, .int .i64 qgd, .slice qo1 qon qo3, .int .i64 qix, .int .i64 qct, .string ⟨qdt.toArray⟩, .int .u64 qsa, .int .u64 qsb, .int .u64 qsc, .int .u64 qsd, .slice qb1 qbn qb3, .int .i64 qat, .int .i64 qnx, .int .u64 qua, .int .u64 qub, .int .u64 quc, .int .u64 qud, .bool qdone] _ HEL.out Tryz.underlying47 rfl (by kernel_rfl) ?_) | (refine wpList_store_new wr rfl 47 (.tmp 7) (.tmp 31) rfl 47 _ [.string ⟨qinto.toArray⟩, .int .i64 qkind, .string ⟨qnm.toArray⟩, .int .i64 qfrm, .int .i64 qgd, .slice qo1 qon qo3, .int .i64 qix, .int .i64 qct, .string ⟨qdt.toArray⟩, .int .u64 qsa, .int .u64 qsb, .int .u64 qsc, .int .u64 qsd, .slice qb1 qbn qb3, .int .i64 qat, .int .i64 qnx, .int .u64 qua, .int .u64 qub, .int .u64 quc, .int .u64 qud, .bool qdone] rfl rfl rfl (by kernel_rfl) (by simp [Value.oneCell']) ?_))
     go_region_with (refine hcl.mono ?_; rintro e w3 ⟨rfl, hk3, ho3⟩)
     all_goals
      have HK3 : Hid (Blk w3 (w.heap.size + 1) 179 #[.int .i64 (sumS sl sl.length + sumG tl (m + 1)), .int .i64 qu]) := by
       show Blk _ _ _ _
       rw [HSS.out, ← Int.add_assoc]
       exact hk3
      have HO3 := Lib.hid (HOA.out.trans ho3)
      clear hk3 ho3 HOA HSS e13 HEL
      go_wp2_with fail
      go_roundw
      case rel => exact ⟨m + 1, by omega, by go_num, HK3, HO3⟩
      case measure => simp [intOf]; omega
    ·obtain rfl : m = tn := by omega
     go_wp2_with fail
     go_ret
     refine ⟨w.heap.size + 1, rfl, ?_, HB2.out.trans (HO.out.low.mono (by omega))⟩
     have h := HK.out
     rw [HTN.out] at h
     exact h
set_option maxRecDepth 100000 in
theorem uover_any (g : Nat) (S q : Int) (w : World) (hk : Blk w g 179 #[.int .i64 S, .int .i64 q]) :
  Calls Tryz.prog 100 #[.pointer (some ⟨g, 0, none⟩)] w fun e w' => e = .returned (.bool (decide (q < S))) ∧ Below w.heap.size w w' := by
 have c0 := hk.cell 0
 have c1 := hk.cell 1
 simp only [List.getElem?_toArray, List.getElem?_cons_succ, List.getElem?_cons_zero] at c0 c1
 clear hk
 by_cases h : q < S
 ·have hd : Hid (decide (q < S) = true) := decide_eq_true h
  go_enter Tryz.func100, Tryz.ntmps100
  go_wp2_with fail
  go_region
  go_wp2_with fail
  go_ret
  exact ⟨by rw [hd.out]; rfl, (Below.refl _ _).drew⟩
 ·have hd : Hid (decide (q < S) = false) := decide_eq_false h
  go_enter Tryz.func100, Tryz.ntmps100
  go_wp2_with fail
  go_region
  go_wp2_with fail
  go_ret
  exact ⟨by rw [hd.out]; rfl, (Below.refl _ _).drew⟩
set_option maxRecDepth 100000 in
set_option maxHeartbeats 2000000 in
theorem fits_any (t : TenR) (w : World) (B : Nat) (hB : B ≤ w.heap.size) (hr : t.rd w B) (hz : t.sz) (hs : tenSum t ≤ 4000000000000000000) :
  Calls Tryz.prog 44 #[t.val] w fun e w' => e = .returned (.bool (decide (tenSum t ≤ t.quota))) ∧ Below w.heap.size w w' := by
 have hba := (Below.refl w.heap.size w).alloc (Nat.le_refl _) (.cells t.cells.toArray 27)
 have hc := counted_any t (w.alloc (.cells t.cells.toArray 27)) B (by simp; omega) (TenR.rd.below hr (hba.mono hB)) hz hs
 have kT := Blk.new w 27 t.cells.toArray
 obtain ⟨S, hS⟩ : ∃ S, S = tenSum t := ⟨_, rfl⟩
 rw [← hS] at hc ⊢
 clear hS hr hz hs
 obtain ⟨nm, qu, nx, ⟨s1, sn, s3, sl⟩, ⟨g1, gn, g3, gl⟩, ⟨t1, tn, t3, tl⟩, ⟨l1, ln, l3, ll⟩⟩ := t
 have hc2 : Calls Tryz.prog 99 #[.agg #[.string ⟨nm.toArray⟩, .int .i64 qu, .int .i64 nx, .slice s1 sn s3, .slice g1 gn g3, .slice t1 tn t3, .slice l1 ln l3]] (w.alloc (.cells #[.string ⟨nm.toArray⟩, .int .i64 qu, .int .i64 nx, .slice s1 sn s3, .slice g1 gn g3, .slice t1 tn t3, .slice l1 ln l3] 27)) _ := hc
 have HBA : Hid (Below w.heap.size w (w.alloc (.cells #[.string ⟨nm.toArray⟩, .int .i64 qu, .int .i64 nx, .slice s1 sn s3, .slice g1 gn g3, .slice t1 tn t3, .slice l1 ln l3] 27))) := hba
 clear hc hba kT
 show Calls Tryz.prog 44 #[.agg #[.string ⟨nm.toArray⟩, .int .i64 qu, .int .i64 nx, .slice s1 sn s3, .slice g1 gn g3, .slice t1 tn t3, .slice l1 ln l3]] w fun e w' => e = .returned (.bool (decide (S ≤ qu))) ∧ Below w.heap.size w w'
 go_enter Tryz.func44, Tryz.ntmps44
 go_wp2_with fail
 refine hc2.mono ?_
 clear hc2
 rintro e w2 ⟨g, rfl, hk, hb2⟩
 have ho := uover_any g S qu w2 hk
 have HB2 := Lib.hid (HBA.out.trans (hb2.mono HBA.out.size))
 clear hk hb2 HBA
 have hq : (!decide (qu < S)) = decide (S ≤ qu) := by
  by_cases h : qu < S
  ·simp [h, Int.not_le.2 h]
  ·simp [h, Int.not_lt.1 h]
 go_wp2_with fail
 refine ho.mono ?_
 clear ho
 rintro e w3 ⟨rfl, hb3⟩
 go_wp2_with fail
 go_ret
 exact ⟨by rw [← hq]; rfl, HB2.out.trans (hb3.mono HB2.out.size)⟩
end Go.Proofs.YteafdncnnamakaaGreatDoor

/-
 tree.Copy: a copy is of one content with the tenant, in memory of its own.
-/
namespace Go.Proofs.YteafdncnnamakaaGreatDoor
open Go.RowKit

theorem keptSnap : Kept (fun b w (y : SnapR) => SnapO w b y) := ⟨fun _ _ _ _ h hb => h.below hb, fun _ _ _ _ _ h hg hl => h.kept hg hl, fun _ _ _ _ h hb => h.mono hb⟩
theorem keptSet : Kept (fun b w (y : SetR) => SetO w b y) := ⟨fun _ _ _ _ h hb => h.below hb, fun _ _ _ _ _ h hg hl => h.kept hg hl, fun _ _ _ _ h hb => h.mono hb⟩
theorem keptStage : Kept (fun b w (y : StageR) => StageO w b y) := ⟨fun _ _ _ _ h hb => h.below hb, fun _ _ _ _ _ h hg hl => h.kept hg hl, fun _ _ _ _ h hb => h.mono hb⟩
theorem cells_one {α : Type} {enc : α → List Value} (h : ∀ x, ∀ u ∈ enc x, u.oneCell' = true) (l : List α) : ∀ u ∈ cellsK enc l, u.oneCell' = true := by
 intro u hu
 obtain ⟨x, _, hx⟩ := List.mem_flatMap.1 hu
 exact h x u hx
theorem encB_one (x : BlkT) : ∀ u ∈ encB x, u.oneCell' = true := by intro u hu; simp [encB, strV] at hu; rcases hu with rfl | rfl <;> rfl
theorem encP_one (x : BS × BS) : ∀ u ∈ encP x, u.oneCell' = true := by intro u hu; simp [encP, strV] at hu; rcases hu with rfl | rfl <;> rfl
theorem encS_one (x : BS) : ∀ u ∈ encS x, u.oneCell' = true := by intro u hu; simp [encS, strV] at hu; subst hu; rfl
theorem encG_one (x : GT) : ∀ u ∈ encG x, u.oneCell' = true := by intro u hu; simp [encG, strV] at hu; rcases hu with rfl | rfl | rfl <;> rfl
theorem encE_one (x : EntryR) : ∀ u ∈ encEntry x, u.oneCell' = true := by intro u hu; simp [encEntry, strV] at hu; rcases hu with rfl | rfl | rfl | rfl <;> rfl
/-- an owned row is one of a lower base, whatever is done to a box below it -/
theorem own_kept {W W' : World} {r : Nat} {base : Nat} {e : TypeId} {k n : Nat} {v : Value} {xs : List Value} (h : W.ownsRow base e k v n xs) (hg : W.grownBy W' (some r)) (hr : r < base) : W'.ownsRow base e k v n xs :=
 h.kept hg (.inr fun hh => by have := (h.lt _ hh).1; omega)
theorem copySnapR_any (x : SnapR) (W : World) (B : Nat) (hB : B ≤ W.heap.size) (hr : x.rd W B) (hz : x.sz) :
  Calls Tryz.prog 139 #[.agg (encSnap x).toArray] W fun e w' => ∃ y, e = .returned (.agg (encSnap y).toArray) ∧ SnapO w' W.heap.size y ∧ x.eqv y ∧ Below W.heap.size W w' := by
 obtain ⟨nm, gd, ⟨b1, bn, b3, bl⟩, ⟨t1, tn, t3, tl⟩, ⟨o1, on, o3, ol⟩⟩ := x
 refine (copySnap_any nm gd b1 bn b3 t1 tn t3 o1 on o3 _ _ _ W B hB hr.body.2.2 hr.tags.2.2 hr.own.2.2 (cells_one encB_one _) (cells_one encS_one _) (cells_one encP_one _) hz.body hz.tags hz.own).mono ?_
 rintro e w' ⟨Ab, cb, At, ct, Ao, co, rfl, h1, h2, h3, h4⟩
 exact ⟨⟨nm, gd, ⟨Ab, bn, cb, bl⟩, ⟨At, tn, ct, tl⟩, ⟨Ao, on, co, ol⟩⟩, rfl, ⟨⟨hr.body.1, h1⟩, ⟨hr.tags.1, h2⟩, ⟨hr.own.1, h3⟩⟩, ⟨rfl, rfl, rfl, rfl, rfl⟩, h4⟩
theorem copySetR_any (x : SetR) (w : World) (B : Nat) (hB : B ≤ w.heap.size) (hr : x.rd w B) (hz : x.sz) :
  Calls Tryz.prog 85 #[.agg (encSet x).toArray] w fun e w' => ∃ y, e = .returned (.agg (encSet y).toArray) ∧ SetO w' w.heap.size y ∧ x.eqv y ∧ Below w.heap.size w w' := by
 obtain ⟨pa, og, ⟨b1, bn, b3, bl⟩, ⟨s1, sn, s3, sl⟩, ⟨o1, on, o3, ol⟩⟩ := x
 have hb := hr.body
 have hs := hr.snaps
 have ho := hr.own
 have hb1 : bn = bl.length := hb.1
 have hs1 : sn = sl.length := hs.1
 have ho1 : on = ol.length := ho.1
 refine (copySet_abs pa og b1 bn b3 s1 sn s3 o1 on o3 w
  (fun W v => W.ownsRow (w.heap.size + 2) 141 2 v bn (cellsK encB bl)) (fun W W' v r h hg hl => own_kept h hg hl) (fun W hW hsz => ?_)
  (fun W v => W.ownsRow (w.heap.size + 2) 152 2 v on (cellsK encP ol)) (fun W W' v r h hg hl => own_kept h hg hl) (fun W hW hsz => ?_)
  (fun W v => ∃ s : FS SnapR, v = s.val ∧ s.own W (w.heap.size + 2) 75 5 encSnap ∧ (∀ y ∈ s.l, SnapO W (w.heap.size + 2) y) ∧ EachR SnapR.eqv sl s.l) (fun W W' v r h hg hl => ?_) (fun W hW hsz => ?_)).mono ?_
 ·refine (cloneBl_any _ bn b1 b3 W B (hb.2.2.below (hW.mono hB)) (by have := hW.size; omega) (cells_one encB_one _) (by have := hz.body; simp only at this; omega)).mono ?_
  rintro e w' ⟨v, rfl, h1, h2⟩
  obtain ⟨A, c, rfl, _⟩ := own_form h1
  exact ⟨A, bn, c, rfl, own_mono h1 hsz, h2⟩
 ·refine (clonePr_any _ on o1 o3 W B (ho.2.2.below (hW.mono hB)) (by have := hW.size; omega) (cells_one encP_one _) (by have := hz.own; simp only at this; omega)).mono ?_
  rintro e w' ⟨v, rfl, h1, h2⟩
  obtain ⟨A, c, rfl, _⟩ := own_form h1
  exact ⟨A, on, c, rfl, own_mono h1 hsz, h2⟩
 ·obtain ⟨s, h1, h2, h3, h4⟩ := h
  exact ⟨s, h1, h2.kept hg hl, fun y hy => (h3 y hy).kept hg hl, h4⟩
 ·refine (eachSnap_any _ keptSnap SnapR.eqv sl sn hs1 s1 s3 W B (by have := hW.size; omega) (hs.2.2.below (hW.mono hB)) (by have := hz.snaps; simp only at this; omega) (fun x hx W2 hW2 => ?_)).mono ?_
  ·have hx2 : x.rd W2 B := by
    have := hr.each x hx
    have hb2 : Below B w W2 := (hW.mono hB).trans (hW2.mono (by have := hW.size; omega))
    exact ⟨this.body.below hb2, this.tags.below hb2, this.own.below hb2⟩
   exact copySnapR_any x W2 B (by have := hW.size; have := hW2.size; omega) hx2 (hz.each x hx)
  ·rintro e w' ⟨s, rfl, h1, h2, h3, h4⟩
   exact ⟨s.A, s.n, s.c, rfl, ⟨s, rfl, h1.mono hsz, fun y hy => (h2 y hy).mono hsz, h3⟩, h4⟩
 ·rintro e w' ⟨Ab, nb, cb, Ao, no, co, Az, nz, cz, rfl, h1, h2, ⟨s, h3, h4, h5, h6⟩, h7⟩
  obtain ⟨_, _, e1, _⟩ := own_form h1
  injection e1 with _ e1 _
  obtain ⟨_, _, e2, _⟩ := own_form h2
  injection e2 with _ e2 _
  subst e1 e2
  obtain ⟨A', n', c', l'⟩ := s
  injection h3 with e3 e4 e5
  subst e3 e4 e5
  exact ⟨⟨pa, og, ⟨Ab, nb, cb, bl⟩, ⟨Az, nz, cz, l'⟩, ⟨Ao, no, co, ol⟩⟩, rfl, ⟨⟨hb1, own_mono h1 (by omega)⟩, h4.mono (by omega), fun y hy => (h5 y hy).mono (by omega), ⟨ho1, own_mono h2 (by omega)⟩⟩, ⟨rfl, rfl, rfl, h6.1, h6.2, rfl⟩, h7⟩
theorem copyStageR_any (x : StageR) (w : World) (B : Nat) (hB : B ≤ w.heap.size) (hr : x.rd w B) (hz : x.sz) :
  Calls Tryz.prog 88 #[.agg (encStage x).toArray] w fun e w' => ∃ y, e = .returned (.agg (encStage y).toArray) ∧ StageO w' w.heap.size y ∧ x.eqv y ∧ Below w.heap.size w w' := by
 obtain ⟨into, kind, nm, frm, gd, ⟨o1, on, o3, ol⟩, ix, ct, dt, ⟨sa, sb, sc, sd⟩, ⟨b1, bn, b3, bl⟩, at_, nx, ⟨ua, ub, uc, ud⟩, done⟩ := x
 have hb := hr.body
 have ho := hr.own
 have hb1 : bn = bl.length := hb.1
 have ho1 : on = ol.length := ho.1
 refine (copyStage_abs into kind nm frm gd o1 on o3 ix ct dt sa sb sc sd b1 bn b3 at_ nx ua ub uc ud done w
  (fun W v => W.ownsRow (w.heap.size + 2) 141 2 v bn (cellsK encB bl)) (fun W W' v r h hg hl => own_kept h hg hl) (fun W hW hsz => ?_)
  (fun W v => W.ownsRow (w.heap.size + 2) 152 2 v on (cellsK encP ol)) (fun W W' v r h hg hl => own_kept h hg hl) (fun W hW hsz => ?_)).mono ?_
 ·refine (cloneBl_any _ bn b1 b3 W B (hb.2.2.below (hW.mono hB)) (by have := hW.size; omega) (cells_one encB_one _) (by have := hz.body; simp only at this; omega)).mono ?_
  rintro e w' ⟨v, rfl, h1, h2⟩
  obtain ⟨A, c, rfl, _⟩ := own_form h1
  exact ⟨A, bn, c, rfl, own_mono h1 hsz, h2⟩
 ·refine (clonePr_any _ on o1 o3 W B (ho.2.2.below (hW.mono hB)) (by have := hW.size; omega) (cells_one encP_one _) (by have := hz.own; simp only at this; omega)).mono ?_
  rintro e w' ⟨v, rfl, h1, h2⟩
  obtain ⟨A, c, rfl, _⟩ := own_form h1
  exact ⟨A, on, c, rfl, own_mono h1 hsz, h2⟩
 ·rintro e w' ⟨Ab, nb, cb, Ao, no, co, rfl, h1, h2, h7⟩
  obtain ⟨_, _, e1, _⟩ := own_form h1
  injection e1 with _ e1 _
  obtain ⟨_, _, e2, _⟩ := own_form h2
  injection e2 with _ e2 _
  subst e1 e2
  exact ⟨⟨into, kind, nm, frm, gd, ⟨Ao, no, co, ol⟩, ix, ct, dt, ⟨sa, sb, sc, sd⟩, ⟨Ab, nb, cb, bl⟩, at_, nx, ⟨ua, ub, uc, ud⟩, done⟩, rfl, ⟨⟨ho1, own_mono h2 (by omega)⟩, ⟨hb1, own_mono h1 (by omega)⟩⟩, ⟨rfl, rfl, rfl, rfl, rfl, rfl, rfl, rfl, rfl, rfl, rfl, rfl, rfl, rfl, rfl⟩, h7⟩
theorem tcopy_any (t : TenR) (w : World) (B : Nat) (hB : B ≤ w.heap.size) (hr : t.rd w B) (hz : t.sz) :
  Calls Tryz.prog 38 #[t.val] w fun e w' => ∃ y : TenR, e = .returned y.val ∧ TenO w' w.heap.size y ∧ t.eqv y ∧ Below w.heap.size w w' := by
 obtain ⟨nm, qu, nx, ⟨s1, sn, s3, sl⟩, ⟨g1, gn, g3, gl⟩, ⟨t1, tn, t3, tl⟩, ⟨l1, ln, l3, ll⟩⟩ := t
 have hs := hr.sets
 have hg := hr.grants
 have ht := hr.stages
 have hl := hr.log
 have hs1 : sn = sl.length := hs.1
 have hg1 : gn = gl.length := hg.1
 have ht1 : tn = tl.length := ht.1
 have hl1 : ln = ll.length := hl.1
 refine (copyTen_abs nm qu nx s1 sn s3 g1 gn g3 t1 tn t3 l1 ln l3 w
  (fun W v => ∃ s : FS SetR, v = s.val ∧ s.own W (w.heap.size + 2) 63 5 encSet ∧ (∀ y ∈ s.l, SetO W (w.heap.size + 2) y) ∧ EachR SetR.eqv sl s.l) (fun W W' v r h hg hl => ?_) (fun W hW hsz => ?_)
  (fun W v => W.ownsRow (w.heap.size + 2) 122 3 v gn (cellsK encG gl)) (fun W W' v r h hg hl => own_kept h hg hl) (fun W hW hsz => ?_)
  (fun W v => ∃ s : FS StageR, v = s.val ∧ s.own W (w.heap.size + 2) 47 21 encStage ∧ (∀ y ∈ s.l, StageO W (w.heap.size + 2) y) ∧ EachR StageR.eqv tl s.l) (fun W W' v r h hg hl => ?_) (fun W hW hsz => ?_)
  (fun W v => W.ownsRow (w.heap.size + 2) 94 4 v ln (cellsK encEntry ll)) (fun W W' v r h hg hl => own_kept h hg hl) (fun W hW hsz => ?_)).mono ?_
 ·obtain ⟨s, h1, h2, h3, h4⟩ := h
  exact ⟨s, h1, h2.kept hg hl, fun y hy => (h3 y hy).kept hg hl, h4⟩
 ·refine (eachSet_any _ keptSet SetR.eqv sl sn hs1 s1 s3 W B (by have := hW.size; omega) (hs.2.2.below (hW.mono hB)) (by have := hz.sets; simp only at this; omega) (fun x hx W2 hW2 => ?_)).mono ?_
  ·have hb2 : Below B w W2 := (hW.mono hB).trans (hW2.mono (by have := hW.size; omega))
   have := hr.eachS x hx
   exact copySetR_any x W2 B (by have := hW.size; have := hW2.size; omega) ⟨this.body.below hb2, this.snaps.below hb2, fun y hy => ⟨(this.each y hy).body.below hb2, (this.each y hy).tags.below hb2, (this.each y hy).own.below hb2⟩, this.own.below hb2⟩ (hz.eachS x hx)
  ·rintro e w' ⟨s, rfl, h1, h2, h3, h4⟩
   exact ⟨s.A, s.n, s.c, rfl, ⟨s, rfl, h1.mono hsz, fun y hy => (h2 y hy).mono hsz, h3⟩, h4⟩
 ·refine (cloneG_any _ gn g1 g3 W B (hg.2.2.below (hW.mono hB)) (by have := hW.size; omega) (cells_one encG_one _) (by have := hz.grants; simp only at this; omega)).mono ?_
  rintro e w' ⟨v, rfl, h1, h2⟩
  obtain ⟨A, c, rfl, _⟩ := own_form h1
  exact ⟨A, gn, c, rfl, own_mono h1 hsz, h2⟩
 ·obtain ⟨s, h1, h2, h3, h4⟩ := h
  exact ⟨s, h1, h2.kept hg hl, fun y hy => (h3 y hy).kept hg hl, h4⟩
 ·refine (eachStage_any _ keptStage StageR.eqv tl tn ht1 t1 t3 W B (by have := hW.size; omega) (ht.2.2.below (hW.mono hB)) (by have := hz.stages; simp only at this; omega) (fun x hx W2 hW2 => ?_)).mono ?_
  ·have hb2 : Below B w W2 := (hW.mono hB).trans (hW2.mono (by have := hW.size; omega))
   have := hr.eachG x hx
   exact copyStageR_any x W2 B (by have := hW.size; have := hW2.size; omega) ⟨this.own.below hb2, this.body.below hb2⟩ (hz.eachT x hx)
  ·rintro e w' ⟨s, rfl, h1, h2, h3, h4⟩
   exact ⟨s.A, s.n, s.c, rfl, ⟨s, rfl, h1.mono hsz, fun y hy => (h2 y hy).mono hsz, h3⟩, h4⟩
 ·refine (cloneEn_any _ ln l1 l3 W B (hl.2.2.below (hW.mono hB)) (by have := hW.size; omega) (cells_one encE_one _) (by have := hz.log; simp only at this; omega)).mono ?_
  rintro e w' ⟨v, rfl, h1, h2⟩
  obtain ⟨A, c, rfl, _⟩ := own_form h1
  exact ⟨A, ln, c, rfl, own_mono h1 hsz, h2⟩
 ·rintro e w' ⟨Az, nz, cz, Ag, ng, cg, At, nt, ct, Al, nl, cl, rfl, ⟨s, h3, h4, h5, h6⟩, h1, ⟨q, k3, k4, k5, k6⟩, h2, h7⟩
  obtain ⟨_, _, e1, _⟩ := own_form h1
  injection e1 with _ e1 _
  obtain ⟨_, _, e2, _⟩ := own_form h2
  injection e2 with _ e2 _
  subst e1 e2
  obtain ⟨A', n', c', l'⟩ := s
  injection h3 with e3 e4 e5
  subst e3 e4 e5
  obtain ⟨A', n', c', q'⟩ := q
  injection k3 with e3 e4 e5
  subst e3 e4 e5
  exact ⟨⟨nm, qu, nx, ⟨Az, nz, cz, l'⟩, ⟨Ag, ng, cg, gl⟩, ⟨At, nt, ct, q'⟩, ⟨Al, nl, cl, ll⟩⟩, rfl, ⟨h4.mono (by omega), fun y hy => (h5 y hy).mono (by omega), ⟨hg1, own_mono h1 (by omega)⟩, k4.mono (by omega), fun y hy => (k5 y hy).mono (by omega), ⟨hl1, own_mono h2 (by omega)⟩⟩, ⟨rfl, rfl, rfl, h6.1, h6.2, rfl, k6.1, k6.2, rfl⟩, h7⟩
end Go.Proofs.YteafdncnnamakaaGreatDoor

/-
 A tenant of one's own of which one field of one set is stored.
-/
namespace Go.Proofs.YteafdncnnamakaaGreatDoor
open Go.RowKit

/-- the tenant with another set at a place -/
def TenR.putS (t : TenR) (i : Nat) (x : SetR) : TenR := ⟨t.nm, t.quota, t.next, ⟨t.sets.A, t.sets.n, t.sets.c, t.sets.l.set i x⟩, t.grants, t.stages, t.log⟩
def TenC.putS (t : TenC) (i : Nat) (x : SetC) : TenC := ⟨t.nm, t.quota, t.next, t.sets.set i x, t.grants, t.stages, t.log⟩
theorem TenR.con_putS (t : TenR) (i : Nat) (x : SetR) : (t.putS i x).con = t.con.putS i x.con := by
 simp only [TenR.con, TenR.putS, TenC.putS, List.map_set]
theorem TenR.val_putS (t : TenR) (i : Nat) (x : SetR) : (t.putS i x).val = t.val := rfl
section
variable {w w' : World} {base g : Nat} {cs : Array Value}
theorem SnapO.keptS {x : SnapR} (h : SnapO w base x) (hg : w.grownBy w' (some g)) (hb : Blk w g 63 cs) : SnapO w' base x :=
 ⟨h.body.keptT hg hb (by decide), h.tags.keptT hg hb (by decide), h.own.keptT hg hb (by decide)⟩
theorem SetO.keptS {x : SetR} (h : SetO w base x) (hg : w.grownBy w' (some g)) (hb : Blk w g 63 cs) : SetO w' base x :=
 ⟨h.body.keptT hg hb (by decide), h.snaps.keptT hg hb (by decide), fun y hy => (h.each y hy).keptS hg hb, h.own.keptT hg hb (by decide)⟩
theorem StageO.keptS {x : StageR} (h : StageO w base x) (hg : w.grownBy w' (some g)) (hb : Blk w g 63 cs) : StageO w' base x :=
 ⟨h.own.keptT hg hb (by decide), h.body.keptT hg hb (by decide)⟩
/-- a pointer into the row of sets: one field of one set stored, by what is of one's own too -/
theorem TenO.setF {t : TenR} (h : TenO w base t) (i j : Nat) (hi : i < t.sets.l.length) (hj : j < 5) (x' : SetR) (u : Value) (he : ∀ x, t.sets.l[i]? = some x → encSet x' = (encSet x).set j u) (hx : SetO w base x') :
  ∃ g, t.sets.A = some ⟨g, 0, none⟩ ∧ base ≤ g ∧ TenO (w.setCell ⟨g, i * 5 + j, none⟩ u) base (t.putS i x') ∧ w.grownBy (w.setCell ⟨g, i * 5 + j, none⟩ u) (some g) := by
 obtain ⟨g, cs, hA, hbg, hbk⟩ := h.sets.blk (by have := h.sets.1; omega)
 obtain ⟨h1, h2⟩ := h.sets.field (fun _ => rfl) hA i j hj x' u he
 refine ⟨g, hA, hbg, ⟨h1, ?_, h.grants.keptT h2 hbk (by decide), h.stages.keptT h2 hbk (by decide), fun y hy => (h.eachG y hy).keptS h2 hbk, h.log.keptT h2 hbk (by decide)⟩, h2⟩
 intro y hy
 rcases List.mem_or_eq_of_mem_set hy with hy | rfl
 ·exact (h.eachS y hy).keptS h2 hbk
 ·exact hx.keptS h2 hbk
/-- a tenant whose row of sets is another one of one's own, when only that row's block was changed -/
theorem TenO.setsO {t : TenR} (h : TenO w base t) (s' : FS SetR) (hg : w.grownBy w' t.sets.val.ownBlock) (hs : s'.own w' base 63 5 encSet) (hm : ∀ y ∈ s'.l, SetO w' base y) :
  TenO w' base ⟨t.nm, t.quota, t.next, s', t.grants, t.stages, t.log⟩ := by
 have hk : ∀ {T : TypeId} {k n : Nat} {v : Value} {xs : List Value}, T ≠ 63 → w.ownsRow base T k v n xs → w'.ownsRow base T k v n xs := by
  intro T k n v xs hT hr
  cases he : t.sets.val.ownBlock with
  | none => rw [he] at hg; exact hr.kept hg (by cases v.ownBlock <;> simp)
  | some g =>
   rw [he] at hg
   refine hr.kept hg (.inr ?_)
   rcases h.sets.2.2 with ⟨e, _⟩ | ⟨g', cap, cur, e, _, hh, _⟩
   ·rw [e] at he; simp [Value.ownBlock] at he
   ·rw [e] at he
    have he : g' = g := by simpa [Value.ownBlock] using he
    subst he
    exact own_blk_ne hr (show Blk w g' 63 cur from hh) hT
 exact ⟨hs, hm, ⟨h.grants.1, hk (by decide) h.grants.2⟩, ⟨h.stages.1, hk (by decide) h.stages.2⟩, fun y hy => ⟨⟨(h.eachG y hy).own.1, hk (by decide) (h.eachG y hy).own.2⟩, ⟨(h.eachG y hy).body.1, hk (by decide) (h.eachG y hy).body.2⟩⟩, ⟨h.log.1, hk (by decide) h.log.2⟩⟩
end
end Go.Proofs.YteafdncnnamakaaGreatDoor
