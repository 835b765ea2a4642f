/-
  A slice literal of one wide struct: all its cells at once.
  tree.each at snapshots, sets and stages, over any contract of what copies one.
  tree.Copy: a copy is of one content with the tenant, in memory of its own.
-/
import Derived.Test.YtbppdlhbjddhjaaGreatDoorWide
import Derived.Test.YtbppdlhbjddhjaaGreatDoorCells
import Derived.Great.BuildSlice
import Derived.Test.YtbppdlhbjddhjaaGreatDoorYSame
import Derived.Test.YtbppdlhbjddhjaaGreatDoorYCl
import Derived.Test.YtbppdlhbjddhjaaGreatDoorYBox
namespace Go.Proofs.YtbppdlhbjddhjaaGreatDoor
open Go.RowKit

theorem fill_one (zs : Array Value) (cs : List Value) (hz : zs.size = cs.length) (hp : 0 < cs.length) : Instr.fill (fun i => some (i * cs.length, cs.length)) zs [(0, .agg cs.toArray)] = some cs.toArray := by
  have := Great.fill_whole (s := cs.length) hp [.agg cs.toArray] zs (fun v hv => by rw [List.mem_singleton.1 hv]; simp [Value.cells]) (by simp [hz])
  simpa [Value.cells] using this
theorem wpList_build_one {P : Program} {ops : Array Oper} {rest : List Oper} {op : Oper} {a : Act} {w : World} {Q : Exit → Act → World → Prop} (hgd : op.guard = none) (t e : TypeId) (x : Operand) (ho : op.op = .buildSlice t 1 #[(0, x)])
    (cs : List Value) (hx : a.eval x = .agg cs.toArray) (ie : TypeInfo) (z : Value) (hu : P.underlying t = some (.slice e)) (hie : P.info? e = some ie) (hz : ie.zero = some z) (hs : ie.size = cs.length) (hp : 0 < cs.length) (hl : cs.length ≤ 16777216)
    (h : wpList P ops Q rest (a.put op.dst (.slice (some ⟨w.heap.size, 0, none⟩) 1 1)) (w.alloc (.cells cs.toArray e))) : wpList P ops Q (op :: rest) a w := by
  refine wpList_buildSlice hgd t e 1 #[(0, x)] ho cs.toArray ie z hu hie hz (by rw [hs]; omega) (by rw [hs]; omega) ?_ h
  rw [hs]
  have : ((#[(0, x)] : Array (Nat × Operand)).map fun (i, x) => (i, a.eval x)).toList = [(0, .agg cs.toArray)] := by simp [hx]
  rw [this]
  exact fill_one _ cs (by simp) hp
/-- an element's cells, all at once -/
theorem Reads.elAll {α : Type} {enc : α → List Value} {k : Nat} (hk : ∀ x, (enc x).length = k) {w : World} {B n : Nat} {A : Option Addr} {l : List α} (h : Reads w B k A n (cellsK enc l)) (hn : n = l.length) {i : Nat} (hi : i < n) :
    ∃ ad, A = some ad ∧ ad.block < B ∧ ∀ j v, (enc (l[i]'(by omega)))[j]? = some v → w.cell? ((ad.add (i * k)).add j) = some v := by
  obtain ⟨ad, e, hb, hc⟩ := h.elK hk hn hi
  refine ⟨ad, e, hb, fun j v hv => ?_⟩
  have hj : j < k := by
    rcases Nat.lt_or_ge j k with h | h
    · exact h
    · rw [List.getElem?_eq_none (by rw [hk]; exact h)] at hv; cases hv
  rw [hc j hj, hv]
end Go.Proofs.YtbppdlhbjddhjaaGreatDoor
namespace Go.Proofs.YtbppdlhbjddhjaaGreatDoor
open Go.RowKit

/-- what a copy is: it stands under all that is done elsewhere -/
structure Kept {α : Type} (O : Nat → World → α → Prop) : Prop where
  below : ∀ b w w' y, O b w y → Below w.heap.size w w' → O b w' y
  kept : ∀ b w w' y g, O b w y → w.grownBy w' (some g) → g < b → O b w' y
  mono : ∀ b b' w y, O b w y → b' ≤ b → O b' w y
theorem Tryz.eachSnap_info : (Tryz.prog.info? 66).map (fun i => (i.zero, i.size, i.bytes)) = some (some (.agg #[.string ByteArray.empty, .int .i64 0, .slice none 0 0, .slice none 0 0, .slice none 0 0]), 5, 96) := by kernel_rfl
set_option maxRecDepth 100000 in
set_option maxHeartbeats 2000000 in
theorem eachSnap_any (O : Nat → World → SnapR → Prop) (hO : Kept O) (r : SnapR → SnapR → Prop) (l : List SnapR) (n : Nat) (hnl : n = l.length) (A : Option Addr) (c : Nat) (w : World) (B : Nat) (hB : B ≤ w.heap.size) (hr : Reads w B 5 A n (cellsK encSnap l)) (hn : n ≤ 1000000000000)
    (hC : ∀ x ∈ l, ∀ W, Below w.heap.size w W → Calls Tryz.prog 89 #[.agg (encSnap x).toArray] W fun e w' => ∃ y, e = .returned (.agg (encSnap y).toArray) ∧ O W.heap.size w' y ∧ r x y ∧ Below W.heap.size W w') :
    Calls Tryz.prog 88 #[.slice A n c, .func (.func 89) #[] #[]] w fun e w' => ∃ s : FS SnapR, e = .returned s.val ∧ s.own w' w.heap.size 66 5 encSnap ∧ (∀ y ∈ s.l, O w.heap.size w' y) ∧ EachR r l s.l ∧ Below w.heap.size w w' := by
  obtain ⟨i0, hi0, hz0, hz1, hz2⟩ := info_parts Tryz.eachSnap_info
  have HN := Lib.hid hnl
  have HC := Lib.hid hC
  have HR := Lib.hid hr
  obtain ⟨g, hg⟩ : ∃ g, g = w.heap.size := ⟨_, rfl⟩
  have HGG := Lib.hid hg
  clear hnl hC hr
  go_enter Tryz.func88, Tryz.ntmps88
  go_wp2_with (refine wpList_make_own w rfl (.const (.int .i64 0)) (.tmp 9) 59 rfl w.heap.size 66 i0 _ 5 Tryz.underlying59 hi0 hz0 hz1 .i64 .i64 (n : Int) n rfl rfl rfl (by rw [hz2]; omega) (by unfold maxLen; omega) (Nat.le_refl _) ?_; intro w1 hown1 hg1; have HO1 := Lib.hid hown1; have HB1 := Lib.hid (show Below w.heap.size w w1 from ⟨hg1.os, hg1.tape, hg1.output, hg1.size, fun k hk => hg1.block k hk (by simp)⟩); clear hown1 hg1)
  rw [← hg] at HO1 HB1 ⊢
  clear hg
  go_loopw [5, 13] (fun o j wr => ∃ (k : Nat) (ys : List SnapR), k ≤ n ∧ j = .int .i64 (k : Int) ∧ o = .slice (some ⟨g, 0, none⟩) k n ∧ Hid (ys.length = k) ∧ Hid (wr.ownsRow g 66 5 (.slice (some ⟨g, 0, none⟩) k n) k (cellsK encSnap ys)) ∧ Hid (∀ y ∈ ys, O (g + 1) wr y) ∧ Hid (EachR r (l.take k) ys) ∧ Hid (Below g w wr)) (fun _ j _ => n - (intOf j).toNat)
  case atStart => exact ⟨0, [], Nat.zero_le _, rfl, rfl, rfl, HO1.out, fun y hy => absurd hy (by simp), by rw [List.take_zero]; exact EachR.nil, HB1.out⟩
  case round =>
    clear HO1 HB1
    obtain ⟨k, ys, hk, rfl, rfl, HY, HOW, HE, HEQ, HB⟩ := hrel
    by_cases hlt : k < n
    · obtain ⟨ad, rfl, hadB, hel⟩ := Reads.elAll (enc := encSnap) (k := 5) (fun _ => rfl) (HR.out.below (HB.out.mono (by have := HGG.out; omega))) HN.out hlt
      have hkl : k < l.length := by have := HN.out; omega
      have hcx := HC.out _ (List.getElem_mem hkl)
      have HTK := Lib.hid (show l.take (k + 1) = l.take k ++ [l[k]'hkl] from by rw [List.take_add_one, List.getElem?_eq_getElem hkl]; rfl)
      have hki : (k : Int) < (n : Int) := by omega
      obtain ⟨x, hx⟩ : ∃ x, x = l[k]'hkl := ⟨_, rfl⟩
      rw [← hx] at hel hcx HTK
      obtain ⟨cs, hcs⟩ : ∃ cs, cs = encSnap x := ⟨_, rfl⟩
      have hcl : cs.length = 5 := by rw [hcs]; rfl
      have hc1 : ∀ u ∈ cs, u.oneCell' = true := by rw [hcs]; intro u hu; simp [encSnap] at hu; rcases hu with rfl | rfl | rfl | rfl | rfl <;> rfl
      rw [← hcs] at hel hcx
      have HEL := Lib.hid hel
      have hSB : Below w.heap.size w (wr.alloc (.cells cs.toArray 66)) := by rw [← HGG.out]; exact HB.out.alloc (by have := HB.out.size; have := HGG.out; omega) _
      have hcx := hcx _ hSB
      have hOW2 := own_below HOW.out ((Below.refl wr.heap.size wr).alloc (Nat.le_refl _) (.cells cs.toArray 66))
      have HL7 : Hid (∀ j v, cs[j]? = some v → (wr.alloc (.cells cs.toArray 66)).cell? ((⟨wr.heap.size, 0, none⟩ : Addr).add j) = some v) := by
        show ∀ j v, _ → _
        intro j v hv
        have := (Blk.new wr 66 cs.toArray).cell j
        rw [List.getElem?_toArray, hv] at this
        rw [addr_add0]
        exact this
      clear hel hadB HR HC hcs hx
      go_wp2_with (first | (refine wpList_load_at rfl 66 (.tmp 15) rfl (ad.add (k * 5)) rfl cs _ HEL.out Tryz.underlying66 rfl (by rw [hcl]; kernel_rfl) ?_) | (refine wpList_store_new wr rfl 66 (.tmp 7) (.tmp 16) rfl 66 _ cs rfl rfl (by rw [hcl]; rfl) (by rw [hcl]; kernel_rfl) hc1 ?_) | (refine wpList_load_at rfl 66 (.tmp 7) rfl ⟨wr.heap.size, 0, none⟩ rfl cs _ HL7.out Tryz.underlying66 rfl (by rw [hcl]; kernel_rfl) ?_))
      clear HEL
      refine hcx.mono ?_
      clear hcx
      rintro e w2 ⟨y, rfl, hoy, hry, hby⟩
      obtain ⟨ds, hds⟩ : ∃ ds, ds = encSnap y := ⟨_, rfl⟩
      have hdl : ds.length = 5 := by rw [hds]; rfl
      have hd1 : ∀ u ∈ ds, u.oneCell' = true := by rw [hds]; intro u hu; simp [encSnap] at hu; rcases hu with rfl | rfl | rfl | rfl | rfl <;> rfl
      rw [← hds]
      have hgs : g < wr.heap.size := (HOW.out.lt g rfl).2
      have hba : Below wr.heap.size wr (w2.alloc (.cells ds.toArray 66)) := ((((Below.refl wr.heap.size wr).alloc (Nat.le_refl _) (.cells cs.toArray 66)).trans (hby.mono (by simp))).alloc (by have := hby.size; simp at this; omega) _)
      have HOW3 := Lib.hid (own_below HOW.out hba)
      have HB3 := Lib.hid (HB.out.trans (hba.mono (by omega)))
      have HE3 : Hid (∀ z ∈ ys ++ [y], O (g + 1) (w2.alloc (.cells ds.toArray 66)) z) := by
        show ∀ z ∈ _, _
        intro z hz
        rcases List.mem_append.1 hz with hz | hz
        · exact hO.below _ _ _ _ (HE.out z hz) hba
        · rw [List.mem_singleton.1 hz]
          exact hO.below _ _ _ _ (hO.mono _ _ _ _ hoy (by simp; omega)) ((Below.refl w2.heap.size w2).alloc (Nat.le_refl _) _)
      have HEQ3 : Hid (EachR r (l.take (k + 1)) (ys ++ [y])) := by show EachR _ _ _; rw [HTK.out]; exact HEQ.out.snoc hry
      have HY3 := Lib.hid (show (ys ++ [y]).length = k + 1 by rw [List.length_append, HY.out]; rfl)
      have hcell : ∀ (j : Nat) (u : Value), ds[j]? = some u → (w2.alloc (.cells ds.toArray 66)).cell? ((⟨w2.heap.size, 0, none⟩ : Addr).add j) = some u := fun j u hu => by
        have := (Blk.new w2 66 ds.toArray).cell j
        rw [List.getElem?_toArray, hu] at this
        rw [addr_add0]
        exact this
      have HSZ3 := Lib.hid (show g ≤ (w2.alloc (.cells ds.toArray 66)).heap.size by have := hba.size; omega)
      have hds' := Lib.hid hds
      clear hba hoy hry hby HOW HE HEQ HY HB HTK hds
      have hi1 : i0.size = ds.length := by rw [hdl]; exact hz1
      obtain ⟨W3, hW3⟩ : ∃ W, W = w2.alloc (.cells ds.toArray 66) := ⟨_, rfl⟩
      rw [← hW3] at HOW3 HB3 HE3 hcell HSZ3
      go_wp2_with (first | (refine wpList_build_one rfl 59 66 (.tmp 20) rfl ds rfl i0 _ Tryz.underlying59 hi0 hz0 hi1 (by omega) (by omega) ?_; rw [← hW3]; clear hW3) | (at_builtin; refine wpList_append_fits _ rfl (.tmp 17) (.tmp 21) 59 rfl g 66 i0 5 Tryz.underlying59 hi0 hz1 g k n _ rfl HOW3.out ⟨w2.heap.size, 0, none⟩ 1 1 ds rfl (by omega) hcell hd1 (by omega) ?_; intro w4 hown4 hg4; have HO4 := Lib.hid hown4; have HG4 := Lib.hid hg4; clear hown4 hg4))
      go_roundw
      case rel =>
        refine ⟨k + 1, ys ++ [y], by omega, by go_num, rfl, HY3.out, ?_, fun z hz => hO.kept _ _ _ _ _ (HE3.out z hz) HG4.out (by omega), HEQ3.out, HB3.out.grown HG4.out HSZ3.out (fun q hq => by simp at hq; omega)⟩
        show World.ownsRow _ _ _ _ _ _ _
        rw [cellsK_append, cellsK_one, ← hds'.out]
        exact HO4.out
      case measure => simp [intOf]; omega
    · have hki : ¬ (k : Int) < (n : Int) := by omega
      obtain rfl : k = n := by omega
      go_wp2_with fail
      go_ret
      obtain rfl := HGG.out
      refine ⟨⟨some ⟨w.heap.size, 0, none⟩, k, k, ys⟩, rfl, ⟨HY.out.symm, HOW.out⟩, fun y hy => hO.mono _ _ _ _ (HE.out y hy) (by omega), ?_, HB.out⟩
      have := HEQ.out
      rw [HN.out, List.take_length] at this
      exact this
theorem Tryz.eachSet_info : (Tryz.prog.info? 61).map (fun i => (i.zero, i.size, i.bytes)) = some (some (.agg #[.string ByteArray.empty, .string ByteArray.empty, .slice none 0 0, .slice none 0 0, .slice none 0 0]), 5, 104) := by kernel_rfl
set_option maxRecDepth 100000 in
set_option maxHeartbeats 2000000 in
theorem eachSet_any (O : Nat → World → SetR → Prop) (hO : Kept O) (r : SetR → SetR → Prop) (l : List SetR) (n : Nat) (hnl : n = l.length) (A : Option Addr) (c : Nat) (w : World) (B : Nat) (hB : B ≤ w.heap.size) (hr : Reads w B 5 A n (cellsK encSet l)) (hn : n ≤ 1000000000000)
    (hC : ∀ x ∈ l, ∀ W, Below w.heap.size w W → Calls Tryz.prog 34 #[.agg (encSet x).toArray] W fun e w' => ∃ y, e = .returned (.agg (encSet y).toArray) ∧ O W.heap.size w' y ∧ r x y ∧ Below W.heap.size W w') :
    Calls Tryz.prog 33 #[.slice A n c, .func (.func 34) #[] #[]] w fun e w' => ∃ s : FS SetR, e = .returned s.val ∧ s.own w' w.heap.size 61 5 encSet ∧ (∀ y ∈ s.l, O w.heap.size w' y) ∧ EachR r l s.l ∧ Below w.heap.size w w' := by
  obtain ⟨i0, hi0, hz0, hz1, hz2⟩ := info_parts Tryz.eachSet_info
  have HN := Lib.hid hnl
  have HC := Lib.hid hC
  have HR := Lib.hid hr
  obtain ⟨g, hg⟩ : ∃ g, g = w.heap.size := ⟨_, rfl⟩
  have HGG := Lib.hid hg
  clear hnl hC hr
  go_enter Tryz.func33, Tryz.ntmps33
  go_wp2_with (refine wpList_make_own w rfl (.const (.int .i64 0)) (.tmp 9) 22 rfl w.heap.size 61 i0 _ 5 Tryz.underlying22 hi0 hz0 hz1 .i64 .i64 (n : Int) n rfl rfl rfl (by rw [hz2]; omega) (by unfold maxLen; omega) (Nat.le_refl _) ?_; intro w1 hown1 hg1; have HO1 := Lib.hid hown1; have HB1 := Lib.hid (show Below w.heap.size w w1 from ⟨hg1.os, hg1.tape, hg1.output, hg1.size, fun k hk => hg1.block k hk (by simp)⟩); clear hown1 hg1)
  rw [← hg] at HO1 HB1 ⊢
  clear hg
  go_loopw [5, 13] (fun o j wr => ∃ (k : Nat) (ys : List SetR), k ≤ n ∧ j = .int .i64 (k : Int) ∧ o = .slice (some ⟨g, 0, none⟩) k n ∧ Hid (ys.length = k) ∧ Hid (wr.ownsRow g 61 5 (.slice (some ⟨g, 0, none⟩) k n) k (cellsK encSet ys)) ∧ Hid (∀ y ∈ ys, O (g + 1) wr y) ∧ Hid (EachR r (l.take k) ys) ∧ Hid (Below g w wr)) (fun _ j _ => n - (intOf j).toNat)
  case atStart => exact ⟨0, [], Nat.zero_le _, rfl, rfl, rfl, HO1.out, fun y hy => absurd hy (by simp), by rw [List.take_zero]; exact EachR.nil, HB1.out⟩
  case round =>
    clear HO1 HB1
    obtain ⟨k, ys, hk, rfl, rfl, HY, HOW, HE, HEQ, HB⟩ := hrel
    by_cases hlt : k < n
    · obtain ⟨ad, rfl, hadB, hel⟩ := Reads.elAll (enc := encSet) (k := 5) (fun _ => rfl) (HR.out.below (HB.out.mono (by have := HGG.out; omega))) HN.out hlt
      have hkl : k < l.length := by have := HN.out; omega
      have hcx := HC.out _ (List.getElem_mem hkl)
      have HTK := Lib.hid (show l.take (k + 1) = l.take k ++ [l[k]'hkl] from by rw [List.take_add_one, List.getElem?_eq_getElem hkl]; rfl)
      have hki : (k : Int) < (n : Int) := by omega
      obtain ⟨x, hx⟩ : ∃ x, x = l[k]'hkl := ⟨_, rfl⟩
      rw [← hx] at hel hcx HTK
      obtain ⟨cs, hcs⟩ : ∃ cs, cs = encSet x := ⟨_, rfl⟩
      have hcl : cs.length = 5 := by rw [hcs]; rfl
      have hc1 : ∀ u ∈ cs, u.oneCell' = true := by rw [hcs]; intro u hu; simp [encSet] at hu; rcases hu with rfl | rfl | rfl | rfl | rfl <;> rfl
      rw [← hcs] at hel hcx
      have HEL := Lib.hid hel
      have hSB : Below w.heap.size w (wr.alloc (.cells cs.toArray 61)) := by rw [← HGG.out]; exact HB.out.alloc (by have := HB.out.size; have := HGG.out; omega) _
      have hcx := hcx _ hSB
      have hOW2 := own_below HOW.out ((Below.refl wr.heap.size wr).alloc (Nat.le_refl _) (.cells cs.toArray 61))
      have HL7 : Hid (∀ j v, cs[j]? = some v → (wr.alloc (.cells cs.toArray 61)).cell? ((⟨wr.heap.size, 0, none⟩ : Addr).add j) = some v) := by
        show ∀ j v, _ → _
        intro j v hv
        have := (Blk.new wr 61 cs.toArray).cell j
        rw [List.getElem?_toArray, hv] at this
        rw [addr_add0]
        exact this
      clear hel hadB HR HC hcs hx
      go_wp2_with (first | (refine wpList_load_at rfl 61 (.tmp 15) rfl (ad.add (k * 5)) rfl cs _ HEL.out Tryz.underlying61 rfl (by rw [hcl]; kernel_rfl) ?_) | (refine wpList_store_new wr rfl 61 (.tmp 7) (.tmp 16) rfl 61 _ cs rfl rfl (by rw [hcl]; rfl) (by rw [hcl]; kernel_rfl) hc1 ?_) | (refine wpList_load_at rfl 61 (.tmp 7) rfl ⟨wr.heap.size, 0, none⟩ rfl cs _ HL7.out Tryz.underlying61 rfl (by rw [hcl]; kernel_rfl) ?_))
      clear HEL
      refine hcx.mono ?_
      clear hcx
      rintro e w2 ⟨y, rfl, hoy, hry, hby⟩
      obtain ⟨ds, hds⟩ : ∃ ds, ds = encSet y := ⟨_, rfl⟩
      have hdl : ds.length = 5 := by rw [hds]; rfl
      have hd1 : ∀ u ∈ ds, u.oneCell' = true := by rw [hds]; intro u hu; simp [encSet] at hu; rcases hu with rfl | rfl | rfl | rfl | rfl <;> rfl
      rw [← hds]
      have hgs : g < wr.heap.size := (HOW.out.lt g rfl).2
      have hba : Below wr.heap.size wr (w2.alloc (.cells ds.toArray 61)) := ((((Below.refl wr.heap.size wr).alloc (Nat.le_refl _) (.cells cs.toArray 61)).trans (hby.mono (by simp))).alloc (by have := hby.size; simp at this; omega) _)
      have HOW3 := Lib.hid (own_below HOW.out hba)
      have HB3 := Lib.hid (HB.out.trans (hba.mono (by omega)))
      have HE3 : Hid (∀ z ∈ ys ++ [y], O (g + 1) (w2.alloc (.cells ds.toArray 61)) z) := by
        show ∀ z ∈ _, _
        intro z hz
        rcases List.mem_append.1 hz with hz | hz
        · exact hO.below _ _ _ _ (HE.out z hz) hba
        · rw [List.mem_singleton.1 hz]
          exact hO.below _ _ _ _ (hO.mono _ _ _ _ hoy (by simp; omega)) ((Below.refl w2.heap.size w2).alloc (Nat.le_refl _) _)
      have HEQ3 : Hid (EachR r (l.take (k + 1)) (ys ++ [y])) := by show EachR _ _ _; rw [HTK.out]; exact HEQ.out.snoc hry
      have HY3 := Lib.hid (show (ys ++ [y]).length = k + 1 by rw [List.length_append, HY.out]; rfl)
      have hcell : ∀ (j : Nat) (u : Value), ds[j]? = some u → (w2.alloc (.cells ds.toArray 61)).cell? ((⟨w2.heap.size, 0, none⟩ : Addr).add j) = some u := fun j u hu => by
        have := (Blk.new w2 61 ds.toArray).cell j
        rw [List.getElem?_toArray, hu] at this
        rw [addr_add0]
        exact this
      have HSZ3 := Lib.hid (show g ≤ (w2.alloc (.cells ds.toArray 61)).heap.size by have := hba.size; omega)
      have hds' := Lib.hid hds
      clear hba hoy hry hby HOW HE HEQ HY HB HTK hds
      have hi1 : i0.size = ds.length := by rw [hdl]; exact hz1
      obtain ⟨W3, hW3⟩ : ∃ W, W = w2.alloc (.cells ds.toArray 61) := ⟨_, rfl⟩
      rw [← hW3] at HOW3 HB3 HE3 hcell HSZ3
      go_wp2_with (first | (refine wpList_build_one rfl 22 61 (.tmp 20) rfl ds rfl i0 _ Tryz.underlying22 hi0 hz0 hi1 (by omega) (by omega) ?_; rw [← hW3]; clear hW3) | (at_builtin; refine wpList_append_fits _ rfl (.tmp 17) (.tmp 21) 22 rfl g 61 i0 5 Tryz.underlying22 hi0 hz1 g k n _ rfl HOW3.out ⟨w2.heap.size, 0, none⟩ 1 1 ds rfl (by omega) hcell hd1 (by omega) ?_; intro w4 hown4 hg4; have HO4 := Lib.hid hown4; have HG4 := Lib.hid hg4; clear hown4 hg4))
      go_roundw
      case rel =>
        refine ⟨k + 1, ys ++ [y], by omega, by go_num, rfl, HY3.out, ?_, fun z hz => hO.kept _ _ _ _ _ (HE3.out z hz) HG4.out (by omega), HEQ3.out, HB3.out.grown HG4.out HSZ3.out (fun q hq => by simp at hq; omega)⟩
        show World.ownsRow _ _ _ _ _ _ _
        rw [cellsK_append, cellsK_one, ← hds'.out]
        exact HO4.out
      case measure => simp [intOf]; omega
    · have hki : ¬ (k : Int) < (n : Int) := by omega
      obtain rfl : k = n := by omega
      go_wp2_with fail
      go_ret
      obtain rfl := HGG.out
      refine ⟨⟨some ⟨w.heap.size, 0, none⟩, k, k, ys⟩, rfl, ⟨HY.out.symm, HOW.out⟩, fun y hy => hO.mono _ _ _ _ (HE.out y hy) (by omega), ?_, HB.out⟩
      have := HEQ.out
      rw [HN.out, List.take_length] at this
      exact this
theorem Tryz.eachStage_info : (Tryz.prog.info? 73).map (fun i => (i.zero, i.size, i.bytes)) = some (some (.agg #[.string ByteArray.empty, .int .i64 0, .string ByteArray.empty, .int .i64 0, .int .i64 0, .slice none 0 0, .int .i64 0, .int .i64 0, .string ByteArray.empty, .int .u64 0, .int .u64 0, .int .u64 0, .int .u64 0, .slice none 0 0, .int .i64 0, .int .i64 0, .int .u64 0, .int .u64 0, .int .u64 0, .int .u64 0, .bool false]), 21, 224) := by kernel_rfl
set_option maxRecDepth 100000 in
set_option maxHeartbeats 2000000 in
theorem eachStage_any (O : Nat → World → StageR → Prop) (hO : Kept O) (r : StageR → StageR → Prop) (l : List StageR) (n : Nat) (hnl : n = l.length) (A : Option Addr) (c : Nat) (w : World) (B : Nat) (hB : B ≤ w.heap.size) (hr : Reads w B 21 A n (cellsK encStage l)) (hn : n ≤ 1000000000000)
    (hC : ∀ x ∈ l, ∀ W, Below w.heap.size w W → Calls Tryz.prog 37 #[.agg (encStage x).toArray] W fun e w' => ∃ y, e = .returned (.agg (encStage y).toArray) ∧ O W.heap.size w' y ∧ r x y ∧ Below W.heap.size W w') :
    Calls Tryz.prog 36 #[.slice A n c, .func (.func 37) #[] #[]] w fun e w' => ∃ s : FS StageR, e = .returned s.val ∧ s.own w' w.heap.size 73 21 encStage ∧ (∀ y ∈ s.l, O w.heap.size w' y) ∧ EachR r l s.l ∧ Below w.heap.size w w' := by
  obtain ⟨i0, hi0, hz0, hz1, hz2⟩ := info_parts Tryz.eachStage_info
  have HN := Lib.hid hnl
  have HC := Lib.hid hC
  have HR := Lib.hid hr
  obtain ⟨g, hg⟩ : ∃ g, g = w.heap.size := ⟨_, rfl⟩
  have HGG := Lib.hid hg
  clear hnl hC hr
  go_enter Tryz.func36, Tryz.ntmps36
  go_wp2_with (refine wpList_make_own w rfl (.const (.int .i64 0)) (.tmp 9) 24 rfl w.heap.size 73 i0 _ 21 Tryz.underlying24 hi0 hz0 hz1 .i64 .i64 (n : Int) n rfl rfl rfl (by rw [hz2]; omega) (by unfold maxLen; omega) (Nat.le_refl _) ?_; intro w1 hown1 hg1; have HO1 := Lib.hid hown1; have HB1 := Lib.hid (show Below w.heap.size w w1 from ⟨hg1.os, hg1.tape, hg1.output, hg1.size, fun k hk => hg1.block k hk (by simp)⟩); clear hown1 hg1)
  rw [← hg] at HO1 HB1 ⊢
  clear hg
  go_loopw [5, 13] (fun o j wr => ∃ (k : Nat) (ys : List StageR), k ≤ n ∧ j = .int .i64 (k : Int) ∧ o = .slice (some ⟨g, 0, none⟩) k n ∧ Hid (ys.length = k) ∧ Hid (wr.ownsRow g 73 21 (.slice (some ⟨g, 0, none⟩) k n) k (cellsK encStage ys)) ∧ Hid (∀ y ∈ ys, O (g + 1) wr y) ∧ Hid (EachR r (l.take k) ys) ∧ Hid (Below g w wr)) (fun _ j _ => n - (intOf j).toNat)
  case atStart => exact ⟨0, [], Nat.zero_le _, rfl, rfl, rfl, HO1.out, fun y hy => absurd hy (by simp), by rw [List.take_zero]; exact EachR.nil, HB1.out⟩
  case round =>
    clear HO1 HB1
    obtain ⟨k, ys, hk, rfl, rfl, HY, HOW, HE, HEQ, HB⟩ := hrel
    by_cases hlt : k < n
    · obtain ⟨ad, rfl, hadB, hel⟩ := Reads.elAll (enc := encStage) (k := 21) (fun _ => rfl) (HR.out.below (HB.out.mono (by have := HGG.out; omega))) HN.out hlt
      have hkl : k < l.length := by have := HN.out; omega
      have hcx := HC.out _ (List.getElem_mem hkl)
      have HTK := Lib.hid (show l.take (k + 1) = l.take k ++ [l[k]'hkl] from by rw [List.take_add_one, List.getElem?_eq_getElem hkl]; rfl)
      have hki : (k : Int) < (n : Int) := by omega
      obtain ⟨x, hx⟩ : ∃ x, x = l[k]'hkl := ⟨_, rfl⟩
      rw [← hx] at hel hcx HTK
      obtain ⟨cs, hcs⟩ : ∃ cs, cs = encStage x := ⟨_, rfl⟩
      have hcl : cs.length = 21 := by rw [hcs]; rfl
      have hc1 : ∀ u ∈ cs, u.oneCell' = true := by rw [hcs]; intro u hu; simp [encStage, smV] at hu; rcases hu with rfl | rfl | rfl | rfl | rfl | rfl | rfl | rfl | rfl | rfl | rfl | rfl | rfl | rfl | rfl | rfl | rfl | rfl | rfl | rfl | rfl <;> rfl
      rw [← hcs] at hel hcx
      have HEL := Lib.hid hel
      have hSB : Below w.heap.size w (wr.alloc (.cells cs.toArray 73)) := by rw [← HGG.out]; exact HB.out.alloc (by have := HB.out.size; have := HGG.out; omega) _
      have hcx := hcx _ hSB
      have hOW2 := own_below HOW.out ((Below.refl wr.heap.size wr).alloc (Nat.le_refl _) (.cells cs.toArray 73))
      have HL7 : Hid (∀ j v, cs[j]? = some v → (wr.alloc (.cells cs.toArray 73)).cell? ((⟨wr.heap.size, 0, none⟩ : Addr).add j) = some v) := by
        show ∀ j v, _ → _
        intro j v hv
        have := (Blk.new wr 73 cs.toArray).cell j
        rw [List.getElem?_toArray, hv] at this
        rw [addr_add0]
        exact this
      clear hel hadB HR HC hcs hx
      go_wp2_with (first | (refine wpList_load_at rfl 73 (.tmp 15) rfl (ad.add (k * 21)) rfl cs _ HEL.out Tryz.underlying73 rfl (by rw [hcl]; kernel_rfl) ?_) | (refine wpList_store_new wr rfl 73 (.tmp 7) (.tmp 16) rfl 73 _ cs rfl rfl (by rw [hcl]; rfl) (by rw [hcl]; kernel_rfl) hc1 ?_) | (refine wpList_load_at rfl 73 (.tmp 7) rfl ⟨wr.heap.size, 0, none⟩ rfl cs _ HL7.out Tryz.underlying73 rfl (by rw [hcl]; kernel_rfl) ?_))
      clear HEL
      refine hcx.mono ?_
      clear hcx
      rintro e w2 ⟨y, rfl, hoy, hry, hby⟩
      obtain ⟨ds, hds⟩ : ∃ ds, ds = encStage y := ⟨_, rfl⟩
      have hdl : ds.length = 21 := by rw [hds]; rfl
      have hd1 : ∀ u ∈ ds, u.oneCell' = true := by rw [hds]; intro u hu; simp [encStage, smV] at hu; rcases hu with rfl | rfl | rfl | rfl | rfl | rfl | rfl | rfl | rfl | rfl | rfl | rfl | rfl | rfl | rfl | rfl | rfl | rfl | rfl | rfl | rfl <;> rfl
      rw [← hds]
      have hgs : g < wr.heap.size := (HOW.out.lt g rfl).2
      have hba : Below wr.heap.size wr (w2.alloc (.cells ds.toArray 73)) := ((((Below.refl wr.heap.size wr).alloc (Nat.le_refl _) (.cells cs.toArray 73)).trans (hby.mono (by simp))).alloc (by have := hby.size; simp at this; omega) _)
      have HOW3 := Lib.hid (own_below HOW.out hba)
      have HB3 := Lib.hid (HB.out.trans (hba.mono (by omega)))
      have HE3 : Hid (∀ z ∈ ys ++ [y], O (g + 1) (w2.alloc (.cells ds.toArray 73)) z) := by
        show ∀ z ∈ _, _
        intro z hz
        rcases List.mem_append.1 hz with hz | hz
        · exact hO.below _ _ _ _ (HE.out z hz) hba
        · rw [List.mem_singleton.1 hz]
          exact hO.below _ _ _ _ (hO.mono _ _ _ _ hoy (by simp; omega)) ((Below.refl w2.heap.size w2).alloc (Nat.le_refl _) _)
      have HEQ3 : Hid (EachR r (l.take (k + 1)) (ys ++ [y])) := by show EachR _ _ _; rw [HTK.out]; exact HEQ.out.snoc hry
      have HY3 := Lib.hid (show (ys ++ [y]).length = k + 1 by rw [List.length_append, HY.out]; rfl)
      have hcell : ∀ (j : Nat) (u : Value), ds[j]? = some u → (w2.alloc (.cells ds.toArray 73)).cell? ((⟨w2.heap.size, 0, none⟩ : Addr).add j) = some u := fun j u hu => by
        have := (Blk.new w2 73 ds.toArray).cell j
        rw [List.getElem?_toArray, hu] at this
        rw [addr_add0]
        exact this
      have HSZ3 := Lib.hid (show g ≤ (w2.alloc (.cells ds.toArray 73)).heap.size by have := hba.size; omega)
      have hds' := Lib.hid hds
      clear hba hoy hry hby HOW HE HEQ HY HB HTK hds
      have hi1 : i0.size = ds.length := by rw [hdl]; exact hz1
      obtain ⟨W3, hW3⟩ : ∃ W, W = w2.alloc (.cells ds.toArray 73) := ⟨_, rfl⟩
      rw [← hW3] at HOW3 HB3 HE3 hcell HSZ3
      go_wp2_with (first | (refine wpList_build_one rfl 24 73 (.tmp 20) rfl ds rfl i0 _ Tryz.underlying24 hi0 hz0 hi1 (by omega) (by omega) ?_; rw [← hW3]; clear hW3) | (at_builtin; refine wpList_append_fits _ rfl (.tmp 17) (.tmp 21) 24 rfl g 73 i0 21 Tryz.underlying24 hi0 hz1 g k n _ rfl HOW3.out ⟨w2.heap.size, 0, none⟩ 1 1 ds rfl (by omega) hcell hd1 (by omega) ?_; intro w4 hown4 hg4; have HO4 := Lib.hid hown4; have HG4 := Lib.hid hg4; clear hown4 hg4))
      go_roundw
      case rel =>
        refine ⟨k + 1, ys ++ [y], by omega, by go_num, rfl, HY3.out, ?_, fun z hz => hO.kept _ _ _ _ _ (HE3.out z hz) HG4.out (by omega), HEQ3.out, HB3.out.grown HG4.out HSZ3.out (fun q hq => by simp at hq; omega)⟩
        show World.ownsRow _ _ _ _ _ _ _
        rw [cellsK_append, cellsK_one, ← hds'.out]
        exact HO4.out
      case measure => simp [intOf]; omega
    · have hki : ¬ (k : Int) < (n : Int) := by omega
      obtain rfl : k = n := by omega
      go_wp2_with fail
      go_ret
      obtain rfl := HGG.out
      refine ⟨⟨some ⟨w.heap.size, 0, none⟩, k, k, ys⟩, rfl, ⟨HY.out.symm, HOW.out⟩, fun y hy => hO.mono _ _ _ _ (HE.out y hy) (by omega), ?_, HB.out⟩
      have := HEQ.out
      rw [HN.out, List.take_length] at this
      exact this
end Go.Proofs.YtbppdlhbjddhjaaGreatDoor
namespace Go.Proofs.YtbppdlhbjddhjaaGreatDoor
open Go.RowKit

theorem keptSnap : Kept (fun b w (y : SnapR) => SnapO w b y) := ⟨fun _ _ _ _ h hb => h.below hb, fun _ _ _ _ _ h hg hl => h.kept hg hl, fun _ _ _ _ h hb => h.mono hb⟩
theorem keptSet : Kept (fun b w (y : SetR) => SetO w b y) := ⟨fun _ _ _ _ h hb => h.below hb, fun _ _ _ _ _ h hg hl => h.kept hg hl, fun _ _ _ _ h hb => h.mono hb⟩
theorem keptStage : Kept (fun b w (y : StageR) => StageO w b y) := ⟨fun _ _ _ _ h hb => h.below hb, fun _ _ _ _ _ h hg hl => h.kept hg hl, fun _ _ _ _ h hb => h.mono hb⟩
theorem cells_one {α : Type} {enc : α → List Value} (h : ∀ x, ∀ u ∈ enc x, u.oneCell' = true) (l : List α) : ∀ u ∈ cellsK enc l, u.oneCell' = true := by
  intro u hu
  obtain ⟨x, _, hx⟩ := List.mem_flatMap.1 hu
  exact h x u hx
theorem encB_one (x : BlkT) : ∀ u ∈ encB x, u.oneCell' = true := by intro u hu; simp [encB, strV] at hu; rcases hu with rfl | rfl <;> rfl
theorem encP_one (x : BS × BS) : ∀ u ∈ encP x, u.oneCell' = true := by intro u hu; simp [encP, strV] at hu; rcases hu with rfl | rfl <;> rfl
theorem encS_one (x : BS) : ∀ u ∈ encS x, u.oneCell' = true := by intro u hu; simp [encS, strV] at hu; subst hu; rfl
theorem encG_one (x : GT) : ∀ u ∈ encG x, u.oneCell' = true := by intro u hu; simp [encG, strV] at hu; rcases hu with rfl | rfl | rfl <;> rfl
theorem encE_one (x : EntryR) : ∀ u ∈ encEntry x, u.oneCell' = true := by intro u hu; simp [encEntry, strV] at hu; rcases hu with rfl | rfl | rfl | rfl <;> rfl
/-- an owned row is one of a lower base, whatever is done to a box below it -/
theorem own_kept {W W' : World} {r : Nat} {base : Nat} {e : TypeId} {k n : Nat} {v : Value} {xs : List Value} (h : W.ownsRow base e k v n xs) (hg : W.grownBy W' (some r)) (hr : r < base) : W'.ownsRow base e k v n xs :=
  h.kept hg (.inr fun hh => by have := (h.lt _ hh).1; omega)
theorem copySnapR_any (x : SnapR) (W : World) (B : Nat) (hB : B ≤ W.heap.size) (hr : x.rd W B) (hz : x.sz) :
    Calls Tryz.prog 89 #[.agg (encSnap x).toArray] W fun e w' => ∃ y, e = .returned (.agg (encSnap y).toArray) ∧ SnapO w' W.heap.size y ∧ x.eqv y ∧ Below W.heap.size W w' := by
  obtain ⟨nm, gd, ⟨b1, bn, b3, bl⟩, ⟨t1, tn, t3, tl⟩, ⟨o1, on, o3, ol⟩⟩ := x
  refine (copySnap_any nm gd b1 bn b3 t1 tn t3 o1 on o3 _ _ _ W B hB hr.body.2.2 hr.tags.2.2 hr.own.2.2 (cells_one encB_one _) (cells_one encS_one _) (cells_one encP_one _) hz.body hz.tags hz.own).mono ?_
  rintro e w' ⟨Ab, cb, At, ct, Ao, co, rfl, h1, h2, h3, h4⟩
  exact ⟨⟨nm, gd, ⟨Ab, bn, cb, bl⟩, ⟨At, tn, ct, tl⟩, ⟨Ao, on, co, ol⟩⟩, rfl, ⟨⟨hr.body.1, h1⟩, ⟨hr.tags.1, h2⟩, ⟨hr.own.1, h3⟩⟩, ⟨rfl, rfl, rfl, rfl, rfl⟩, h4⟩
theorem copySetR_any (x : SetR) (w : World) (B : Nat) (hB : B ≤ w.heap.size) (hr : x.rd w B) (hz : x.sz) :
    Calls Tryz.prog 34 #[.agg (encSet x).toArray] w fun e w' => ∃ y, e = .returned (.agg (encSet y).toArray) ∧ SetO w' w.heap.size y ∧ x.eqv y ∧ Below w.heap.size w w' := by
  obtain ⟨pa, og, ⟨b1, bn, b3, bl⟩, ⟨s1, sn, s3, sl⟩, ⟨o1, on, o3, ol⟩⟩ := x
  have hb := hr.body
  have hs := hr.snaps
  have ho := hr.own
  have hb1 : bn = bl.length := hb.1
  have hs1 : sn = sl.length := hs.1
  have ho1 : on = ol.length := ho.1
  refine (copySet_abs pa og b1 bn b3 s1 sn s3 o1 on o3 w
    (fun W v => W.ownsRow (w.heap.size + 2) 85 2 v bn (cellsK encB bl)) (fun W W' v r h hg hl => own_kept h hg hl) (fun W hW hsz => ?_)
    (fun W v => W.ownsRow (w.heap.size + 2) 87 2 v on (cellsK encP ol)) (fun W W' v r h hg hl => own_kept h hg hl) (fun W hW hsz => ?_)
    (fun W v => ∃ s : FS SnapR, v = s.val ∧ s.own W (w.heap.size + 2) 66 5 encSnap ∧ (∀ y ∈ s.l, SnapO W (w.heap.size + 2) y) ∧ EachR SnapR.eqv sl s.l) (fun W W' v r h hg hl => ?_) (fun W hW hsz => ?_)).mono ?_
  · refine (cloneBl_any _ bn b1 b3 W B (hb.2.2.below (hW.mono hB)) (by have := hW.size; omega) (cells_one encB_one _) (by have := hz.body; simp only at this; omega)).mono ?_
    rintro e w' ⟨v, rfl, h1, h2⟩
    obtain ⟨A, c, rfl, _⟩ := own_form h1
    exact ⟨A, bn, c, rfl, own_mono h1 hsz, h2⟩
  · refine (clonePr_any _ on o1 o3 W B (ho.2.2.below (hW.mono hB)) (by have := hW.size; omega) (cells_one encP_one _) (by have := hz.own; simp only at this; omega)).mono ?_
    rintro e w' ⟨v, rfl, h1, h2⟩
    obtain ⟨A, c, rfl, _⟩ := own_form h1
    exact ⟨A, on, c, rfl, own_mono h1 hsz, h2⟩
  · obtain ⟨s, h1, h2, h3, h4⟩ := h
    exact ⟨s, h1, h2.kept hg hl, fun y hy => (h3 y hy).kept hg hl, h4⟩
  · refine (eachSnap_any _ keptSnap SnapR.eqv sl sn hs1 s1 s3 W B (by have := hW.size; omega) (hs.2.2.below (hW.mono hB)) (by have := hz.snaps; simp only at this; omega) (fun x hx W2 hW2 => ?_)).mono ?_
    · have hx2 : x.rd W2 B := by
        have := hr.each x hx
        have hb2 : Below B w W2 := (hW.mono hB).trans (hW2.mono (by have := hW.size; omega))
        exact ⟨this.body.below hb2, this.tags.below hb2, this.own.below hb2⟩
      exact copySnapR_any x W2 B (by have := hW.size; have := hW2.size; omega) hx2 (hz.each x hx)
    · rintro e w' ⟨s, rfl, h1, h2, h3, h4⟩
      exact ⟨s.A, s.n, s.c, rfl, ⟨s, rfl, h1.mono hsz, fun y hy => (h2 y hy).mono hsz, h3⟩, h4⟩
  · rintro e w' ⟨Ab, nb, cb, Ao, no, co, Az, nz, cz, rfl, h1, h2, ⟨s, h3, h4, h5, h6⟩, h7⟩
    obtain ⟨_, _, e1, _⟩ := own_form h1
    injection e1 with _ e1 _
    obtain ⟨_, _, e2, _⟩ := own_form h2
    injection e2 with _ e2 _
    subst e1 e2
    obtain ⟨A', n', c', l'⟩ := s
    injection h3 with e3 e4 e5
    subst e3 e4 e5
    exact ⟨⟨pa, og, ⟨Ab, nb, cb, bl⟩, ⟨Az, nz, cz, l'⟩, ⟨Ao, no, co, ol⟩⟩, rfl, ⟨⟨hb1, own_mono h1 (by omega)⟩, h4.mono (by omega), fun y hy => (h5 y hy).mono (by omega), ⟨ho1, own_mono h2 (by omega)⟩⟩, ⟨rfl, rfl, rfl, h6.1, h6.2, rfl⟩, h7⟩
theorem copyStageR_any (x : StageR) (w : World) (B : Nat) (hB : B ≤ w.heap.size) (hr : x.rd w B) (hz : x.sz) :
    Calls Tryz.prog 37 #[.agg (encStage x).toArray] w fun e w' => ∃ y, e = .returned (.agg (encStage y).toArray) ∧ StageO w' w.heap.size y ∧ x.eqv y ∧ Below w.heap.size w w' := by
  obtain ⟨into, kind, nm, frm, gd, ⟨o1, on, o3, ol⟩, ix, ct, dt, ⟨sa, sb, sc, sd⟩, ⟨b1, bn, b3, bl⟩, at_, nx, ⟨ua, ub, uc, ud⟩, done⟩ := x
  have hb := hr.body
  have ho := hr.own
  have hb1 : bn = bl.length := hb.1
  have ho1 : on = ol.length := ho.1
  refine (copyStage_abs into kind nm frm gd o1 on o3 ix ct dt sa sb sc sd b1 bn b3 at_ nx ua ub uc ud done w
    (fun W v => W.ownsRow (w.heap.size + 2) 85 2 v bn (cellsK encB bl)) (fun W W' v r h hg hl => own_kept h hg hl) (fun W hW hsz => ?_)
    (fun W v => W.ownsRow (w.heap.size + 2) 87 2 v on (cellsK encP ol)) (fun W W' v r h hg hl => own_kept h hg hl) (fun W hW hsz => ?_)).mono ?_
  · refine (cloneBl_any _ bn b1 b3 W B (hb.2.2.below (hW.mono hB)) (by have := hW.size; omega) (cells_one encB_one _) (by have := hz.body; simp only at this; omega)).mono ?_
    rintro e w' ⟨v, rfl, h1, h2⟩
    obtain ⟨A, c, rfl, _⟩ := own_form h1
    exact ⟨A, bn, c, rfl, own_mono h1 hsz, h2⟩
  · refine (clonePr_any _ on o1 o3 W B (ho.2.2.below (hW.mono hB)) (by have := hW.size; omega) (cells_one encP_one _) (by have := hz.own; simp only at this; omega)).mono ?_
    rintro e w' ⟨v, rfl, h1, h2⟩
    obtain ⟨A, c, rfl, _⟩ := own_form h1
    exact ⟨A, on, c, rfl, own_mono h1 hsz, h2⟩
  · rintro e w' ⟨Ab, nb, cb, Ao, no, co, rfl, h1, h2, h7⟩
    obtain ⟨_, _, e1, _⟩ := own_form h1
    injection e1 with _ e1 _
    obtain ⟨_, _, e2, _⟩ := own_form h2
    injection e2 with _ e2 _
    subst e1 e2
    exact ⟨⟨into, kind, nm, frm, gd, ⟨Ao, no, co, ol⟩, ix, ct, dt, ⟨sa, sb, sc, sd⟩, ⟨Ab, nb, cb, bl⟩, at_, nx, ⟨ua, ub, uc, ud⟩, done⟩, rfl, ⟨⟨ho1, own_mono h2 (by omega)⟩, ⟨hb1, own_mono h1 (by omega)⟩⟩, ⟨rfl, rfl, rfl, rfl, rfl, rfl, rfl, rfl, rfl, rfl, rfl, rfl, rfl, rfl, rfl⟩, h7⟩
theorem tcopy_any (t : TenR) (w : World) (B : Nat) (hB : B ≤ w.heap.size) (hr : t.rd w B) (hz : t.sz) :
    Calls Tryz.prog 9 #[t.val] w fun e w' => ∃ y : TenR, e = .returned y.val ∧ TenO w' w.heap.size y ∧ t.eqv y ∧ Below w.heap.size w w' := by
  obtain ⟨nm, qu, nx, ⟨s1, sn, s3, sl⟩, ⟨g1, gn, g3, gl⟩, ⟨t1, tn, t3, tl⟩, ⟨l1, ln, l3, ll⟩⟩ := t
  have hs := hr.sets
  have hg := hr.grants
  have ht := hr.stages
  have hl := hr.log
  have hs1 : sn = sl.length := hs.1
  have hg1 : gn = gl.length := hg.1
  have ht1 : tn = tl.length := ht.1
  have hl1 : ln = ll.length := hl.1
  refine (copyTen_abs nm qu nx s1 sn s3 g1 gn g3 t1 tn t3 l1 ln l3 w
    (fun W v => ∃ s : FS SetR, v = s.val ∧ s.own W (w.heap.size + 2) 61 5 encSet ∧ (∀ y ∈ s.l, SetO W (w.heap.size + 2) y) ∧ EachR SetR.eqv sl s.l) (fun W W' v r h hg hl => ?_) (fun W hW hsz => ?_)
    (fun W v => W.ownsRow (w.heap.size + 2) 78 3 v gn (cellsK encG gl)) (fun W W' v r h hg hl => own_kept h hg hl) (fun W hW hsz => ?_)
    (fun W v => ∃ s : FS StageR, v = s.val ∧ s.own W (w.heap.size + 2) 73 21 encStage ∧ (∀ y ∈ s.l, StageO W (w.heap.size + 2) y) ∧ EachR StageR.eqv tl s.l) (fun W W' v r h hg hl => ?_) (fun W hW hsz => ?_)
    (fun W v => W.ownsRow (w.heap.size + 2) 83 4 v ln (cellsK encEntry ll)) (fun W W' v r h hg hl => own_kept h hg hl) (fun W hW hsz => ?_)).mono ?_
  · obtain ⟨s, h1, h2, h3, h4⟩ := h
    exact ⟨s, h1, h2.kept hg hl, fun y hy => (h3 y hy).kept hg hl, h4⟩
  · refine (eachSet_any _ keptSet SetR.eqv sl sn hs1 s1 s3 W B (by have := hW.size; omega) (hs.2.2.below (hW.mono hB)) (by have := hz.sets; simp only at this; omega) (fun x hx W2 hW2 => ?_)).mono ?_
    · have hb2 : Below B w W2 := (hW.mono hB).trans (hW2.mono (by have := hW.size; omega))
      have := hr.eachS x hx
      exact copySetR_any x W2 B (by have := hW.size; have := hW2.size; omega) ⟨this.body.below hb2, this.snaps.below hb2, fun y hy => ⟨(this.each y hy).body.below hb2, (this.each y hy).tags.below hb2, (this.each y hy).own.below hb2⟩, this.own.below hb2⟩ (hz.eachS x hx)
    · rintro e w' ⟨s, rfl, h1, h2, h3, h4⟩
      exact ⟨s.A, s.n, s.c, rfl, ⟨s, rfl, h1.mono hsz, fun y hy => (h2 y hy).mono hsz, h3⟩, h4⟩
  · refine (cloneG_any _ gn g1 g3 W B (hg.2.2.below (hW.mono hB)) (by have := hW.size; omega) (cells_one encG_one _) (by have := hz.grants; simp only at this; omega)).mono ?_
    rintro e w' ⟨v, rfl, h1, h2⟩
    obtain ⟨A, c, rfl, _⟩ := own_form h1
    exact ⟨A, gn, c, rfl, own_mono h1 hsz, h2⟩
  · obtain ⟨s, h1, h2, h3, h4⟩ := h
    exact ⟨s, h1, h2.kept hg hl, fun y hy => (h3 y hy).kept hg hl, h4⟩
  · refine (eachStage_any _ keptStage StageR.eqv tl tn ht1 t1 t3 W B (by have := hW.size; omega) (ht.2.2.below (hW.mono hB)) (by have := hz.stages; simp only at this; omega) (fun x hx W2 hW2 => ?_)).mono ?_
    · have hb2 : Below B w W2 := (hW.mono hB).trans (hW2.mono (by have := hW.size; omega))
      have := hr.eachG x hx
      exact copyStageR_any x W2 B (by have := hW.size; have := hW2.size; omega) ⟨this.own.below hb2, this.body.below hb2⟩ (hz.eachT x hx)
    · rintro e w' ⟨s, rfl, h1, h2, h3, h4⟩
      exact ⟨s.A, s.n, s.c, rfl, ⟨s, rfl, h1.mono hsz, fun y hy => (h2 y hy).mono hsz, h3⟩, h4⟩
  · refine (cloneEn_any _ ln l1 l3 W B (hl.2.2.below (hW.mono hB)) (by have := hW.size; omega) (cells_one encE_one _) (by have := hz.log; simp only at this; omega)).mono ?_
    rintro e w' ⟨v, rfl, h1, h2⟩
    obtain ⟨A, c, rfl, _⟩ := own_form h1
    exact ⟨A, ln, c, rfl, own_mono h1 hsz, h2⟩
  · rintro e w' ⟨Az, nz, cz, Ag, ng, cg, At, nt, ct, Al, nl, cl, rfl, ⟨s, h3, h4, h5, h6⟩, h1, ⟨q, k3, k4, k5, k6⟩, h2, h7⟩
    obtain ⟨_, _, e1, _⟩ := own_form h1
    injection e1 with _ e1 _
    obtain ⟨_, _, e2, _⟩ := own_form h2
    injection e2 with _ e2 _
    subst e1 e2
    obtain ⟨A', n', c', l'⟩ := s
    injection h3 with e3 e4 e5
    subst e3 e4 e5
    obtain ⟨A', n', c', q'⟩ := q
    injection k3 with e3 e4 e5
    subst e3 e4 e5
    exact ⟨⟨nm, qu, nx, ⟨Az, nz, cz, l'⟩, ⟨Ag, ng, cg, gl⟩, ⟨At, nt, ct, q'⟩, ⟨Al, nl, cl, ll⟩⟩, rfl, ⟨h4.mono (by omega), fun y hy => (h5 y hy).mono (by omega), ⟨hg1, own_mono h1 (by omega)⟩, k4.mono (by omega), fun y hy => (k5 y hy).mono (by omega), ⟨hl1, own_mono h2 (by omega)⟩⟩, ⟨rfl, rfl, rfl, h6.1, h6.2, rfl, k6.1, k6.2, rfl⟩, h7⟩
end Go.Proofs.YtbppdlhbjddhjaaGreatDoor
