/-
  tree.New at the page's example; the law's alive; the walk of the law TreeKids.
-/
import Derived.Test.YtodikfhaghpkhaaDoorRfTr4
import Derived.Test.YtodikfhaghpkhaaDoorWide2
namespace Go.Proofs.YtodikfhaghpkhaaDoor
open Go.RowKit

def set0 : SetR := ⟨[], [], ⟨none, 0, 0, []⟩, ⟨none, 0, 0, []⟩, ⟨none, 0, 0, []⟩⟩
def ten0 (g : Nat) : TenR := ⟨[97], 5, 1, ⟨some ⟨g, 0, none⟩, 1, 1, [set0]⟩, ⟨none, 0, 0, []⟩, ⟨none, 0, 0, []⟩, ⟨none, 0, 0, []⟩⟩
theorem ten0_ok (g : Nat) : tenE (ten0 g) = 0 := by
  show (if tenB (ten0 g) = true then (0 : Int) else 9) = 0
  rw [if_pos]
  show tenB (ten0 0) = true
  decide +kernel
theorem ten0_sz (g : Nat) : (ten0 g).sz where
  nm := by show (1 : Nat) ≤ 4000000000; decide
  sets := by show (1 : Nat) ≤ 1000000000000; decide
  eachS := by
    intro y hy
    rw [show (ten0 g).sets.l = [set0] from rfl, List.mem_singleton] at hy
    subst hy
    exact ⟨by decide, by decide, by decide, by decide, (fun y hy => by cases hy), by decide, (fun y hy => by cases hy)⟩
  grants := by show (0 : Nat) ≤ 1000000000000; decide
  eachG := fun y hy => by cases hy
  stages := by show (0 : Nat) ≤ 1000000000000; decide
  eachT := fun y hy => by cases hy
  log := by show (0 : Nat) ≤ 1000000000000; decide
  eachL := fun y hy => by cases hy
theorem ten0_rd (g : Nat) (w : World) (B : Nat) (h : Reads w B 5 (some ⟨g, 0, none⟩) 1 (cellsK encSet [set0])) : (ten0 g).rd w B where
  sets := ⟨rfl, Nat.le_refl _, h⟩
  eachS := by
    intro y hy
    rw [show (ten0 g).sets.l = [set0] from rfl, List.mem_singleton] at hy
    subst hy
    exact ⟨⟨rfl, by decide, Reads.none_⟩, ⟨rfl, by decide, Reads.none_⟩, (fun y hy => by cases hy), ⟨rfl, by decide, Reads.none_⟩⟩
  grants := ⟨rfl, Nat.le_refl _, Reads.none_⟩
  stages := ⟨rfl, Nat.le_refl _, Reads.none_⟩
  eachG := fun y hy => by cases hy
  log := ⟨rfl, Nat.le_refl _, Reads.none_⟩
def NewPost (w : World) (e : Ending) (w' : World) : Prop := ∃ g, e = .returned (.tuple #[(ten0 g).val, .int .i64 0]) ∧ g < w'.heap.size ∧ Reads w' w'.heap.size 5 (some ⟨g, 0, none⟩) 1 (cellsK encSet [set0]) ∧ Below w.heap.size w w'
set_option maxRecDepth 100000 in
set_option maxHeartbeats 1000000 in
theorem new0_any (w : World) : Calls Tryd.prog 26 #[.string ⟨#[97]⟩, .int .i64 5] w (NewPost w) := by
  have hN := fun W => name_any ⟨#[97]⟩ W
  rw [show nameB (ByteArray.mk #[97]).data.toList = true by decide +kernel] at hN
  have hA := fun W => amount_any 5 0 W
  rw [show amt 5 0 = true by decide] at hA
  go_enter Tryd.func26, Tryd.ntmps26
  go_wp2_with fail
  refine (hN _).mono ?_
  rintro e w1 ⟨rfl, hb1⟩
  go_wp2_with fail
  refine (hA _).mono ?_
  rintro e w2 ⟨rfl, rfl⟩
  have hlt : w.heap.size < w2.heap.size := by have := hb1.size; simp at this; omega
  have kB := ((Blk.new w 27 #[.string ⟨#[]⟩, .int .i64 0, .int .i64 0, .slice none 0 0, .slice none 0 0, .slice none 0 0, .slice none 0 0]).below hb1 (by simp)).alloc (.cells #[.string ⟨#[]⟩, .string ⟨#[]⟩, .slice none 0 0, .slice none 0 0, .slice none 0 0] 38)
  have kR := Blk.new w2 38 #[.string ⟨#[]⟩, .string ⟨#[]⟩, .slice none 0 0, .slice none 0 0, .slice none 0 0]
  have hb0 := ((Below.refl w.heap.size w).alloc (Nat.le_refl _) (.cells #[.string ⟨#[]⟩, .int .i64 0, .int .i64 0, .slice none 0 0, .slice none 0 0, .slice none 0 0, .slice none 0 0] 27)).trans (hb1.mono (by simp))
  have hb3 := hb0.alloc hb0.size (.cells #[.string ⟨#[]⟩, .string ⟨#[]⟩, .slice none 0 0, .slice none 0 0, .slice none 0 0] 38)
  have hth := kB.there 7 (by decide)
  have kB2 := Blk.setCells (g := w.heap.size) [.string ⟨#[97]⟩, .int .i64 5, .int .i64 1, .slice (some ⟨w2.heap.size, 0, none⟩) 1 1, .slice none 0 0, .slice none 0 0, .slice none 0 0] _ [] [.string ⟨#[]⟩, .int .i64 0, .int .i64 0, .slice none 0 0, .slice none 0 0, .slice none 0 0, .slice none 0 0] rfl kB
  have kR2 := Blk.setCells_far (g := w2.heap.size) (g' := w.heap.size) (by omega) [.string ⟨#[97]⟩, .int .i64 5, .int .i64 1, .slice (some ⟨w2.heap.size, 0, none⟩) 1 1, .slice none 0 0, .slice none 0 0, .slice none 0 0] _ 0 kR
  have hb4 := below_setCells (g := w.heap.size) (Nat.le_refl _) [.string ⟨#[97]⟩, .int .i64 5, .int .i64 1, .slice (some ⟨w2.heap.size, 0, none⟩) 1 1, .slice none 0 0, .slice none 0 0, .slice none 0 0] _ 0 hb3
  have hsz := size_setCells (g := w.heap.size) [.string ⟨#[97]⟩, .int .i64 5, .int .i64 1, .slice (some ⟨w2.heap.size, 0, none⟩) 1 1, .slice none 0 0, .slice none 0 0, .slice none 0 0] (w2.alloc (.cells #[.string ⟨#[]⟩, .string ⟨#[]⟩, .slice none 0 0, .slice none 0 0, .slice none 0 0] 38)) 0
  have HTH := Lib.hid hth
  simp only [List.length_nil, List.nil_append] at kB2
  obtain ⟨W4, hW4⟩ : ∃ W, W = (w2.alloc (.cells #[.string ⟨#[]⟩, .string ⟨#[]⟩, .slice none 0 0, .slice none 0 0, .slice none 0 0] 38)).setCells w.heap.size 0 [.string ⟨#[97]⟩, .int .i64 5, .int .i64 1, .slice (some ⟨w2.heap.size, 0, none⟩) 1 1, .slice none 0 0, .slice none 0 0, .slice none 0 0] := ⟨_, rfl⟩
  rw [← hW4] at kB2 kR2 hb4 hsz
  have HKR := Lib.hid kR2
  have HB4 := Lib.hid hb4
  have HS4 := Lib.hid (show w2.heap.size < W4.heap.size by rw [hsz]; simp)
  have d0 := kB2.cell 0
  have d1 := kB2.cell 1
  have d2 := kB2.cell 2
  have d3 := kB2.cell 3
  have d4 := kB2.cell 4
  have d5 := kB2.cell 5
  have d6 := kB2.cell 6
  simp only [List.getElem?_toArray, List.getElem?_cons_succ, List.getElem?_cons_zero] at d0 d1 d2 d3 d4 d5 d6
  have HD := Lib.hid (show _ ∧ _ ∧ _ ∧ _ ∧ _ ∧ _ ∧ _ from ⟨d0, d1, d2, d3, d4, d5, d6⟩)
  clear kB kR hb0 hb3 hth kB2 kR2 hb4 hsz hb1 hN hA d0 d1 d2 d3 d4 d5 d6
  have hW5 : W4 = (w2.alloc (.cells #[.string ⟨#[]⟩, .string ⟨#[]⟩, .slice none 0 0, .slice none 0 0, .slice none 0 0] 38)).setCells w.heap.size 0 (#[.string ⟨#[97]⟩, .int .i64 5, .int .i64 1, .slice (some ⟨w2.heap.size, 0, none⟩) 1 1, .slice none 0 0, .slice none 0 0, .slice none 0 0] : Array Value).toList := hW4
  clear hW4
  go_wp2_with (refine wpList_store_mid rfl 27 (.tmp 4) (.tmp 24) rfl w.heap.size 0 #[.string ⟨#[97]⟩, .int .i64 5, .int .i64 1, .slice (some ⟨w2.heap.size, 0, none⟩) 1 1, .slice none 0 0, .slice none 0 0, .slice none 0 0] rfl rfl HTH.out (by kernel_rfl) (by simp [Value.oneCell']) ?_; rw [← hW5]; clear hW5)
  obtain ⟨d0, d1, d2, d3, d4, d5, d6⟩ := HD.out
  clear HTH
  refine bodyPost_ret (v := .tuple #[.agg #[.string ⟨#[97]⟩, .int .i64 5, .int .i64 1, .slice (some ⟨w2.heap.size, 0, none⟩) 1 1, .slice none 0 0, .slice none 0 0, .slice none 0 0], .int .i64 0]) (by simp [results, Tryd.results26, go_sem, d0, d1, d2, d3, d4, d5, d6]) rfl ⟨w2.heap.size, rfl, HS4.out, ?_, HB4.out⟩
  exact (Reads.of_blk (n := 1) (size := 5) HKR.out (cellsK encSet [set0]) rfl (fun j u h => by rw [show cellsK encSet [set0] = [.string ⟨#[]⟩, .string ⟨#[]⟩, .slice none 0 0, .slice none 0 0, .slice none 0 0] from rfl] at h; simpa using h)).more (by have := HS4.out; omega)
def LivePost (w : World) (e : Ending) (w' : World) : Prop := e = .returned (.bool true) ∧ Below w.heap.size w w'
theorem num14_any (n : Int) (w : World) : Calls Tryd.prog 27 #[.int .i64 n] w fun e w' => e = .returned (.int .i64 n) ∧ w' = w := by
  go_enter Tryd.func27, Tryd.ntmps27
  go_wp2_with fail
  go_ret
  exact ⟨rfl, rfl⟩
set_option maxRecDepth 100000 in
set_option maxHeartbeats 2000000 in
theorem alive14_any (w : World) (hmx : HasMax w) : Calls Tryd.prog 8 #[] w fun e w' => e = .returned (.bool true) ∧ Below w.heap.size w w' := by
  go_enter Tryd.func8, Tryd.ntmps8
  go_wp2_with fail
  refine (new0_any _).mono ?_
  rintro e w1 ⟨g, rfl, hg, hrd, hb1⟩
  have hv : (ten0 g).val = .agg #[.string ⟨#[97]⟩, .int .i64 5, .int .i64 1, .slice (some ⟨g, 0, none⟩) 1 1, .slice none 0 0, .slice none 0 0, .slice none 0 0] := rfl
  rw [hv]
  obtain ⟨W1, hW1⟩ : ∃ W, W = w1.alloc (.cells #[.string ⟨#[97]⟩, .int .i64 5, .int .i64 1, .slice (some ⟨g, 0, none⟩) 1 1, .slice none 0 0, .slice none 0 0, .slice none 0 0] 27) := ⟨_, rfl⟩
  have hb2 := hb1.alloc hb1.size (.cells #[.string ⟨#[97]⟩, .int .i64 5, .int .i64 1, .slice (some ⟨g, 0, none⟩) 1 1, .slice none 0 0, .slice none 0 0, .slice none 0 0] 27)
  have kB := Blk.new w1 27 #[.string ⟨#[97]⟩, .int .i64 5, .int .i64 1, .slice (some ⟨g, 0, none⟩) 1 1, .slice none 0 0, .slice none 0 0, .slice none 0 0]
  have hr1 := hrd.alloc (Nat.le_refl _) (.cells #[.string ⟨#[97]⟩, .int .i64 5, .int .i64 1, .slice (some ⟨g, 0, none⟩) 1 1, .slice none 0 0, .slice none 0 0, .slice none 0 0] 27)
  rw [← hW1] at hb2 kB hr1
  have hsz : W1.heap.size = w1.heap.size + 1 := by rw [hW1]; simp
  have hc := tcheck_any (ten0 g) W1 w1.heap.size (ten0_rd g W1 _ hr1) (by omega) (ten0_sz g) (hmx.below hb2)
  rw [ten0_ok, hv] at hc
  have hf := Lib.hid (fun W (hb : Below W1.heap.size W1 W) => find_any (.string ⟨#[97]⟩) (.int .i64 5) (.int .i64 1) (.slice none 0 0) (.slice none 0 0) (.slice none 0 0) [set0] 1 rfl (some ⟨g, 0, none⟩) 1 [] W w1.heap.size (hr1.below (hb.mono (by omega))) (by have := hb.size; omega) (by decide))
  rw [show findS [set0] [] = 0 by decide +kernel] at hf
  have hC := Lib.hid hc
  have HB2 := Lib.hid hb2
  have HSZ := Lib.hid hsz
  have HKB := Lib.hid kB
  clear hrd hb1 hb2 kB hr1 hc hsz hv
  go_wp2_with fail
  rw [← hW1]
  refine (num14_any _ _).mono ?_
  rintro e w2 ⟨rfl, hw2⟩
  have hw2 := hw2.symm
  subst hw2
  obtain ⟨e0, e1, e2, e3, e4, e5, e6⟩ := (⟨HKB.out.cell 0, HKB.out.cell 1, HKB.out.cell 2, HKB.out.cell 3, HKB.out.cell 4, HKB.out.cell 5, HKB.out.cell 6⟩ : _ ∧ _ ∧ _ ∧ _ ∧ _ ∧ _ ∧ _)
  simp only [List.getElem?_toArray, List.getElem?_cons_succ, List.getElem?_cons_zero] at e0 e1 e2 e3 e4 e5 e6
  clear hW1
  go_wp2_with fail
  refine hC.out.mono ?_
  clear hC e0 e1 e2 e3 e4 e5 e6
  rintro e w3 ⟨rfl, hb3⟩
  have hk3 := HKB.out.below hb3 (by have := HSZ.out; omega)
  obtain ⟨e0, e1, e2, e3, e4, e5, e6⟩ := (⟨hk3.cell 0, hk3.cell 1, hk3.cell 2, hk3.cell 3, hk3.cell 4, hk3.cell 5, hk3.cell 6⟩ : _ ∧ _ ∧ _ ∧ _ ∧ _ ∧ _ ∧ _)
  simp only [List.getElem?_toArray, List.getElem?_cons_succ, List.getElem?_cons_zero] at e0 e1 e2 e3 e4 e5 e6
  have hfc := hf.out _ hb3
  have HB3 := Lib.hid (HB2.out.trans (hb3.mono HB2.out.size))
  clear hk3 hb3 hf
  go_wp2_with fail
  refine hfc.mono ?_
  clear hfc
  rintro e w4 ⟨rfl, hb4⟩
  have HB4 := Lib.hid (HB3.out.trans (hb4.mono HB3.out.size))
  clear hb4 e0 e1 e2 e3 e4 e5 e6
  go_wp2_with fail
  go_ret
  exact ⟨rfl, HB4.out⟩
end Go.Proofs.YtodikfhaghpkhaaDoor
