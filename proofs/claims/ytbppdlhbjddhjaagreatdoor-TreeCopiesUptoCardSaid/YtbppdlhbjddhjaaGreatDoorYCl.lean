/-
  slices.Clone at elements of 3 cells, by its contract.
  slices.Clone at blocks, texts, properties and entries; the page's Own of contents: by their contracts.
  tree.copySnap, by its contract.
-/
import Derived.Test.YtbppdlhbjddhjaaGreatDoorBase
import Derived.Test.YtbppdlhbjddhjaaGreatDoorRows
import Derived.Handy
import Derived.Test.YtbppdlhbjddhjaaGreatDoorTrSnaps
import Derived.Test.YtbppdlhbjddhjaaGreatDoorWide2
import Derived.Deep.DeepCutAuto
namespace Go.Proofs.YtbppdlhbjddhjaaGreatDoor
open Go.RowKit

theorem Tryz.cloneG_info : (Tryz.prog.info? 78).map (fun i => (i.zero, i.size, i.bytes)) = some (some (.agg #[.string ByteArray.empty, .string ByteArray.empty, .int .i64 0]), 3, 40) := by kernel_rfl
set_option maxRecDepth 100000 in
theorem cloneG_any (xs : List Value) (n : Nat) (A : Option Addr) (c : Nat) (w : World) (B : Nat) (hr : Reads w B 3 A n xs) (hB : B ≤ w.heap.size) (h1 : ∀ u ∈ xs, u.oneCell' = true) (hn : n * 40 ≤ 140737488355328) :
    Calls Tryz.prog 35 #[.slice A n c] w fun e w' => ∃ v, e = .returned v ∧ w'.ownsRow w.heap.size 78 3 v n xs ∧ Below w.heap.size w w' := by
  obtain ⟨i0, hi0, hz0, hz1, hz2⟩ := info_parts Tryz.cloneG_info
  rcases A with _ | ad
  · obtain rfl : n = 0 := by
      rcases Nat.eq_zero_or_pos n with h | h
      · exact h
      · obtain ⟨_, h, _⟩ := hr.2 h; cases h
    obtain rfl : xs = [] := List.eq_nil_of_length_eq_zero (by simpa using hr.1)
    have heq := fun W => Lib.run_eql_slice_nil (P := Tryz.prog) W 23 78 none 0 c 0 0 Tryz.underlying23
    go_enter Tryz.func35, Tryz.ntmps35
    go_wp2_with fail
    go_ret
    exact ⟨_, rfl, World.ownsRow_nil _ _ _ _, Below.refl _ _⟩
  · have heq := fun W => Lib.run_eql_slice_nil (P := Tryz.prog) W 23 78 (some ad) n c 0 0 Tryz.underlying23
    have hown : (w.alloc (.cells #[] 78)).ownsRow w.heap.size 78 3 (.slice (some ⟨w.heap.size, 0, none⟩) 0 0) 0 [] := World.ownsRow_made w #[] 0 (Nat.le_refl _) (by simp [maxLen]) rfl
    have hra := hr.alloc hB (.cells #[] 78)
    go_enter Tryz.func35, Tryz.ntmps35
    go_wp2_with (at_builtin; (refine wpList_append_any _ rfl (.tmp 5) (.tmp 6) _ rfl w.heap.size 78 i0 _ 3 40 Tryz.underlying23 hi0 hz0 hz1 hz2 rfl (by omega) (.slice (some ⟨w.heap.size, 0, none⟩) 0 0) 0 [] rfl hown B (some ad) n c xs rfl hra h1 (by unfold maxLen; omega) (by omega) (by simp) ?_); intro v1 w2 hown1 hg1 hat1)
    go_ret
    refine ⟨v1, rfl, by simpa using hown1, ((Below.refl _ _).alloc (Nat.le_refl _) _).grown hg1 (by simp) (fun k hk => ?_)⟩
    simp [Value.ownBlock] at hk
    omega
end Go.Proofs.YtbppdlhbjddhjaaGreatDoor
namespace Go.Proofs.YtbppdlhbjddhjaaGreatDoor
open Go.RowKit

theorem Tryz.cloneBl_info : (Tryz.prog.info? 85).map (fun i => (i.zero, i.size, i.bytes)) = some (some (.agg #[.int .i64 0, .string ByteArray.empty]), 2, 24) := by kernel_rfl
set_option maxRecDepth 100000 in
theorem cloneBl_any (xs : List Value) (n : Nat) (A : Option Addr) (c : Nat) (w : World) (B : Nat) (hr : Reads w B 2 A n xs) (hB : B ≤ w.heap.size) (h1 : ∀ u ∈ xs, u.oneCell' = true) (hn : n * 24 ≤ 140737488355328) :
    Calls Tryz.prog 53 #[.slice A n c] w fun e w' => ∃ v, e = .returned v ∧ w'.ownsRow w.heap.size 85 2 v n xs ∧ Below w.heap.size w w' := by
  obtain ⟨i0, hi0, hz0, hz1, hz2⟩ := info_parts Tryz.cloneBl_info
  rcases A with _ | ad
  · obtain rfl : n = 0 := by
      rcases Nat.eq_zero_or_pos n with h | h
      · exact h
      · obtain ⟨_, h, _⟩ := hr.2 h; cases h
    obtain rfl : xs = [] := List.eq_nil_of_length_eq_zero (by simpa using hr.1)
    have heq := fun W => Lib.run_eql_slice_nil (P := Tryz.prog) W 58 85 none 0 c 0 0 Tryz.underlying58
    go_enter Tryz.func53, Tryz.ntmps53
    go_wp2_with fail
    go_ret
    exact ⟨_, rfl, World.ownsRow_nil _ _ _ _, Below.refl _ _⟩
  · have heq := fun W => Lib.run_eql_slice_nil (P := Tryz.prog) W 58 85 (some ad) n c 0 0 Tryz.underlying58
    have hown : (w.alloc (.cells #[] 85)).ownsRow w.heap.size 85 2 (.slice (some ⟨w.heap.size, 0, none⟩) 0 0) 0 [] := World.ownsRow_made w #[] 0 (Nat.le_refl _) (by simp [maxLen]) rfl
    have hra := hr.alloc hB (.cells #[] 85)
    go_enter Tryz.func53, Tryz.ntmps53
    go_wp2_with (at_builtin; (refine wpList_append_any _ rfl (.tmp 5) (.tmp 6) _ rfl w.heap.size 85 i0 _ 2 24 Tryz.underlying58 hi0 hz0 hz1 hz2 rfl (by omega) (.slice (some ⟨w.heap.size, 0, none⟩) 0 0) 0 [] rfl hown B (some ad) n c xs rfl hra h1 (by unfold maxLen; omega) (by omega) (by simp) ?_); intro v1 w2 hown1 hg1 hat1)
    go_ret
    refine ⟨v1, rfl, by simpa using hown1, ((Below.refl _ _).alloc (Nat.le_refl _) _).grown hg1 (by simp) (fun k hk => ?_)⟩
    simp [Value.ownBlock] at hk
    omega
theorem Tryz.cloneSt_info : (Tryz.prog.info? 9).map (fun i => (i.zero, i.size, i.bytes)) = some (some (.string ByteArray.empty), 1, 16) := by kernel_rfl
set_option maxRecDepth 100000 in
theorem cloneSt_any (xs : List Value) (n : Nat) (A : Option Addr) (c : Nat) (w : World) (B : Nat) (hr : Reads w B 1 A n xs) (hB : B ≤ w.heap.size) (h1 : ∀ u ∈ xs, u.oneCell' = true) (hn : n * 16 ≤ 140737488355328) :
    Calls Tryz.prog 117 #[.slice A n c] w fun e w' => ∃ v, e = .returned v ∧ w'.ownsRow w.heap.size 9 1 v n xs ∧ Below w.heap.size w w' := by
  obtain ⟨i0, hi0, hz0, hz1, hz2⟩ := info_parts Tryz.cloneSt_info
  rcases A with _ | ad
  · obtain rfl : n = 0 := by
      rcases Nat.eq_zero_or_pos n with h | h
      · exact h
      · obtain ⟨_, h, _⟩ := hr.2 h; cases h
    obtain rfl : xs = [] := List.eq_nil_of_length_eq_zero (by simpa using hr.1)
    have heq := fun W => Lib.run_eql_slice_nil (P := Tryz.prog) W 47 9 none 0 c 0 0 Tryz.underlying47
    go_enter Tryz.func117, Tryz.ntmps117
    go_wp2_with fail
    go_ret
    exact ⟨_, rfl, World.ownsRow_nil _ _ _ _, Below.refl _ _⟩
  · have heq := fun W => Lib.run_eql_slice_nil (P := Tryz.prog) W 47 9 (some ad) n c 0 0 Tryz.underlying47
    have hown : (w.alloc (.cells #[] 9)).ownsRow w.heap.size 9 1 (.slice (some ⟨w.heap.size, 0, none⟩) 0 0) 0 [] := World.ownsRow_made w #[] 0 (Nat.le_refl _) (by simp [maxLen]) rfl
    have hra := hr.alloc hB (.cells #[] 9)
    go_enter Tryz.func117, Tryz.ntmps117
    go_wp2_with (at_builtin; (refine wpList_append_any _ rfl (.tmp 5) (.tmp 6) _ rfl w.heap.size 9 i0 _ 1 16 Tryz.underlying47 hi0 hz0 hz1 hz2 rfl (by omega) (.slice (some ⟨w.heap.size, 0, none⟩) 0 0) 0 [] rfl hown B (some ad) n c xs rfl hra h1 (by unfold maxLen; omega) (by omega) (by simp) ?_); intro v1 w2 hown1 hg1 hat1)
    go_ret
    refine ⟨v1, rfl, by simpa using hown1, ((Below.refl _ _).alloc (Nat.le_refl _) _).grown hg1 (by simp) (fun k hk => ?_)⟩
    simp [Value.ownBlock] at hk
    omega
theorem Tryz.clonePr_info : (Tryz.prog.info? 87).map (fun i => (i.zero, i.size, i.bytes)) = some (some (.agg #[.string ByteArray.empty, .string ByteArray.empty]), 2, 32) := by kernel_rfl
set_option maxRecDepth 100000 in
theorem clonePr_any (xs : List Value) (n : Nat) (A : Option Addr) (c : Nat) (w : World) (B : Nat) (hr : Reads w B 2 A n xs) (hB : B ≤ w.heap.size) (h1 : ∀ u ∈ xs, u.oneCell' = true) (hn : n * 32 ≤ 140737488355328) :
    Calls Tryz.prog 54 #[.slice A n c] w fun e w' => ∃ v, e = .returned v ∧ w'.ownsRow w.heap.size 87 2 v n xs ∧ Below w.heap.size w w' := by
  obtain ⟨i0, hi0, hz0, hz1, hz2⟩ := info_parts Tryz.clonePr_info
  rcases A with _ | ad
  · obtain rfl : n = 0 := by
      rcases Nat.eq_zero_or_pos n with h | h
      · exact h
      · obtain ⟨_, h, _⟩ := hr.2 h; cases h
    obtain rfl : xs = [] := List.eq_nil_of_length_eq_zero (by simpa using hr.1)
    have heq := fun W => Lib.run_eql_slice_nil (P := Tryz.prog) W 52 87 none 0 c 0 0 Tryz.underlying52
    go_enter Tryz.func54, Tryz.ntmps54
    go_wp2_with fail
    go_ret
    exact ⟨_, rfl, World.ownsRow_nil _ _ _ _, Below.refl _ _⟩
  · have heq := fun W => Lib.run_eql_slice_nil (P := Tryz.prog) W 52 87 (some ad) n c 0 0 Tryz.underlying52
    have hown : (w.alloc (.cells #[] 87)).ownsRow w.heap.size 87 2 (.slice (some ⟨w.heap.size, 0, none⟩) 0 0) 0 [] := World.ownsRow_made w #[] 0 (Nat.le_refl _) (by simp [maxLen]) rfl
    have hra := hr.alloc hB (.cells #[] 87)
    go_enter Tryz.func54, Tryz.ntmps54
    go_wp2_with (at_builtin; (refine wpList_append_any _ rfl (.tmp 5) (.tmp 6) _ rfl w.heap.size 87 i0 _ 2 32 Tryz.underlying52 hi0 hz0 hz1 hz2 rfl (by omega) (.slice (some ⟨w.heap.size, 0, none⟩) 0 0) 0 [] rfl hown B (some ad) n c xs rfl hra h1 (by unfold maxLen; omega) (by omega) (by simp) ?_); intro v1 w2 hown1 hg1 hat1)
    go_ret
    refine ⟨v1, rfl, by simpa using hown1, ((Below.refl _ _).alloc (Nat.le_refl _) _).grown hg1 (by simp) (fun k hk => ?_)⟩
    simp [Value.ownBlock] at hk
    omega
theorem Tryz.cloneEn_info : (Tryz.prog.info? 83).map (fun i => (i.zero, i.size, i.bytes)) = some (some (.agg #[.string ByteArray.empty, .int .i64 0, .string ByteArray.empty, .int .i64 0]), 4, 48) := by kernel_rfl
set_option maxRecDepth 100000 in
theorem cloneEn_any (xs : List Value) (n : Nat) (A : Option Addr) (c : Nat) (w : World) (B : Nat) (hr : Reads w B 4 A n xs) (hB : B ≤ w.heap.size) (h1 : ∀ u ∈ xs, u.oneCell' = true) (hn : n * 48 ≤ 140737488355328) :
    Calls Tryz.prog 38 #[.slice A n c] w fun e w' => ∃ v, e = .returned v ∧ w'.ownsRow w.heap.size 83 4 v n xs ∧ Below w.heap.size w w' := by
  obtain ⟨i0, hi0, hz0, hz1, hz2⟩ := info_parts Tryz.cloneEn_info
  rcases A with _ | ad
  · obtain rfl : n = 0 := by
      rcases Nat.eq_zero_or_pos n with h | h
      · exact h
      · obtain ⟨_, h, _⟩ := hr.2 h; cases h
    obtain rfl : xs = [] := List.eq_nil_of_length_eq_zero (by simpa using hr.1)
    have heq := fun W => Lib.run_eql_slice_nil (P := Tryz.prog) W 25 83 none 0 c 0 0 Tryz.underlying25
    go_enter Tryz.func38, Tryz.ntmps38
    go_wp2_with fail
    go_ret
    exact ⟨_, rfl, World.ownsRow_nil _ _ _ _, Below.refl _ _⟩
  · have heq := fun W => Lib.run_eql_slice_nil (P := Tryz.prog) W 25 83 (some ad) n c 0 0 Tryz.underlying25
    have hown : (w.alloc (.cells #[] 83)).ownsRow w.heap.size 83 4 (.slice (some ⟨w.heap.size, 0, none⟩) 0 0) 0 [] := World.ownsRow_made w #[] 0 (Nat.le_refl _) (by simp [maxLen]) rfl
    have hra := hr.alloc hB (.cells #[] 83)
    go_enter Tryz.func38, Tryz.ntmps38
    go_wp2_with (at_builtin; (refine wpList_append_any _ rfl (.tmp 5) (.tmp 6) _ rfl w.heap.size 83 i0 _ 4 48 Tryz.underlying25 hi0 hz0 hz1 hz2 rfl (by omega) (.slice (some ⟨w.heap.size, 0, none⟩) 0 0) 0 [] rfl hown B (some ad) n c xs rfl hra h1 (by unfold maxLen; omega) (by omega) (by simp) ?_); intro v1 w2 hown1 hg1 hat1)
    go_ret
    refine ⟨v1, rfl, by simpa using hown1, ((Below.refl _ _).alloc (Nat.le_refl _) _).grown hg1 (by simp) (fun k hk => ?_)⟩
    simp [Value.ownBlock] at hk
    omega
set_option maxRecDepth 100000 in
theorem rownT_any (xs : List Value) (n : Nat) (A : Option Addr) (c : Nat) (w : World) (B : Nat) (hr : Reads w B 2 A n xs) (h1 : ∀ u ∈ xs, u.oneCell' = true) (hn : n ≤ 5000000000000) :
    Calls Tryz.prog 32 #[.slice A n c] w fun e w' => ∃ v, e = .returned v ∧ w'.ownsRow w.heap.size 85 2 v n xs ∧ Below w.heap.size w w' := by
  obtain ⟨i0, hi0, hz0, hz1, hz2⟩ := info_parts Tryz.cloneBl_info
  go_enter Tryz.func32, Tryz.ntmps32
  go_wp2_with (at_builtin; (refine wpList_append_any _ rfl (.tmp 4) (.tmp 5) _ rfl w.heap.size 85 i0 _ 2 24 Tryz.underlying58 hi0 hz0 hz1 hz2 rfl (by omega) (.slice none 0 0) 0 [] rfl (World.ownsRow_nil _ _ _ _) B A n c xs rfl hr h1 (by unfold maxLen; omega) (by omega) (Nat.le_refl _) ?_); intro v1 w1 hown1 hg1 _)
  go_ret
  refine ⟨v1, rfl, by simpa using hown1, ((Below.refl _ _).grown hg1 (Nat.le_refl _) (fun k hk => by simp [Value.ownBlock] at hk))⟩
end Go.Proofs.YtbppdlhbjddhjaaGreatDoor
namespace Go.Proofs.YtbppdlhbjddhjaaGreatDoor
open Go.RowKit

theorem own_setCells_below {base size n : Nat} {t : TypeId} {v : Value} {xs : List Value} {g : Nat} (hg : g < base) (cs : List Value) : ∀ (w : World) (o : Nat), w.ownsRow base t size v n xs → (w.setCells g o cs).ownsRow base t size v n xs := by
  induction cs with
  | nil => intro w o h; exact h
  | cons u cs ih => intro w o h; exact ih _ _ (own_setCell_below (p := ⟨g, o, none⟩) h hg u)
set_option maxRecDepth 100000 in
set_option maxHeartbeats 8000000 in
theorem copySnap_any (nm : BS) (gd : Int) (b1 : Option Addr) (bn b3 : Nat) (t1 : Option Addr) (tn t3 : Nat) (o1 : Option Addr) (on o3 : Nat) (xb xt xo : List Value) (w : World) (B : Nat) (hB : B ≤ w.heap.size)
    (hb : Reads w B 2 b1 bn xb) (ht : Reads w B 1 t1 tn xt) (ho : Reads w B 2 o1 on xo) (h1 : ∀ u ∈ xb, u.oneCell' = true) (h2 : ∀ u ∈ xt, u.oneCell' = true) (h3 : ∀ u ∈ xo, u.oneCell' = true) (hbn : bn ≤ 1000000000000) (htn : tn ≤ 1000000000000) (hon : on ≤ 1000000000000) :
    Calls Tryz.prog 89 #[.agg #[.string ⟨nm.toArray⟩, .int .i64 gd, .slice b1 bn b3, .slice t1 tn t3, .slice o1 on o3]] w fun e w' => ∃ Ab cb At ct Ao co, e = .returned (.agg #[.string ⟨nm.toArray⟩, .int .i64 gd, .slice Ab bn cb, .slice At tn ct, .slice Ao on co]) ∧ w'.ownsRow w.heap.size 85 2 (.slice Ab bn cb) bn xb ∧ w'.ownsRow w.heap.size 9 1 (.slice At tn ct) tn xt ∧ w'.ownsRow w.heap.size 87 2 (.slice Ao on co) on xo ∧ Below w.heap.size w w' := by
  have hC1 : Hid (∀ W, Below w.heap.size w W → Calls Tryz.prog 53 #[.slice b1 bn b3] W fun e w' => ∃ v, e = .returned v ∧ w'.ownsRow W.heap.size 85 2 v bn xb ∧ Below W.heap.size W w') := fun W h => cloneBl_any xb bn b1 b3 W B (hb.below (h.mono hB)) (by have := h.size; omega) h1 (by omega)
  have hC2 : Hid (∀ W, Below w.heap.size w W → Calls Tryz.prog 117 #[.slice t1 tn t3] W fun e w' => ∃ v, e = .returned v ∧ w'.ownsRow W.heap.size 9 1 v tn xt ∧ Below W.heap.size W w') := fun W h => cloneSt_any xt tn t1 t3 W B (ht.below (h.mono hB)) (by have := h.size; omega) h2 (by omega)
  have hC3 : Hid (∀ W, Below w.heap.size w W → Calls Tryz.prog 54 #[.slice o1 on o3] W fun e w' => ∃ v, e = .returned v ∧ w'.ownsRow W.heap.size 87 2 v on xo ∧ Below W.heap.size W w') := fun W h => clonePr_any xo on o1 o3 W B (ho.below (h.mono hB)) (by have := h.size; omega) h3 (by omega)
  clear hb ht ho h1 h2 h3
  go_enter Tryz.func89, Tryz.ntmps89
  go_upto_region 1 with (fail)
  have kB := (Blk.new w 66 #[.string ⟨nm.toArray⟩, .int .i64 gd, .slice b1 bn b3, .slice t1 tn t3, .slice o1 on o3]).alloc (.cells #[.string ⟨#[]⟩, .int .i64 0, .slice none 0 0, .slice none 0 0, .slice none 0 0] 66)
  have kZ := Blk.new (w.alloc (.cells #[.string ⟨nm.toArray⟩, .int .i64 gd, .slice b1 bn b3, .slice t1 tn t3, .slice o1 on o3] 66)) 66 #[.string ⟨#[]⟩, .int .i64 0, .slice none 0 0, .slice none 0 0, .slice none 0 0]
  rw [show (w.alloc (.cells #[.string ⟨nm.toArray⟩, .int .i64 gd, .slice b1 bn b3, .slice t1 tn t3, .slice o1 on o3] 66)).heap.size = w.heap.size + 1 by simp] at kZ
  have hb2 := ((Below.refl w.heap.size w).alloc (Nat.le_refl _) (.cells #[.string ⟨nm.toArray⟩, .int .i64 gd, .slice b1 bn b3, .slice t1 tn t3, .slice o1 on o3] 66)).alloc (by simp) (.cells #[.string ⟨#[]⟩, .int .i64 0, .slice none 0 0, .slice none 0 0, .slice none 0 0] 66)
  obtain ⟨W2, hW2⟩ : ∃ W, W = (w.alloc (.cells #[.string ⟨nm.toArray⟩, .int .i64 gd, .slice b1 bn b3, .slice t1 tn t3, .slice o1 on o3] 66)).alloc (.cells #[.string ⟨#[]⟩, .int .i64 0, .slice none 0 0, .slice none 0 0, .slice none 0 0] 66) := ⟨_, rfl⟩
  have hsz : W2.heap.size = w.heap.size + 2 := by rw [hW2]; simp
  rw [← hW2] at kB kZ hb2 ⊢
  have K := Lib.hid kB.drew
  have K2 := Lib.hid kZ.drew
  have HB := Lib.hid hb2.drew
  have HZ := Lib.hid (show w.heap.size + 2 ≤ W2.drew.heap.size by show _ ≤ W2.heap.size; omega)
  have c0 := kB.cell 0
  have c1 := kB.cell 1
  have c2 := kB.cell 2
  have c3 := kB.cell 3
  have c4 := kB.cell 4
  simp only [List.getElem?_toArray, List.getElem?_cons_succ, List.getElem?_cons_zero] at c0 c1 c2 c3 c4
  clear hW2 kB kZ hb2 hsz
  go_cut [1, 2] from 0 to 14 (fun s1 s2 wx => s1 = .pointer (some ⟨w.heap.size, 0, none⟩) ∧ s2 = .pointer (some ⟨w.heap.size + 1, 0, none⟩) ∧ ∃ Ab cb At ct Ao co, Blk wx w.heap.size 66 #[.string ⟨nm.toArray⟩, .int .i64 gd, .slice Ab bn cb, .slice At tn ct, .slice Ao on co] ∧ Blk wx (w.heap.size + 1) 66 #[.string ⟨#[]⟩, .int .i64 0, .slice none 0 0, .slice none 0 0, .slice none 0 0] ∧ wx.ownsRow (w.heap.size + 2) 85 2 (.slice Ab bn cb) bn xb ∧ wx.ownsRow (w.heap.size + 2) 9 1 (.slice At tn ct) tn xt ∧ wx.ownsRow (w.heap.size + 2) 87 2 (.slice Ao on co) on xo ∧ Below w.heap.size w wx)
  case first =>
    go_region_law (first | (go_simp; with_reducible refine (hC1.out _ HB.out).mono ?_; rintro e w2 ⟨v, rfl, ho, hb⟩; obtain ⟨Ab, cb, rfl, _, _, _⟩ := own_form ho; have HOb := Lib.hid (own_mono ho HZ.out); (try have HOt := Lib.hid (own_below HOt.out hb)); (try have HOo := Lib.hid (own_below HOo.out hb)); have HZ := Lib.hid (Nat.le_trans HZ.out hb.size); have HB := Lib.hid (HB.out.trans (hb.mono HB.out.size)); have K2 := Lib.hid (K2.out.below hb K2.out.lt); have K := Lib.hid (K.out.below hb K.out.lt); obtain ⟨c0, c1, c2, c3, c4⟩ := (⟨K.out.cell 0, K.out.cell 1, K.out.cell 2, K.out.cell 3, K.out.cell 4⟩ : _ ∧ _ ∧ _ ∧ _ ∧ _); simp only [List.getElem?_toArray, List.getElem?_cons_succ, List.getElem?_cons_zero] at c0 c1 c2 c3 c4; have f2 := K.out.frozen 2; have f3 := K.out.frozen 3; have f4 := K.out.frozen 4; clear ho hb) | (go_simp; with_reducible refine (hC2.out _ HB.out).mono ?_; rintro e w2 ⟨v, rfl, ho, hb⟩; obtain ⟨At, ct, rfl, _, _, _⟩ := own_form ho; have HOt := Lib.hid (own_mono ho HZ.out); (try have HOb := Lib.hid (own_below HOb.out hb)); (try have HOo := Lib.hid (own_below HOo.out hb)); have HZ := Lib.hid (Nat.le_trans HZ.out hb.size); have HB := Lib.hid (HB.out.trans (hb.mono HB.out.size)); have K2 := Lib.hid (K2.out.below hb K2.out.lt); have K := Lib.hid (K.out.below hb K.out.lt); obtain ⟨c0, c1, c2, c3, c4⟩ := (⟨K.out.cell 0, K.out.cell 1, K.out.cell 2, K.out.cell 3, K.out.cell 4⟩ : _ ∧ _ ∧ _ ∧ _ ∧ _); simp only [List.getElem?_toArray, List.getElem?_cons_succ, List.getElem?_cons_zero] at c0 c1 c2 c3 c4; have f2 := K.out.frozen 2; have f3 := K.out.frozen 3; have f4 := K.out.frozen 4; clear ho hb) | (go_simp; with_reducible refine (hC3.out _ HB.out).mono ?_; rintro e w2 ⟨v, rfl, ho, hb⟩; obtain ⟨Ao, co, rfl, _, _, _⟩ := own_form ho; have HOo := Lib.hid (own_mono ho HZ.out); (try have HOb := Lib.hid (own_below HOb.out hb)); (try have HOt := Lib.hid (own_below HOt.out hb)); have HZ := Lib.hid (Nat.le_trans HZ.out hb.size); have HB := Lib.hid (HB.out.trans (hb.mono HB.out.size)); have K2 := Lib.hid (K2.out.below hb K2.out.lt); have K := Lib.hid (K.out.below hb K.out.lt); obtain ⟨c0, c1, c2, c3, c4⟩ := (⟨K.out.cell 0, K.out.cell 1, K.out.cell 2, K.out.cell 3, K.out.cell 4⟩ : _ ∧ _ ∧ _ ∧ _ ∧ _); simp only [List.getElem?_toArray, List.getElem?_cons_succ, List.getElem?_cons_zero] at c0 c1 c2 c3 c4; have f2 := K.out.frozen 2; have f3 := K.out.frozen 3; have f4 := K.out.frozen 4; clear ho hb))
    all_goals
      have k3 := ((K.out.set_ 2 (.slice Ab bn cb)).set_ 3 (.slice At tn ct)).set_ 4 (.slice Ao on co)
      have kz := ((K2.out.far (p := ⟨w.heap.size, 2, none⟩) (by simp) (.slice Ab bn cb)).far (p := ⟨w.heap.size, 3, none⟩) (by simp) (.slice At tn ct)).far (p := ⟨w.heap.size, 4, none⟩) (by simp) (.slice Ao on co)
      have q1 := own_setCell_below (p := ⟨w.heap.size, 4, none⟩) (own_setCell_below (p := ⟨w.heap.size, 3, none⟩) (own_setCell_below (p := ⟨w.heap.size, 2, none⟩) HOb.out (by show w.heap.size < _; omega) (.slice Ab bn cb)) (by show w.heap.size < _; omega) (.slice At tn ct)) (by show w.heap.size < _; omega) (.slice Ao on co)
      have q2 := own_setCell_below (p := ⟨w.heap.size, 4, none⟩) (own_setCell_below (p := ⟨w.heap.size, 3, none⟩) (own_setCell_below (p := ⟨w.heap.size, 2, none⟩) HOt.out (by show w.heap.size < _; omega) (.slice Ab bn cb)) (by show w.heap.size < _; omega) (.slice At tn ct)) (by show w.heap.size < _; omega) (.slice Ao on co)
      have q3 := own_setCell_below (p := ⟨w.heap.size, 4, none⟩) (own_setCell_below (p := ⟨w.heap.size, 3, none⟩) (own_setCell_below (p := ⟨w.heap.size, 2, none⟩) HOo.out (by show w.heap.size < _; omega) (.slice Ab bn cb)) (by show w.heap.size < _; omega) (.slice At tn ct)) (by show w.heap.size < _; omega) (.slice Ao on co)
      have hbw := ((HB.out.setCell (p := ⟨w.heap.size, 2, none⟩) (Nat.le_refl _) (.slice Ab bn cb)).setCell (p := ⟨w.heap.size, 3, none⟩) (Nat.le_refl _) (.slice At tn ct)).setCell (p := ⟨w.heap.size, 4, none⟩) (Nat.le_refl _) (.slice Ao on co)
      have HH := Lib.hid (show _ ∧ _ ∧ _ ∧ _ ∧ _ ∧ _ from ⟨k3, kz, q1, q2, q3, hbw⟩)
      clear k3 kz q1 q2 q3 hbw c0 c1 c2 c3 c4 f2 f3 f4
      go_wp2_with fail
      go_meet
      exact ⟨rfl, rfl, Ab, cb, At, ct, Ao, co, HH.out.1, HH.out.2.1, HH.out.2.2.1, HH.out.2.2.2.1, HH.out.2.2.2.2.1, HH.out.2.2.2.2.2⟩
  case rest =>
  obtain ⟨rfl, rfl, Ab, cb, At, ct, Ao, co, k3, kz, q1, q2, q3, hbw⟩ := hcut
  clear K K2 HB HZ hC1 hC2 hC3 c0 c1 c2 c3 c4
  obtain ⟨c0, c1, c2, c3, c4⟩ := (⟨k3.cell 0, k3.cell 1, k3.cell 2, k3.cell 3, k3.cell 4⟩ : _ ∧ _ ∧ _ ∧ _ ∧ _)
  simp at c0 c1 c2 c3 c4
  have hth := Lib.hid (kz.there 5 (by decide))
  have k4 := Blk.setCells (g := w.heap.size + 1) [.string ⟨nm.toArray⟩, .int .i64 gd, .slice Ab bn cb, .slice At tn ct, .slice Ao on co] wc [] [.string ⟨#[]⟩, .int .i64 0, .slice none 0 0, .slice none 0 0, .slice none 0 0] rfl kz
  simp only [List.length_nil, List.nil_append] at k4
  have q1 := Lib.hid (own_setCells_below (g := w.heap.size + 1) (by omega) [.string ⟨nm.toArray⟩, .int .i64 gd, .slice Ab bn cb, .slice At tn ct, .slice Ao on co] wc 0 q1)
  have q2 := Lib.hid (own_setCells_below (g := w.heap.size + 1) (by omega) [.string ⟨nm.toArray⟩, .int .i64 gd, .slice Ab bn cb, .slice At tn ct, .slice Ao on co] wc 0 q2)
  have q3 := Lib.hid (own_setCells_below (g := w.heap.size + 1) (by omega) [.string ⟨nm.toArray⟩, .int .i64 gd, .slice Ab bn cb, .slice At tn ct, .slice Ao on co] wc 0 q3)
  have hbw := Lib.hid (below_setCells (g := w.heap.size + 1) (by omega) [.string ⟨nm.toArray⟩, .int .i64 gd, .slice Ab bn cb, .slice At tn ct, .slice Ao on co] wc 0 hbw)
  obtain ⟨W4, hW4⟩ : ∃ W, W = wc.setCells (w.heap.size + 1) 0 (#[.string ⟨nm.toArray⟩, .int .i64 gd, .slice Ab bn cb, .slice At tn ct, .slice Ao on co] : Array Value).toList := ⟨_, rfl⟩
  rw [show ([.string ⟨nm.toArray⟩, .int .i64 gd, .slice Ab bn cb, .slice At tn ct, .slice Ao on co] : List Value) = (#[.string ⟨nm.toArray⟩, .int .i64 gd, .slice Ab bn cb, .slice At tn ct, .slice Ao on co] : Array Value).toList from rfl, ← hW4] at k4 q1 q2 q3 hbw
  obtain ⟨d0, d1, d2, d3, d4⟩ := (⟨k4.cell 0, k4.cell 1, k4.cell 2, k4.cell 3, k4.cell 4⟩ : _ ∧ _ ∧ _ ∧ _ ∧ _)
  simp at d0 d1 d2 d3 d4
  have HD := Lib.hid (show _ ∧ _ ∧ _ ∧ _ ∧ _ from ⟨d0, d1, d2, d3, d4⟩)
  clear k3 kz k4 d0 d1 d2 d3 d4
  go_wp2_with (refine wpList_store_mid rfl 66 (.tmp 2) (.tmp 15) rfl (w.heap.size + 1) 0 #[.string ⟨nm.toArray⟩, .int .i64 gd, .slice Ab bn cb, .slice At tn ct, .slice Ao on co] rfl rfl hth.out (by kernel_rfl) (by simp [Value.oneCell']) ?_; rw [← hW4]; clear hW4)
  obtain ⟨d0, d1, d2, d3, d4⟩ := HD.out
  refine bodyPost_ret (v := .agg #[.string ⟨nm.toArray⟩, .int .i64 gd, .slice Ab bn cb, .slice At tn ct, .slice Ao on co]) (by simp [results, Tryz.results89, go_sem, d0, d1, d2, d3, d4]) rfl ⟨Ab, cb, At, ct, Ao, co, rfl, own_mono q1.out (by omega), own_mono q2.out (by omega), own_mono q3.out (by omega), hbw.out⟩
end Go.Proofs.YtbppdlhbjddhjaaGreatDoor
