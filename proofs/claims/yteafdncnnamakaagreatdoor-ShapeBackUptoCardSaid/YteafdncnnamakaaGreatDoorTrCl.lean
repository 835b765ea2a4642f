/-
  slices.Clone at blocks, texts, properties and entries; the page's Own of contents: by their contracts.
-/
import Derived.Test.YteafdncnnamakaaGreatDoorBase
import Derived.Test.YteafdncnnamakaaGreatDoorRows
import Derived.Handy
namespace Go.Proofs.YteafdncnnamakaaGreatDoor
open Go.RowKit

theorem Tryz.cloneBl_info : (Tryz.prog.info? 141).map (fun i => (i.zero, i.size, i.bytes)) = some (some (.agg #[.int .i64 0, .string ByteArray.empty]), 2, 24) := by kernel_rfl
set_option maxRecDepth 100000 in
theorem cloneBl_any (xs : List Value) (n : Nat) (A : Option Addr) (c : Nat) (w : World) (B : Nat) (hr : Reads w B 2 A n xs) (hB : B ≤ w.heap.size) (h1 : ∀ u ∈ xs, u.oneCell' = true) (hn : n * 24 ≤ 140737488355328) :
    Calls Tryz.prog 108 #[.slice A n c] w fun e w' => ∃ v, e = .returned v ∧ w'.ownsRow w.heap.size 141 2 v n xs ∧ Below w.heap.size w w' := by
  obtain ⟨i0, hi0, hz0, hz1, hz2⟩ := info_parts Tryz.cloneBl_info
  rcases A with _ | ad
  · obtain rfl : n = 0 := by
      rcases Nat.eq_zero_or_pos n with h | h
      · exact h
      · obtain ⟨_, h, _⟩ := hr.2 h; cases h
    obtain rfl : xs = [] := List.eq_nil_of_length_eq_zero (by simpa using hr.1)
    have heq := fun W => Lib.run_eql_slice_nil (P := Tryz.prog) W 45 141 none 0 c 0 0 Tryz.underlying45
    go_enter Tryz.func108, Tryz.ntmps108
    go_wp2_with fail
    go_ret
    exact ⟨_, rfl, World.ownsRow_nil _ _ _ _, Below.refl _ _⟩
  · have heq := fun W => Lib.run_eql_slice_nil (P := Tryz.prog) W 45 141 (some ad) n c 0 0 Tryz.underlying45
    have hown : (w.alloc (.cells #[] 141)).ownsRow w.heap.size 141 2 (.slice (some ⟨w.heap.size, 0, none⟩) 0 0) 0 [] := World.ownsRow_made w #[] 0 (Nat.le_refl _) (by simp [maxLen]) rfl
    have hra := hr.alloc hB (.cells #[] 141)
    go_enter Tryz.func108, Tryz.ntmps108
    go_wp2_with (at_builtin; (refine wpList_append_any _ rfl (.tmp 5) (.tmp 6) _ rfl w.heap.size 141 i0 _ 2 24 Tryz.underlying45 hi0 hz0 hz1 hz2 rfl (by omega) (.slice (some ⟨w.heap.size, 0, none⟩) 0 0) 0 [] rfl hown B (some ad) n c xs rfl hra h1 (by unfold maxLen; omega) (by omega) (by simp) ?_); intro v1 w2 hown1 hg1 hat1)
    go_ret
    refine ⟨v1, rfl, by simpa using hown1, ((Below.refl _ _).alloc (Nat.le_refl _) _).grown hg1 (by simp) (fun k hk => ?_)⟩
    simp [Value.ownBlock] at hk
    omega
theorem Tryz.cloneSt_info : (Tryz.prog.info? 9).map (fun i => (i.zero, i.size, i.bytes)) = some (some (.string ByteArray.empty), 1, 16) := by kernel_rfl
set_option maxRecDepth 100000 in
theorem cloneSt_any (xs : List Value) (n : Nat) (A : Option Addr) (c : Nat) (w : World) (B : Nat) (hr : Reads w B 1 A n xs) (hB : B ≤ w.heap.size) (h1 : ∀ u ∈ xs, u.oneCell' = true) (hn : n * 16 ≤ 140737488355328) :
    Calls Tryz.prog 161 #[.slice A n c] w fun e w' => ∃ v, e = .returned v ∧ w'.ownsRow w.heap.size 9 1 v n xs ∧ Below w.heap.size w w' := by
  obtain ⟨i0, hi0, hz0, hz1, hz2⟩ := info_parts Tryz.cloneSt_info
  rcases A with _ | ad
  · obtain rfl : n = 0 := by
      rcases Nat.eq_zero_or_pos n with h | h
      · exact h
      · obtain ⟨_, h, _⟩ := hr.2 h; cases h
    obtain rfl : xs = [] := List.eq_nil_of_length_eq_zero (by simpa using hr.1)
    have heq := fun W => Lib.run_eql_slice_nil (P := Tryz.prog) W 68 9 none 0 c 0 0 Tryz.underlying68
    go_enter Tryz.func161, Tryz.ntmps161
    go_wp2_with fail
    go_ret
    exact ⟨_, rfl, World.ownsRow_nil _ _ _ _, Below.refl _ _⟩
  · have heq := fun W => Lib.run_eql_slice_nil (P := Tryz.prog) W 68 9 (some ad) n c 0 0 Tryz.underlying68
    have hown : (w.alloc (.cells #[] 9)).ownsRow w.heap.size 9 1 (.slice (some ⟨w.heap.size, 0, none⟩) 0 0) 0 [] := World.ownsRow_made w #[] 0 (Nat.le_refl _) (by simp [maxLen]) rfl
    have hra := hr.alloc hB (.cells #[] 9)
    go_enter Tryz.func161, Tryz.ntmps161
    go_wp2_with (at_builtin; (refine wpList_append_any _ rfl (.tmp 5) (.tmp 6) _ rfl w.heap.size 9 i0 _ 1 16 Tryz.underlying68 hi0 hz0 hz1 hz2 rfl (by omega) (.slice (some ⟨w.heap.size, 0, none⟩) 0 0) 0 [] rfl hown B (some ad) n c xs rfl hra h1 (by unfold maxLen; omega) (by omega) (by simp) ?_); intro v1 w2 hown1 hg1 hat1)
    go_ret
    refine ⟨v1, rfl, by simpa using hown1, ((Below.refl _ _).alloc (Nat.le_refl _) _).grown hg1 (by simp) (fun k hk => ?_)⟩
    simp [Value.ownBlock] at hk
    omega
theorem Tryz.clonePr_info : (Tryz.prog.info? 152).map (fun i => (i.zero, i.size, i.bytes)) = some (some (.agg #[.string ByteArray.empty, .string ByteArray.empty]), 2, 32) := by kernel_rfl
set_option maxRecDepth 100000 in
theorem clonePr_any (xs : List Value) (n : Nat) (A : Option Addr) (c : Nat) (w : World) (B : Nat) (hr : Reads w B 2 A n xs) (hB : B ≤ w.heap.size) (h1 : ∀ u ∈ xs, u.oneCell' = true) (hn : n * 32 ≤ 140737488355328) :
    Calls Tryz.prog 125 #[.slice A n c] w fun e w' => ∃ v, e = .returned v ∧ w'.ownsRow w.heap.size 152 2 v n xs ∧ Below w.heap.size w w' := by
  obtain ⟨i0, hi0, hz0, hz1, hz2⟩ := info_parts Tryz.clonePr_info
  rcases A with _ | ad
  · obtain rfl : n = 0 := by
      rcases Nat.eq_zero_or_pos n with h | h
      · exact h
      · obtain ⟨_, h, _⟩ := hr.2 h; cases h
    obtain rfl : xs = [] := List.eq_nil_of_length_eq_zero (by simpa using hr.1)
    have heq := fun W => Lib.run_eql_slice_nil (P := Tryz.prog) W 39 152 none 0 c 0 0 Tryz.underlying39
    go_enter Tryz.func125, Tryz.ntmps125
    go_wp2_with fail
    go_ret
    exact ⟨_, rfl, World.ownsRow_nil _ _ _ _, Below.refl _ _⟩
  · have heq := fun W => Lib.run_eql_slice_nil (P := Tryz.prog) W 39 152 (some ad) n c 0 0 Tryz.underlying39
    have hown : (w.alloc (.cells #[] 152)).ownsRow w.heap.size 152 2 (.slice (some ⟨w.heap.size, 0, none⟩) 0 0) 0 [] := World.ownsRow_made w #[] 0 (Nat.le_refl _) (by simp [maxLen]) rfl
    have hra := hr.alloc hB (.cells #[] 152)
    go_enter Tryz.func125, Tryz.ntmps125
    go_wp2_with (at_builtin; (refine wpList_append_any _ rfl (.tmp 5) (.tmp 6) _ rfl w.heap.size 152 i0 _ 2 32 Tryz.underlying39 hi0 hz0 hz1 hz2 rfl (by omega) (.slice (some ⟨w.heap.size, 0, none⟩) 0 0) 0 [] rfl hown B (some ad) n c xs rfl hra h1 (by unfold maxLen; omega) (by omega) (by simp) ?_); intro v1 w2 hown1 hg1 hat1)
    go_ret
    refine ⟨v1, rfl, by simpa using hown1, ((Below.refl _ _).alloc (Nat.le_refl _) _).grown hg1 (by simp) (fun k hk => ?_)⟩
    simp [Value.ownBlock] at hk
    omega
theorem Tryz.cloneEn_info : (Tryz.prog.info? 94).map (fun i => (i.zero, i.size, i.bytes)) = some (some (.agg #[.string ByteArray.empty, .int .i64 0, .string ByteArray.empty, .int .i64 0]), 4, 48) := by kernel_rfl
set_option maxRecDepth 100000 in
theorem cloneEn_any (xs : List Value) (n : Nat) (A : Option Addr) (c : Nat) (w : World) (B : Nat) (hr : Reads w B 4 A n xs) (hB : B ≤ w.heap.size) (h1 : ∀ u ∈ xs, u.oneCell' = true) (hn : n * 48 ≤ 140737488355328) :
    Calls Tryz.prog 89 #[.slice A n c] w fun e w' => ∃ v, e = .returned v ∧ w'.ownsRow w.heap.size 94 4 v n xs ∧ Below w.heap.size w w' := by
  obtain ⟨i0, hi0, hz0, hz1, hz2⟩ := info_parts Tryz.cloneEn_info
  rcases A with _ | ad
  · obtain rfl : n = 0 := by
      rcases Nat.eq_zero_or_pos n with h | h
      · exact h
      · obtain ⟨_, h, _⟩ := hr.2 h; cases h
    obtain rfl : xs = [] := List.eq_nil_of_length_eq_zero (by simpa using hr.1)
    have heq := fun W => Lib.run_eql_slice_nil (P := Tryz.prog) W 25 94 none 0 c 0 0 Tryz.underlying25
    go_enter Tryz.func89, Tryz.ntmps89
    go_wp2_with fail
    go_ret
    exact ⟨_, rfl, World.ownsRow_nil _ _ _ _, Below.refl _ _⟩
  · have heq := fun W => Lib.run_eql_slice_nil (P := Tryz.prog) W 25 94 (some ad) n c 0 0 Tryz.underlying25
    have hown : (w.alloc (.cells #[] 94)).ownsRow w.heap.size 94 4 (.slice (some ⟨w.heap.size, 0, none⟩) 0 0) 0 [] := World.ownsRow_made w #[] 0 (Nat.le_refl _) (by simp [maxLen]) rfl
    have hra := hr.alloc hB (.cells #[] 94)
    go_enter Tryz.func89, Tryz.ntmps89
    go_wp2_with (at_builtin; (refine wpList_append_any _ rfl (.tmp 5) (.tmp 6) _ rfl w.heap.size 94 i0 _ 4 48 Tryz.underlying25 hi0 hz0 hz1 hz2 rfl (by omega) (.slice (some ⟨w.heap.size, 0, none⟩) 0 0) 0 [] rfl hown B (some ad) n c xs rfl hra h1 (by unfold maxLen; omega) (by omega) (by simp) ?_); intro v1 w2 hown1 hg1 hat1)
    go_ret
    refine ⟨v1, rfl, by simpa using hown1, ((Below.refl _ _).alloc (Nat.le_refl _) _).grown hg1 (by simp) (fun k hk => ?_)⟩
    simp [Value.ownBlock] at hk
    omega
set_option maxRecDepth 100000 in
theorem rownT_any (xs : List Value) (n : Nat) (A : Option Addr) (c : Nat) (w : World) (B : Nat) (hr : Reads w B 2 A n xs) (h1 : ∀ u ∈ xs, u.oneCell' = true) (hn : n ≤ 5000000000000) :
    Calls Tryz.prog 91 #[.slice A n c] w fun e w' => ∃ v, e = .returned v ∧ w'.ownsRow w.heap.size 141 2 v n xs ∧ Below w.heap.size w w' := by
  obtain ⟨i0, hi0, hz0, hz1, hz2⟩ := info_parts Tryz.cloneBl_info
  go_enter Tryz.func91, Tryz.ntmps91
  go_wp2_with (at_builtin; (refine wpList_append_any _ rfl (.tmp 4) (.tmp 5) _ rfl w.heap.size 141 i0 _ 2 24 Tryz.underlying45 hi0 hz0 hz1 hz2 rfl (by omega) (.slice none 0 0) 0 [] rfl (World.ownsRow_nil _ _ _ _) B A n c xs rfl hr h1 (by unfold maxLen; omega) (by omega) (Nat.le_refl _) ?_); intro v1 w1 hown1 hg1 _)
  go_ret
  refine ⟨v1, rfl, by simpa using hown1, ((Below.refl _ _).grown hg1 (Nat.le_refl _) (fun k hk => by simp [Value.ownBlock] at hk))⟩
end Go.Proofs.YteafdncnnamakaaGreatDoor
