/-
  The law's num, alive; the walk of the law PermsOwner.
-/
import Derived.Test.YtodikfhaghpkhaaDoorPmAllow
namespace Go.Proofs.YtodikfhaghpkhaaDoor
open Go.RowKit

set_option maxRecDepth 100000 in
theorem num13_any (n : Int) (w : World) : Calls Tryd.prog 14 #[.int .i64 n] w fun e w' => e = .returned (.int .i64 n) ∧ w' = w := by
  go_enter Tryd.func14, Tryd.ntmps14
  go_wp2_with fail
  go_ret
  exact ⟨rfl, rfl⟩
def aliveG : GL := [([117], [97], 1)]
theorem alive_allow : allowE [] [117] [97] 1 = 0 ∧ allowL [] [117] [97] 1 = aliveG := by
  constructor
  · decide +kernel
  · rfl
theorem alive_may : mayG aliveG [117] [97, 47, 98] 1 = true ∧ mayG aliveG [117] [98] 1 = false := by
  constructor <;> decide +kernel
theorem alive_len : lenG aliveG := by
  intro x hx
  rw [aliveG, List.mem_singleton] at hx
  subst hx
  exact ⟨by decide, by decide⟩
set_option maxRecDepth 100000 in
set_option maxHeartbeats 1000000 in
theorem alive13_any (w : World) (hmx : HasMax w) : Calls Tryd.prog 12 #[] w fun e w' => e = .returned (.bool true) ∧ Below w.heap.size w w' := by
  have hal := allowG_any [] [117] [97] 1 0 rfl none 0 w 0 Reads.none_ (Nat.zero_le _) (by omega) (fun x hx => by cases hx) (by decide) hmx
  rw [alive_allow.1, alive_allow.2] at hal
  go_enter Tryd.func12, Tryd.ntmps12
  go_wp2_with fail
  refine hal.mono ?_
  clear hal
  rintro e w1 ⟨v, rfl, hown, hb1⟩
  rw [if_pos rfl] at hown
  obtain ⟨A1, c1, rfl, _, _, hr1⟩ := own_form hown
  have hm1 := hmx.below hb1
  have h1 := Lib.hid (mayG_any aliveG [117] [97, 47, 98] 1 1 rfl A1 c1 w1 _ hr1 (Nat.le_refl _) (by omega) alive_len (by decide) hm1)
  have h2 := Lib.hid (fun w2 (hb2 : Below w1.heap.size w1 w2) => mayG_any aliveG [117] [98] 1 1 rfl A1 c1 w2 _ (hr1.below hb2) hb2.size (by omega) alive_len (by decide) (hm1.below hb2))
  rw [alive_may.1] at h1
  rw [alive_may.2] at h2
  clear hown hr1
  go_wp2_with fail
  refine (num13_any _ _).mono ?_
  rintro e w2 ⟨rfl, rfl⟩
  go_wp2_with fail
  refine h1.out.mono ?_
  clear h1
  rintro e w3 ⟨rfl, hb3⟩
  go_wp2_with fail
  refine (h2.out _ hb3).mono ?_
  clear h2
  rintro e w4 ⟨rfl, hb4⟩
  have hb := hb1.trans (hb3.mono hb1.size)
  have hbb := hb.trans (hb4.mono hb.size)
  clear hb1 hb3 hb4 hb
  go_wp2_with fail
  go_ret
  exact ⟨rfl, hbb⟩
set_option maxRecDepth 100000 in
theorem ofRoot_any (A : Option Addr) (n c : Nat) (pl : BS) (w : World) : Calls Tryd.prog 15 #[.slice A n c, .string ⟨#[]⟩, .string ⟨pl.toArray⟩] w fun e w' => e = .returned (.int .i64 255) ∧ w' = w := by
  go_enter Tryd.func15, Tryd.ntmps15
  go_wp2_with fail
  go_ret
  exact ⟨rfl, rfl⟩
set_option maxRecDepth 100000 in
theorem ofNil_any (u pl : BS) (hu : u ≠ []) (w : World) : Calls Tryd.prog 15 #[.slice none 0 0, .string ⟨u.toArray⟩, .string ⟨pl.toArray⟩] w fun e w' => e = .returned (.int .i64 0) ∧ w' = w := by
  have hu1 : (u == []) = false := by simpa using hu
  have hu2 : u.isEmpty = false := by cases u <;> simp_all
  go_enter Tryd.func15, Tryd.ntmps15
  go_wp2_with fail
  refine wp_loop_rounds 1 ?_
  rw [rounds_succ]
  go_wp2_with fail
  go_ret
  exact ⟨rfl, rfl⟩
set_option maxRecDepth 100000 in
theorem mayRoot_any (A : Option Addr) (n c : Nat) (pl : BS) (need : Int) (w : World) :
    Calls Tryd.prog 17 #[.slice A n c, .string ⟨#[]⟩, .string ⟨pl.toArray⟩, .int .i64 need] w fun e w' => e = .returned (.bool (decide (0 ≤ need) && decide (need ≤ 255))) ∧ w' = w := by
  obtain ⟨V, hV⟩ : ∃ V, V = (decide (0 ≤ need) && decide (need ≤ 255)) := ⟨_, rfl⟩
  rw [← hV]
  have HVV := Lib.hid hV
  clear hV
  by_cases h0 : 0 ≤ need
  · by_cases h1 : need ≤ 255
    · have hand : bits .and .i64 255 need = need := by
        obtain ⟨k, rfl⟩ : ∃ k : Nat, need = (k : Int) := ⟨need.toNat, by omega⟩
        exact and_all k (by omega)
      have HV : Hid (V = true) := by show _ = _; rw [HVV.out]; simp [h0, h1]
      have HA := Lib.hid hand
      go_enter Tryd.func17, Tryd.ntmps17
      clear hand
      go_wp2_with fail
      refine (ofRoot_any A n c pl _).mono ?_
      rintro e w1 ⟨rfl, rfl⟩
      go_wp2_with fail
      all_goals go_ret
      all_goals refine ⟨congrArg Ending.returned (congrArg Value.bool ?_), rfl⟩
      all_goals rw [HV.out]
      all_goals have := HA.out
      all_goals simp_all
    · have HV : Hid (V = false) := by show _ = _; rw [HVV.out]; simp [h1]
      go_enter Tryd.func17, Tryd.ntmps17
      go_wp2_with fail
      go_ret
      exact ⟨by rw [HV.out]; rfl, rfl⟩
  · have HV : Hid (V = false) := by show _ = _; rw [HVV.out]; simp [h0]
    go_enter Tryd.func17, Tryd.ntmps17
    go_wp2_with fail
    go_ret
    exact ⟨by rw [HV.out]; rfl, rfl⟩
set_option maxRecDepth 100000 in
set_option maxHeartbeats 1000000 in
theorem permsOwner_any (u pl : BS) (need : Int) (n : Nat) (A : Option Addr) (c : Nat) (w : World) (hmx : HasMax w) :
    Calls Tryd.prog 5 #[.slice A n c, .string ⟨u.toArray⟩, .string ⟨pl.toArray⟩, .int .i64 need] w fun e w' => e = .returned (.bool true) ∧ Below w.heap.size w w' := by
  have hmy := mayRoot_any A n c pl need w
  have hcases : (0 ≤ need ∧ need ≤ 255) ∨ (0 ≤ need ∧ ¬ need ≤ 255) ∨ ¬ 0 ≤ need := by omega
  by_cases hu : u = []
  · subst hu
    rcases hcases with ⟨h0, h1⟩ | ⟨h0, h1⟩ | h0
    all_goals
      go_enter Tryd.func5, Tryd.ntmps5
      go_wp2_with fail
      refine hmy.mono ?_
      clear hmy
      rintro e w1 ⟨rfl, rfl⟩
      go_wp2_with fail
      refine (alive13_any _ hmx).mono ?_
      rintro e w2 ⟨rfl, hb2⟩
      go_wp2_with fail
      go_ret
      exact ⟨rfl, hb2⟩
  · have hu2 : u.isEmpty = false := by cases u <;> simp_all
    have HU := Lib.hid hu
    rcases hcases with ⟨h0, h1⟩ | ⟨h0, h1⟩ | h0
    all_goals
      go_enter Tryd.func5, Tryd.ntmps5
      go_wp2_with fail
      refine hmy.mono ?_
      clear hmy
      rintro e w1 ⟨rfl, rfl⟩
      go_wp2_with fail
      refine (ofNil_any u pl HU.out _).mono ?_
      rintro e w2 ⟨rfl, rfl⟩
      go_wp2_with fail
      refine (alive13_any _ hmx).mono ?_
      rintro e w3 ⟨rfl, hb3⟩
      go_wp2_with fail
      go_ret
      exact ⟨rfl, hb3⟩
end Go.Proofs.YtodikfhaghpkhaaDoor
