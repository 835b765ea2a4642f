/-
  TreeInheritsUptoCardSaid: a set has each property of its own, and of those that it has none of its own what the one that it stands under has. Condition: the arguments' bulk is at most 1048576 (the card is of the pruned copy of the project that the seat holds).
-/
import Derived.Test.YtbppdlhbjddhjaaGreatDoorYInh
import Derived.Test.YtbppdlhbjddhjaaGreatDoorYArg
namespace Go.Proofs.YtbppdlhbjddhjaaGreatDoor
open Go.ChangeShapes Go.WideShapes Go.ChangeAt Go.RowKit Go.Deep Go.Joins

theorem ArgIn.txt {H : Type} {enc : TypeId × Value → H} {W : World} {d : DataW H} {v : Value} (h : ArgIn enc Tryz.prog W 9 v d) : ∃ s : BS, v = .string ⟨s.toArray⟩ ∧ s.length + 1 ≤ Rows.uptoBulk d := by
  obtain ⟨s, rfl, _, rfl⟩ := h.string Tryz.underlying9
  exact ⟨s.data.toList, by simp, by simp [Rows.uptoBulk]⟩
theorem treeInherits_core (H : Type) (enc : TypeId × Value → H) (W : World) (args : Array Value) (ds : List (DataW H)) (h : ArgsIn enc Tryz.prog W [27, 9, 9] args.toList ds) (hk : Rows.uptoBulkAll ds ≤ 1048576) (hsh : W.ShapedOpen Tryz.prog) :
    LawCalls Tryz.prog 6 args W := by
  obtain ⟨v0, _, d0, _, e0, rfl, a0, k1⟩ := argsIn_cons h
  obtain ⟨v1, _, d1, _, e1, rfl, a1, k2⟩ := argsIn_cons k1
  obtain ⟨v2, _, d2, _, e2, rfl, a2, k3⟩ := argsIn_cons k2
  obtain ⟨rfl, rfl⟩ := argsIn_nil k3
  obtain rfl : args = #[v0, v1, v2] := by apply Array.toList_inj.1; rw [e0, e1, e2]
  simp only [Rows.uptoBulkAll] at hk
  obtain ⟨t, rfl, hr, hz⟩ := a0.ten (by omega)
  obtain ⟨p, rfl, hp⟩ := a1.txt
  obtain ⟨n, rfl, hn⟩ := a2.txt
  exact treeInherits_any t p n W hr hz (by omega) (HasMax.of_shaped hsh)


theorem treeInherits_spec {H : Type} {enc : TypeId × Value → H} (vs : List Value) (ds : List (DataW H)) (W : World) (p : List MemPlace) (h : DataW.TrodAll enc Tryz.prog W 0 (fun _ => true) true [27, 9, 9] vs ds p) :
    (Rows.treeInheritsSpec.fn H ds).results = [.lit (.bool true)] ∧ (Rows.treeInheritsSpec.fn H ds).args = ds ∧ (Rows.treeInheritsSpec.fn H ds).vars = [] := by
  obtain ⟨_, _, d0, ds0, _, _, rfl, rfl, _, _, r0⟩ := trodAll_cons h
  obtain ⟨_, _, d1, ds1, _, _, rfl, rfl, _, _, r1⟩ := trodAll_cons r0
  obtain ⟨_, _, d2, ds2, _, _, rfl, rfl, _, _, r2⟩ := trodAll_cons r1
  obtain ⟨rfl, rfl, rfl⟩ := trodAll_nil r2
  exact ⟨rfl, rfl, rfl⟩

theorem treeInherits_laid (os : Os) : laidMet Tryz.prog Rows.treeInheritsUptoRow.laid ((laidWorld os).forCall (fun _ _ => 0) ⟨#[], #[.agg #[.string ⟨#[]⟩, .int .i64 0, .int .i64 0, .slice none 0 0, .slice none 0 0, .slice none 0 0, .slice none 0 0], .string ⟨#[]⟩, .string ⟨#[]⟩], []⟩).memory :=
  laidMet_of_run' 8 (by kernel_rfl) (by kernel_rfl)
theorem treeInherits_reads (os : Os) {H : Type} (enc : TypeId × Value → H) : ∃ places, DataW.whole enc Tryz.prog ((laidWorld os).forCall (fun _ _ => 0) ⟨#[], #[.agg #[.string ⟨#[]⟩, .int .i64 0, .int .i64 0, .slice none 0 0, .slice none 0 0, .slice none 0 0, .slice none 0 0], .string ⟨#[]⟩, .string ⟨#[]⟩], []⟩).memory Tryz.f6.params.toList Rows.treeInheritsSpec.vars false #[.agg #[.string ⟨#[]⟩, .int .i64 0, .int .i64 0, .slice none 0 0, .slice none 0 0, .slice none 0 0, .slice none 0 0], .string ⟨#[]⟩, .string ⟨#[]⟩].toList 8 = some ([.agg [.lit (.string []), .lit (.int .i64 0), .lit (.int .i64 0), .nil, .nil, .nil, .nil], .lit (.string []), .lit (.string [])], [], places) :=
  ⟨[], by kernel_rfl⟩
set_option maxRecDepth 100000 in
theorem treeInherits_lifted (os : Os) (started : os.Started) (H : Type) (enc : TypeId × Value → H) (F : Stop.Interp) :
    ReturnsInHanded {} Tryz.checked os 6 .any ((Rows.OpenSpec.upto Rows.treeInheritsSpec).preRow enc Tryz.prog Tryz.f6 Rows.treeInheritsUptoRow.domain false Rows.treeInheritsUptoRow.laid) (((Rows.OpenSpec.upto Rows.treeInheritsSpec).at F).post enc Tryz.prog Tryz.f6 false true false false) := by
  obtain ⟨places, hx⟩ := treeInherits_reads os enc
  refine returnsInHanded_of_row (C := Tryz.checked) (s := Rows.OpenSpec.upto Rows.treeInheritsSpec) Tryz.own started (by kernel_rfl) Tryz.func6
    (witness_row_at (enc := enc) (C := Tryz.checked) false (laidWorld os) #[.agg #[.string ⟨#[]⟩, .int .i64 0, .int .i64 0, .slice none 0 0, .slice none 0 0, .slice none 0 0, .slice none 0 0], .string ⟨#[]⟩, .string ⟨#[]⟩] rfl (by kernel_rfl) (by kernel_rfl) (by kernel_rfl)
      (OpenSpec.preRow_of_cond 8 hx (by kernel_rfl) (fun k hk => by cases hk; kernel_rfl) (by kernel_rfl) (treeInherits_laid os))) ?_
  intro W base args ds gs before hval hW _ hcond hsz _ hshape _
  have hk := hcond _ rfl
  refine law_contract (s := Rows.treeInheritsSpec) Tryz.laidOut Tryz.underlying4 (ps := [27, 9, 9]) rfl rfl rfl (by kernel_rfl) treeInherits_spec W base args ds gs before hval hW hsz (fun h hg => ?_)
  subst hg
  exact treeInherits_core H enc W args ds h (of_decide_eq_true (show decide (Rows.uptoBulkAll ds ≤ 1048576) = true from by rw [List.append_nil] at hk; exact hk)) hshape

theorem treeInherits_said : Rows.TreeInheritsUptoSaid :=
  OpenClaim.holds_of_cond 6 Tryz.f6 rfl rfl rfl rfl rfl rfl rfl ⟨rfl, rfl, rfl, rfl, rfl⟩ rfl rfl rfl rfl rfl (by kernel_rfl) Tryz.func6 (by kernel_rfl)
    (of_decide_eq_true (by kernel_rfl)) (by unfold Func.isWrapper; first | (rw [if_pos (by decide +kernel)]; kernel_rfl) | (rw [if_neg (by decide +kernel)]; exact ⟨rfl, rfl⟩))
    (fun os started H enc _ F => by rw [OpenClaim.pre_eq_preRow]; exact treeInherits_lifted os started H enc F)
theorem treeInherits_plain (f : FuncId) (fn : Func) (hf : Tryz.pinned.checked.prog.funcNamed "godown/godownlaw14.TreeInherits" = some f) (hfn : Tryz.pinned.checked.prog.funcs[f]? = some fn) :
    false = Tryz.pinned.checked.prog.looks [] ∧ ∀ (j : Nat) t, fn.params[j]? = some t → Tryz.pinned.checked.prog.wantsStandIn t = false := by
  obtain rfl : f = 6 := Option.some.inj ((show Tryz.prog.funcNamed "godown/godownlaw14.TreeInherits" = some 6 by kernel_rfl).symm.trans hf) |>.symm
  obtain rfl : fn = Tryz.f6 := (Option.some.inj (Tryz.func6.symm.trans hfn)).symm
  refine ⟨by kernel_rfl, fun j t ht => ?_⟩
  have hall : (Tryz.f6.params.toList.all fun t => !Tryz.pinned.checked.prog.wantsStandIn t) = true := by kernel_rfl
  have := List.all_eq_true.1 hall t (Array.mem_toList_iff.2 (Array.mem_of_getElem? ht))
  simpa using this
theorem treeInherits_card : Rows.TreeInheritsUptoCardSaid :=
  Claim7.holds_tied_plain_at .later [] _ _ _ _ treeInherits_said (fun _ h => by cases h) (by kernel_rfl) (fun _ h => by cases h) treeInheritsUpto_row_tie rfl ⟨rfl, rfl⟩ (by kernel_rfl) rfl treeInherits_plain (by kernel_rfl)

end Go.Proofs.YtbppdlhbjddhjaaGreatDoor
