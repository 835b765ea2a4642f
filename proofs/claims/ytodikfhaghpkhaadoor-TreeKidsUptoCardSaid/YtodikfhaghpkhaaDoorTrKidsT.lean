/-
  TreeKidsUptoCardSaid: of a tenant that may be each set but the root stands under just one. Condition: the argument's bulk is at most 1048576 (the card is of the pruned copy of the project that the seat holds).
-/
import Derived.Test.YtodikfhaghpkhaaDoorTrLaw
import Derived.Test.YtodikfhaghpkhaaDoorTrArg
import Derived.Test.YtodikfhaghpkhaaDoorLaid3
namespace Go.Proofs.YtodikfhaghpkhaaDoor
open Go.ChangeShapes Go.WideShapes Go.ChangeAt Go.RowKit Go.Deep Go.Joins

theorem treeKids_core (H : Type) (enc : TypeId × Value → H) (W : World) (args : Array Value) (ds : List (DataW H)) (h : ArgsIn enc Tryd.prog W [27] args.toList ds) (hk : Rows.uptoBulkAll ds ≤ 1048576) (hsh : W.ShapedOpen Tryd.prog) :
    LawCalls Tryd.prog 3 args W := by
  obtain ⟨v0, _, d0, _, e0, rfl, h0, h1⟩ := argsIn_cons h
  obtain ⟨rfl, rfl⟩ := argsIn_nil h1
  obtain rfl : args = #[v0] := by apply Array.toList_inj.1; simpa using e0
  simp only [Rows.uptoBulkAll] at hk
  obtain ⟨t, rfl, hr, hz⟩ := h0.ten (by omega)
  exact treeKids_any t W hr hz (HasMax.of_shaped hsh)

theorem treeKids_spec {H : Type} {enc : TypeId × Value → H} (vs : List Value) (ds : List (DataW H)) (W : World) (p : List MemPlace) (h : DataW.TrodAll enc Tryd.prog W 0 (fun _ => true) true [27] vs ds p) :
    (Rows.treeKidsSpec.fn H ds).results = [.lit (.bool true)] ∧ (Rows.treeKidsSpec.fn H ds).args = ds ∧ (Rows.treeKidsSpec.fn H ds).vars = [] := by
  obtain ⟨_, _, d0, ds0, _, _, rfl, rfl, _, _, r0⟩ := trodAll_cons h
  obtain ⟨rfl, rfl, rfl⟩ := trodAll_nil r0
  exact ⟨rfl, rfl, rfl⟩

theorem treeKids_laid (os : Os) : laidMet Tryd.prog Rows.treeKidsUptoRow.laid ((laidWorld os).forCall (fun _ _ => 0) ⟨#[], #[.agg #[.string ⟨#[]⟩, .int .i64 0, .int .i64 0, .slice none 0 0, .slice none 0 0, .slice none 0 0, .slice none 0 0]], []⟩).memory :=
  laidMet_of_run' 8 (by kernel_rfl) (by kernel_rfl)
theorem treeKids_reads (os : Os) {H : Type} (enc : TypeId × Value → H) : ∃ places, DataW.whole enc Tryd.prog ((laidWorld os).forCall (fun _ _ => 0) ⟨#[], #[.agg #[.string ⟨#[]⟩, .int .i64 0, .int .i64 0, .slice none 0 0, .slice none 0 0, .slice none 0 0, .slice none 0 0]], []⟩).memory Tryd.f3.params.toList Rows.treeKidsSpec.vars false #[.agg #[.string ⟨#[]⟩, .int .i64 0, .int .i64 0, .slice none 0 0, .slice none 0 0, .slice none 0 0, .slice none 0 0]].toList 8 = some ([.agg [.lit (.string []), .lit (.int .i64 0), .lit (.int .i64 0), .nil, .nil, .nil, .nil]], [], places) :=
  ⟨[], by kernel_rfl⟩
set_option maxRecDepth 100000 in
theorem treeKids_lifted (os : Os) (started : os.Started) (H : Type) (enc : TypeId × Value → H) (F : Stop.Interp) :
    ReturnsInHanded {} Tryd.checked os 3 .any ((Rows.OpenSpec.upto Rows.treeKidsSpec).preRow enc Tryd.prog Tryd.f3 Rows.treeKidsUptoRow.domain false Rows.treeKidsUptoRow.laid) (((Rows.OpenSpec.upto Rows.treeKidsSpec).at F).post enc Tryd.prog Tryd.f3 false true false false) := by
  obtain ⟨places, hx⟩ := treeKids_reads os enc
  refine returnsInHanded_of_row (C := Tryd.checked) (s := Rows.OpenSpec.upto Rows.treeKidsSpec) Tryd.own started (by kernel_rfl) Tryd.func3
    (witness_row_at (enc := enc) (C := Tryd.checked) false (laidWorld os) #[.agg #[.string ⟨#[]⟩, .int .i64 0, .int .i64 0, .slice none 0 0, .slice none 0 0, .slice none 0 0, .slice none 0 0]] rfl (by kernel_rfl) (by kernel_rfl) (by kernel_rfl)
      (OpenSpec.preRow_of_cond 8 hx (by kernel_rfl) (fun k hk => by cases hk; kernel_rfl) (by kernel_rfl) (treeKids_laid os))) ?_
  intro W base args ds gs before hval hW _ hcond hsz _ hshape _
  have hk := hcond _ rfl
  refine law_contract (s := Rows.treeKidsSpec) Tryd.laidOut Tryd.underlying4 (ps := [27]) rfl rfl rfl (by kernel_rfl) treeKids_spec W base args ds gs before hval hW hsz (fun h hg => ?_)
  subst hg
  exact treeKids_core H enc W args ds h (of_decide_eq_true (show decide (Rows.uptoBulkAll ds ≤ 1048576) = true from by rw [List.append_nil] at hk; exact hk)) hshape

theorem treeKids_said : Rows.TreeKidsUptoSaid :=
  OpenClaim.holds_of_cond 3 Tryd.f3 rfl rfl rfl rfl rfl rfl rfl ⟨rfl, rfl, rfl, rfl, rfl⟩ rfl rfl rfl rfl rfl (by kernel_rfl) Tryd.func3 (by kernel_rfl)
    (of_decide_eq_true (by kernel_rfl)) (by unfold Func.isWrapper; first | (rw [if_pos (by decide +kernel)]; kernel_rfl) | (rw [if_neg (by decide +kernel)]; exact ⟨rfl, rfl⟩))
    (fun os started H enc _ F => by rw [OpenClaim.pre_eq_preRow]; exact treeKids_lifted os started H enc F)
theorem treeKids_plain (f : FuncId) (fn : Func) (hf : Tryd.pinned.checked.prog.funcNamed "godown/godownlaw14.TreeKids" = some f) (hfn : Tryd.pinned.checked.prog.funcs[f]? = some fn) :
    false = Tryd.pinned.checked.prog.looks [] ∧ ∀ (j : Nat) t, fn.params[j]? = some t → Tryd.pinned.checked.prog.wantsStandIn t = false := by
  obtain rfl : f = 3 := Option.some.inj ((show Tryd.prog.funcNamed "godown/godownlaw14.TreeKids" = some 3 by kernel_rfl).symm.trans hf) |>.symm
  obtain rfl : fn = Tryd.f3 := (Option.some.inj (Tryd.func3.symm.trans hfn)).symm
  refine ⟨by kernel_rfl, fun j t ht => ?_⟩
  have hall : (Tryd.f3.params.toList.all fun t => !Tryd.pinned.checked.prog.wantsStandIn t) = true := by kernel_rfl
  have := List.all_eq_true.1 hall t (Array.mem_toList_iff.2 (Array.mem_of_getElem? ht))
  simpa using this
theorem treeKids_card : Rows.TreeKidsUptoCardSaid :=
  Claim7.holds_tied_plain_at .later [] _ _ _ _ treeKids_said (fun _ h => by cases h) (by kernel_rfl) (fun _ h => by cases h) treeKidsUpto_row_tie rfl ⟨rfl, rfl⟩ (by kernel_rfl) rfl treeKids_plain (by kernel_rfl)

end Go.Proofs.YtodikfhaghpkhaaDoor
