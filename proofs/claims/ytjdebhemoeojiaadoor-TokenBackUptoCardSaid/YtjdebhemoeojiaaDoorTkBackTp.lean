/-
  TokenBackUptoCardSaid: a token says where a receive goes on, at which octet, of which snapshot. Condition: the argument's bulk is at most 1048576 (the card is of the pruned copy of the project that the seat holds).
-/
import Derived.Test.YtjdebhemoeojiaaDoorTkBackWp
import Derived.Test.YtjdebhemoeojiaaDoorTkArg
import Derived.Test.YtjdebhemoeojiaaDoorLaid3
namespace Go.Proofs.YtjdebhemoeojiaaDoor
open Go.ChangeShapes Go.WideShapes Go.ChangeAt Go.RowKit Go.Deep Go.Joins

theorem tokenBack_core (H : Type) (enc : TypeId × Value → H) (W : World) (args : Array Value) (ds : List (DataW H)) (h : ArgsIn enc Tryd.prog W [60] args.toList ds) (hk : Rows.uptoBulkAll ds ≤ 1048576) (hsh : W.ShapedOpen Tryd.prog) :
    LawCalls Tryd.prog 7 args W := by
  obtain ⟨v0, d0, rfl, rfl, h0⟩ := argsIn1 h
  simp only [Rows.uptoBulkAll] at hk
  obtain ⟨x, rfl, hr, hz⟩ := h0.stage (by omega)
  exact tokenBack_any x W hr hz (HasMax.of_shaped hsh)

theorem tokenBack_spec {H : Type} {enc : TypeId × Value → H} (vs : List Value) (ds : List (DataW H)) (W : World) (p : List MemPlace) (h : DataW.TrodAll enc Tryd.prog W 0 (fun _ => true) true [60] vs ds p) :
    (Rows.tokenBackSpec.fn H ds).results = [.lit (.bool true)] ∧ (Rows.tokenBackSpec.fn H ds).args = ds ∧ (Rows.tokenBackSpec.fn H ds).vars = [] := by
  obtain ⟨_, _, d0, ds0, _, _, rfl, rfl, _, _, r0⟩ := trodAll_cons h
  obtain ⟨rfl, rfl, rfl⟩ := trodAll_nil r0
  exact ⟨rfl, rfl, rfl⟩

theorem tokenBack_laid (os : Os) : laidMet Tryd.prog Rows.tokenBackUptoRow.laid ((laidWorld os).forCall (fun _ _ => 0) ⟨#[], #[.agg #[.string ⟨#[]⟩, .int .i64 0, .string ⟨#[]⟩, .int .i64 0, .int .i64 0, .slice none 0 0, .int .i64 0, .int .i64 0, .string ⟨#[]⟩, .int .u64 0, .int .u64 0, .int .u64 0, .int .u64 0, .slice none 0 0, .int .i64 0, .int .i64 0, .int .u64 0, .int .u64 0, .int .u64 0, .int .u64 0, .bool false]], []⟩).memory :=
  laidMet_of_run' 8 (by kernel_rfl) (by kernel_rfl)
theorem tokenBack_reads (os : Os) {H : Type} (enc : TypeId × Value → H) : ∃ places, DataW.whole enc Tryd.prog ((laidWorld os).forCall (fun _ _ => 0) ⟨#[], #[.agg #[.string ⟨#[]⟩, .int .i64 0, .string ⟨#[]⟩, .int .i64 0, .int .i64 0, .slice none 0 0, .int .i64 0, .int .i64 0, .string ⟨#[]⟩, .int .u64 0, .int .u64 0, .int .u64 0, .int .u64 0, .slice none 0 0, .int .i64 0, .int .i64 0, .int .u64 0, .int .u64 0, .int .u64 0, .int .u64 0, .bool false]], []⟩).memory Tryd.f7.params.toList Rows.tokenBackSpec.vars false #[.agg #[.string ⟨#[]⟩, .int .i64 0, .string ⟨#[]⟩, .int .i64 0, .int .i64 0, .slice none 0 0, .int .i64 0, .int .i64 0, .string ⟨#[]⟩, .int .u64 0, .int .u64 0, .int .u64 0, .int .u64 0, .slice none 0 0, .int .i64 0, .int .i64 0, .int .u64 0, .int .u64 0, .int .u64 0, .int .u64 0, .bool false]].toList 8 = some ([.agg [.lit (.string []), .agg [.lit (.int .i64 0), .lit (.string []), .lit (.int .i64 0), .lit (.int .i64 0), .nil, .lit (.int .i64 0), .lit (.int .i64 0), .lit (.string []), .agg [.lit (.int .u64 0), .lit (.int .u64 0), .lit (.int .u64 0), .lit (.int .u64 0)]], .nil, .lit (.int .i64 0), .lit (.int .i64 0), .agg [.lit (.int .u64 0), .lit (.int .u64 0), .lit (.int .u64 0), .lit (.int .u64 0)], .lit (.bool false)]], [], places) :=
  ⟨[], by kernel_rfl⟩
set_option maxRecDepth 100000 in
theorem tokenBack_lifted (os : Os) (started : os.Started) (H : Type) (enc : TypeId × Value → H) (F : Stop.Interp) :
    ReturnsInHanded {} Tryd.checked os 7 .any ((Rows.OpenSpec.upto Rows.tokenBackSpec).preRow enc Tryd.prog Tryd.f7 Rows.tokenBackUptoRow.domain false Rows.tokenBackUptoRow.laid) (((Rows.OpenSpec.upto Rows.tokenBackSpec).at F).post enc Tryd.prog Tryd.f7 false true false false) := by
  obtain ⟨places, hx⟩ := tokenBack_reads os enc
  refine returnsInHanded_of_row (C := Tryd.checked) (s := Rows.OpenSpec.upto Rows.tokenBackSpec) Tryd.own started (by kernel_rfl) Tryd.func7
    (witness_row_at (enc := enc) (C := Tryd.checked) false (laidWorld os) #[.agg #[.string ⟨#[]⟩, .int .i64 0, .string ⟨#[]⟩, .int .i64 0, .int .i64 0, .slice none 0 0, .int .i64 0, .int .i64 0, .string ⟨#[]⟩, .int .u64 0, .int .u64 0, .int .u64 0, .int .u64 0, .slice none 0 0, .int .i64 0, .int .i64 0, .int .u64 0, .int .u64 0, .int .u64 0, .int .u64 0, .bool false]] rfl (by kernel_rfl) (by kernel_rfl) (by kernel_rfl)
      (OpenSpec.preRow_of_cond 8 hx (by kernel_rfl) (fun k hk => by cases hk; kernel_rfl) (by kernel_rfl) (tokenBack_laid os))) ?_
  intro W base args ds gs before hval hW _ hcond hsz _ hshape _
  have hk := hcond _ rfl
  refine law_contract (s := Rows.tokenBackSpec) Tryd.laidOut Tryd.underlying4 (ps := [60]) rfl rfl rfl (by kernel_rfl) tokenBack_spec W base args ds gs before hval hW hsz (fun h hg => ?_)
  subst hg
  exact tokenBack_core H enc W args ds h (of_decide_eq_true (show decide (Rows.uptoBulkAll ds ≤ 1048576) = true from by rw [List.append_nil] at hk; exact hk)) hshape

theorem tokenBack_said : Rows.TokenBackUptoSaid :=
  OpenClaim.holds_of_cond 7 Tryd.f7 rfl rfl rfl rfl rfl rfl rfl ⟨rfl, rfl, rfl, rfl, rfl⟩ rfl rfl rfl rfl rfl (by kernel_rfl) Tryd.func7 (by kernel_rfl)
    (of_decide_eq_true (by kernel_rfl)) (by unfold Func.isWrapper; first | (rw [if_pos (by decide +kernel)]; kernel_rfl) | (rw [if_neg (by decide +kernel)]; exact ⟨rfl, rfl⟩))
    (fun os started H enc _ F => by rw [OpenClaim.pre_eq_preRow]; exact tokenBack_lifted os started H enc F)
theorem tokenBack_plain (f : FuncId) (fn : Func) (hf : Tryd.pinned.checked.prog.funcNamed "godown/godownlaw23.TokenBack" = some f) (hfn : Tryd.pinned.checked.prog.funcs[f]? = some fn) :
    false = Tryd.pinned.checked.prog.looks [] ∧ ∀ (j : Nat) t, fn.params[j]? = some t → Tryd.pinned.checked.prog.wantsStandIn t = false := by
  obtain rfl : f = 7 := Option.some.inj ((show Tryd.prog.funcNamed "godown/godownlaw23.TokenBack" = some 7 by kernel_rfl).symm.trans hf) |>.symm
  obtain rfl : fn = Tryd.f7 := (Option.some.inj (Tryd.func7.symm.trans hfn)).symm
  refine ⟨by kernel_rfl, fun j t ht => ?_⟩
  have hall : (Tryd.f7.params.toList.all fun t => !Tryd.pinned.checked.prog.wantsStandIn t) = true := by kernel_rfl
  have := List.all_eq_true.1 hall t (Array.mem_toList_iff.2 (Array.mem_of_getElem? ht))
  simpa using this
theorem tokenBack_card : Rows.TokenBackUptoCardSaid :=
  Claim7.holds_tied_plain_at .later [] _ _ _ _ tokenBack_said (fun _ h => by cases h) (by kernel_rfl) (fun _ h => by cases h) tokenBackUpto_row_tie rfl ⟨rfl, rfl⟩ (by kernel_rfl) rfl tokenBack_plain (by kernel_rfl)

end Go.Proofs.YtjdebhemoeojiaaDoor
