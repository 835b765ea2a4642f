/-
  SessionOwnUptoCardSaid: the table that is handed in stays; what is told shares nothing with it. Condition: the argument's bulk is at most 1048576 (the card is of the pruned copy of the project that the seat holds).
-/
import Derived.Test.YtjdebhemoeojiaaDoorYOw
import Derived.Test.YtjdebhemoeojiaaDoorYArg
namespace Go.Proofs.YtjdebhemoeojiaaDoor
open Go.ChangeShapes Go.WideShapes Go.ChangeAt Go.RowKit Go.Deep Go.Joins

theorem sessionOwn_core (H : Type) (enc : TypeId × Value → H) (W : World) (args : Array Value) (ds : List (DataW H)) (h : ArgsIn enc Tryd.prog W [25, 9, 9, 3] args.toList ds) (hk : Rows.uptoBulkAll ds ≤ 1048576) (hsh : W.ShapedOpen Tryd.prog) :
    LawCalls Tryd.prog 3 args W := by
  obtain ⟨v0, v1, v2, v3, d0, d1, d2, d3, rfl, rfl, h0, h1, h2, h3⟩ := argsIn4 h
  simp only [Rows.uptoBulkAll] at hk
  obtain ⟨t, rfl, hr, hz, n1, n2⟩ := h0.tab (by omega)
  obtain ⟨x, rfl, b1⟩ := h1.strS
  obtain ⟨z, rfl, b2⟩ := h2.strS
  obtain ⟨n, rfl, _, _⟩ := h3.i64S
  exact sessionOwn_any t x z n W hr hz n1 n2 (by omega) (by omega) (HasMax.of_shaped hsh)

theorem sessionOwn_spec {H : Type} {enc : TypeId × Value → H} (vs : List Value) (ds : List (DataW H)) (W : World) (p : List MemPlace) (h : DataW.TrodAll enc Tryd.prog W 0 (fun _ => true) true [25, 9, 9, 3] vs ds p) :
    (Rows.sessionOwnSpec.fn H ds).results = [.lit (.bool true)] ∧ (Rows.sessionOwnSpec.fn H ds).args = ds ∧ (Rows.sessionOwnSpec.fn H ds).vars = [] := by
  obtain ⟨_, _, d0, ds0, _, _, rfl, rfl, _, _, r0⟩ := trodAll_cons h
  obtain ⟨_, _, d1, ds1, _, _, rfl, rfl, _, _, r1⟩ := trodAll_cons r0
  obtain ⟨_, _, d2, ds2, _, _, rfl, rfl, _, _, r2⟩ := trodAll_cons r1
  obtain ⟨_, _, d3, ds3, _, _, rfl, rfl, _, _, r3⟩ := trodAll_cons r2
  obtain ⟨rfl, rfl, rfl⟩ := trodAll_nil r3
  exact ⟨rfl, rfl, rfl⟩

theorem sessionOwn_laid (os : Os) : laidMet Tryd.prog Rows.sessionOwnUptoRow.laid ((laidWorld os).forCall (fun _ _ => 0) ⟨#[], #[.agg #[.slice none 0 0, .slice none 0 0], .string ⟨#[]⟩, .string ⟨#[]⟩, .int .i64 0], []⟩).memory :=
  laidMet_of_run' 8 (by kernel_rfl) (by kernel_rfl)
theorem sessionOwn_reads (os : Os) {H : Type} (enc : TypeId × Value → H) : ∃ places, DataW.whole enc Tryd.prog ((laidWorld os).forCall (fun _ _ => 0) ⟨#[], #[.agg #[.slice none 0 0, .slice none 0 0], .string ⟨#[]⟩, .string ⟨#[]⟩, .int .i64 0], []⟩).memory Tryd.f3.params.toList Rows.sessionOwnSpec.vars false #[.agg #[.slice none 0 0, .slice none 0 0], .string ⟨#[]⟩, .string ⟨#[]⟩, .int .i64 0].toList 8 = some ([.agg [.nil, .nil], .lit (.string []), .lit (.string []), .lit (.int .i64 0)], [], places) :=
  ⟨[], by kernel_rfl⟩
set_option maxRecDepth 100000 in
theorem sessionOwn_lifted (os : Os) (started : os.Started) (H : Type) (enc : TypeId × Value → H) (F : Stop.Interp) :
    ReturnsInHanded {} Tryd.checked os 3 .any ((Rows.OpenSpec.upto Rows.sessionOwnSpec).preRow enc Tryd.prog Tryd.f3 Rows.sessionOwnUptoRow.domain false Rows.sessionOwnUptoRow.laid) (((Rows.OpenSpec.upto Rows.sessionOwnSpec).at F).post enc Tryd.prog Tryd.f3 false true false false) := by
  obtain ⟨places, hx⟩ := sessionOwn_reads os enc
  refine returnsInHanded_of_row (C := Tryd.checked) (s := Rows.OpenSpec.upto Rows.sessionOwnSpec) Tryd.own started (by kernel_rfl) Tryd.func3
    (witness_row_at (enc := enc) (C := Tryd.checked) false (laidWorld os) #[.agg #[.slice none 0 0, .slice none 0 0], .string ⟨#[]⟩, .string ⟨#[]⟩, .int .i64 0] rfl (by kernel_rfl) (by kernel_rfl) (by kernel_rfl)
      (OpenSpec.preRow_of_cond 8 hx (by kernel_rfl) (fun k hk => by cases hk; kernel_rfl) (by kernel_rfl) (sessionOwn_laid os))) ?_
  intro W base args ds gs before hval hW _ hcond hsz _ hshape _
  have hk := hcond _ rfl
  refine law_contract (s := Rows.sessionOwnSpec) Tryd.laidOut Tryd.underlying4 (ps := [25, 9, 9, 3]) rfl rfl rfl (by kernel_rfl) sessionOwn_spec W base args ds gs before hval hW hsz (fun h hg => ?_)
  subst hg
  exact sessionOwn_core H enc W args ds h (of_decide_eq_true (show decide (Rows.uptoBulkAll ds ≤ 1048576) = true from by rw [List.append_nil] at hk; exact hk)) hshape

theorem sessionOwn_said : Rows.SessionOwnUptoSaid :=
  OpenClaim.holds_of_cond 3 Tryd.f3 rfl rfl rfl rfl rfl rfl rfl ⟨rfl, rfl, rfl, rfl, rfl⟩ rfl rfl rfl rfl rfl (by kernel_rfl) Tryd.func3 (by kernel_rfl)
    (of_decide_eq_true (by kernel_rfl)) (by unfold Func.isWrapper; first | (rw [if_pos (by decide +kernel)]; kernel_rfl) | (rw [if_neg (by decide +kernel)]; exact ⟨rfl, rfl⟩))
    (fun os started H enc _ F => by rw [OpenClaim.pre_eq_preRow]; exact sessionOwn_lifted os started H enc F)
theorem sessionOwn_plain (f : FuncId) (fn : Func) (hf : Tryd.pinned.checked.prog.funcNamed "godown/godownlaw27.SessionOwn" = some f) (hfn : Tryd.pinned.checked.prog.funcs[f]? = some fn) :
    false = Tryd.pinned.checked.prog.looks [] ∧ ∀ (j : Nat) t, fn.params[j]? = some t → Tryd.pinned.checked.prog.wantsStandIn t = false := by
  obtain rfl : f = 3 := Option.some.inj ((show Tryd.prog.funcNamed "godown/godownlaw27.SessionOwn" = some 3 by kernel_rfl).symm.trans hf) |>.symm
  obtain rfl : fn = Tryd.f3 := (Option.some.inj (Tryd.func3.symm.trans hfn)).symm
  refine ⟨by kernel_rfl, fun j t ht => ?_⟩
  have hall : (Tryd.f3.params.toList.all fun t => !Tryd.pinned.checked.prog.wantsStandIn t) = true := by kernel_rfl
  have := List.all_eq_true.1 hall t (Array.mem_toList_iff.2 (Array.mem_of_getElem? ht))
  simpa using this
theorem sessionOwn_card : Rows.SessionOwnUptoCardSaid :=
  Claim7.holds_tied_plain_at .later [] _ _ _ _ sessionOwn_said (fun _ h => by cases h) (by kernel_rfl) (fun _ h => by cases h) sessionOwnUpto_row_tie rfl ⟨rfl, rfl⟩ (by kernel_rfl) rfl sessionOwn_plain (by kernel_rfl)

end Go.Proofs.YtjdebhemoeojiaaDoor
