/-
  SessionMayUptoCardSaid: tables that come of one that may be may be; a handle is never given twice. Condition: the argument's bulk is at most 1048576 (the card is of the pruned copy of the project that the seat holds).
-/
import Derived.Test.YtcoaaljgaooeoaaDoorYLaw
import Derived.Test.YtcoaaljgaooeoaaDoorYArg
namespace Go.Proofs.YtcoaaljgaooeoaaDoor
open Go.ChangeShapes Go.WideShapes Go.ChangeAt Go.RowKit Go.Deep Go.Joins

theorem sessionMay_core (H : Type) (enc : TypeId × Value → H) (W : World) (args : Array Value) (ds : List (DataW H)) (h : ArgsIn enc Tryd.prog W [25, 9, 9, 9] args.toList ds) (hk : Rows.uptoBulkAll ds ≤ 1048576) (hsh : W.ShapedOpen Tryd.prog) :
    LawCalls Tryd.prog 5 args W := by
  obtain ⟨v0, v1, v2, v3, d0, d1, d2, d3, rfl, rfl, h0, h1, h2, h3⟩ := argsIn4 h
  simp only [Rows.uptoBulkAll] at hk
  obtain ⟨t, rfl, hr, hz, n1, n2⟩ := h0.tab (by omega)
  obtain ⟨x, rfl, b1⟩ := h1.strS
  obtain ⟨z, rfl, b2⟩ := h2.strS
  obtain ⟨o, rfl, b3⟩ := h3.strS
  exact sessionMay_any t x z o W hr hz n1 n2 (by omega) (by omega) (by omega) (HasMax.of_shaped hsh)

theorem sessionMay_spec {H : Type} {enc : TypeId × Value → H} (vs : List Value) (ds : List (DataW H)) (W : World) (p : List MemPlace) (h : DataW.TrodAll enc Tryd.prog W 0 (fun _ => true) true [25, 9, 9, 9] vs ds p) :
    (Rows.sessionMaySpec.fn H ds).results = [.lit (.bool true)] ∧ (Rows.sessionMaySpec.fn H ds).args = ds ∧ (Rows.sessionMaySpec.fn H ds).vars = [] := by
  obtain ⟨_, _, d0, ds0, _, _, rfl, rfl, _, _, r0⟩ := trodAll_cons h
  obtain ⟨_, _, d1, ds1, _, _, rfl, rfl, _, _, r1⟩ := trodAll_cons r0
  obtain ⟨_, _, d2, ds2, _, _, rfl, rfl, _, _, r2⟩ := trodAll_cons r1
  obtain ⟨_, _, d3, ds3, _, _, rfl, rfl, _, _, r3⟩ := trodAll_cons r2
  obtain ⟨rfl, rfl, rfl⟩ := trodAll_nil r3
  exact ⟨rfl, rfl, rfl⟩

theorem sessionMay_laid (os : Os) : laidMet Tryd.prog Rows.sessionMayUptoRow.laid ((laidWorld os).forCall (fun _ _ => 0) ⟨#[], #[.agg #[.slice none 0 0, .slice none 0 0], .string ⟨#[]⟩, .string ⟨#[]⟩, .string ⟨#[]⟩], []⟩).memory :=
  laidMet_of_run' 8 (by kernel_rfl) (by kernel_rfl)
theorem sessionMay_reads (os : Os) {H : Type} (enc : TypeId × Value → H) : ∃ places, DataW.whole enc Tryd.prog ((laidWorld os).forCall (fun _ _ => 0) ⟨#[], #[.agg #[.slice none 0 0, .slice none 0 0], .string ⟨#[]⟩, .string ⟨#[]⟩, .string ⟨#[]⟩], []⟩).memory Tryd.f5.params.toList Rows.sessionMaySpec.vars false #[.agg #[.slice none 0 0, .slice none 0 0], .string ⟨#[]⟩, .string ⟨#[]⟩, .string ⟨#[]⟩].toList 8 = some ([.agg [.nil, .nil], .lit (.string []), .lit (.string []), .lit (.string [])], [], places) :=
  ⟨[], by kernel_rfl⟩
set_option maxRecDepth 100000 in
theorem sessionMay_lifted (os : Os) (started : os.Started) (H : Type) (enc : TypeId × Value → H) (F : Stop.Interp) :
    ReturnsInHanded {} Tryd.checked os 5 .any ((Rows.OpenSpec.upto Rows.sessionMaySpec).preRow enc Tryd.prog Tryd.f5 Rows.sessionMayUptoRow.domain false Rows.sessionMayUptoRow.laid) (((Rows.OpenSpec.upto Rows.sessionMaySpec).at F).post enc Tryd.prog Tryd.f5 false true false false) := by
  obtain ⟨places, hx⟩ := sessionMay_reads os enc
  refine returnsInHanded_of_row (C := Tryd.checked) (s := Rows.OpenSpec.upto Rows.sessionMaySpec) Tryd.own started (by kernel_rfl) Tryd.func5
    (witness_row_at (enc := enc) (C := Tryd.checked) false (laidWorld os) #[.agg #[.slice none 0 0, .slice none 0 0], .string ⟨#[]⟩, .string ⟨#[]⟩, .string ⟨#[]⟩] rfl (by kernel_rfl) (by kernel_rfl) (by kernel_rfl)
      (OpenSpec.preRow_of_cond 8 hx (by kernel_rfl) (fun k hk => by cases hk; kernel_rfl) (by kernel_rfl) (sessionMay_laid os))) ?_
  intro W base args ds gs before hval hW _ hcond hsz _ hshape _
  have hk := hcond _ rfl
  refine law_contract (s := Rows.sessionMaySpec) Tryd.laidOut Tryd.underlying4 (ps := [25, 9, 9, 9]) rfl rfl rfl (by kernel_rfl) sessionMay_spec W base args ds gs before hval hW hsz (fun h hg => ?_)
  subst hg
  exact sessionMay_core H enc W args ds h (of_decide_eq_true (show decide (Rows.uptoBulkAll ds ≤ 1048576) = true from by rw [List.append_nil] at hk; exact hk)) hshape

theorem sessionMay_said : Rows.SessionMayUptoSaid :=
  OpenClaim.holds_of_cond 5 Tryd.f5 rfl rfl rfl rfl rfl rfl rfl ⟨rfl, rfl, rfl, rfl, rfl⟩ rfl rfl rfl rfl rfl (by kernel_rfl) Tryd.func5 (by kernel_rfl)
    (of_decide_eq_true (by kernel_rfl)) (by unfold Func.isWrapper; first | (rw [if_pos (by decide +kernel)]; kernel_rfl) | (rw [if_neg (by decide +kernel)]; exact ⟨rfl, rfl⟩))
    (fun os started H enc _ F => by rw [OpenClaim.pre_eq_preRow]; exact sessionMay_lifted os started H enc F)
theorem sessionMay_plain (f : FuncId) (fn : Func) (hf : Tryd.pinned.checked.prog.funcNamed "godown/godownlaw27.SessionMay" = some f) (hfn : Tryd.pinned.checked.prog.funcs[f]? = some fn) :
    false = Tryd.pinned.checked.prog.looks [] ∧ ∀ (j : Nat) t, fn.params[j]? = some t → Tryd.pinned.checked.prog.wantsStandIn t = false := by
  obtain rfl : f = 5 := Option.some.inj ((show Tryd.prog.funcNamed "godown/godownlaw27.SessionMay" = some 5 by kernel_rfl).symm.trans hf) |>.symm
  obtain rfl : fn = Tryd.f5 := (Option.some.inj (Tryd.func5.symm.trans hfn)).symm
  refine ⟨by kernel_rfl, fun j t ht => ?_⟩
  have hall : (Tryd.f5.params.toList.all fun t => !Tryd.pinned.checked.prog.wantsStandIn t) = true := by kernel_rfl
  have := List.all_eq_true.1 hall t (Array.mem_toList_iff.2 (Array.mem_of_getElem? ht))
  simpa using this
theorem sessionMay_card : Rows.SessionMayUptoCardSaid :=
  Claim7.holds_tied_plain_at .later [] _ _ _ _ sessionMay_said (fun _ h => by cases h) (by kernel_rfl) (fun _ h => by cases h) sessionMayUpto_row_tie rfl ⟨rfl, rfl⟩ (by kernel_rfl) rfl sessionMay_plain (by kernel_rfl)

end Go.Proofs.YtcoaaljgaooeoaaDoor
