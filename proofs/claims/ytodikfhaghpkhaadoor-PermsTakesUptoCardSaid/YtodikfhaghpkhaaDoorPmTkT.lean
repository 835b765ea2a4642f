/-
  PermsTakesUptoCardSaid: rights that are given and taken away again where there were none are as they were; grants stay ones that may be. Condition: the argument's bulk is at most 1048576 (the card is of the pruned copy of the project that the seat holds).
-/
import Derived.Test.YtodikfhaghpkhaaDoorPmTk
import Derived.Test.YtodikfhaghpkhaaDoorPmArg
import Derived.Test.YtodikfhaghpkhaaDoorLaid3
namespace Go.Proofs.YtodikfhaghpkhaaDoor
open Go.ChangeShapes Go.WideShapes Go.ChangeAt Go.RowKit Go.Deep Go.Joins

theorem permsTakes_core (H : Type) (enc : TypeId × Value → H) (W : World) (args : Array Value) (ds : List (DataW H)) (h : ArgsIn enc Tryd.prog W [23, 9, 9, 3] args.toList ds) (hk : Rows.uptoBulkAll ds ≤ 1048576) (hsh : W.ShapedOpen Tryd.prog) :
    LawCalls Tryd.prog 6 args W := by
  obtain ⟨v0, v1, v2, v3, d0, d1, d2, d3, rfl, rfl, h0, h1, h2, h3⟩ := argsIn4 h
  simp only [Rows.uptoBulkAll] at hk
  obtain ⟨A, l, n, c, rfl, hn, _, hK, hr, hl⟩ := h0.grants
  obtain ⟨u, rfl, b1⟩ := h1.str
  obtain ⟨p, rfl, b2⟩ := h2.str
  obtain ⟨k, rfl, _, _⟩ := h3.i64G
  exact permsTakes_any l u p k n hn A c W hr (by omega) (fun x hx => by have := hl x hx; omega) (by omega) (HasMax.of_shaped hsh)

theorem permsTakes_spec {H : Type} {enc : TypeId × Value → H} (vs : List Value) (ds : List (DataW H)) (W : World) (p : List MemPlace) (h : DataW.TrodAll enc Tryd.prog W 0 (fun _ => true) true [23, 9, 9, 3] vs ds p) :
    (Rows.permsTakesSpec.fn H ds).results = [.lit (.bool true)] ∧ (Rows.permsTakesSpec.fn H ds).args = ds ∧ (Rows.permsTakesSpec.fn H ds).vars = [] := by
  obtain ⟨_, _, d0, ds0, _, _, rfl, rfl, _, _, r0⟩ := trodAll_cons h
  obtain ⟨_, _, d1, ds1, _, _, rfl, rfl, _, _, r1⟩ := trodAll_cons r0
  obtain ⟨_, _, d2, ds2, _, _, rfl, rfl, _, _, r2⟩ := trodAll_cons r1
  obtain ⟨_, _, d3, ds3, _, _, rfl, rfl, _, _, r3⟩ := trodAll_cons r2
  obtain ⟨rfl, rfl, rfl⟩ := trodAll_nil r3
  exact ⟨rfl, rfl, rfl⟩

theorem permsTakes_laid (os : Os) : laidMet Tryd.prog Rows.permsTakesUptoRow.laid ((laidWorld os).forCall (fun _ _ => 0) ⟨#[], #[.slice none 0 0, .string ⟨#[]⟩, .string ⟨#[]⟩, .int .i64 0], []⟩).memory :=
  laidMet_of_run' 8 (by kernel_rfl) (by kernel_rfl)
theorem permsTakes_reads (os : Os) {H : Type} (enc : TypeId × Value → H) : ∃ places, DataW.whole enc Tryd.prog ((laidWorld os).forCall (fun _ _ => 0) ⟨#[], #[.slice none 0 0, .string ⟨#[]⟩, .string ⟨#[]⟩, .int .i64 0], []⟩).memory Tryd.f6.params.toList Rows.permsTakesSpec.vars false #[.slice none 0 0, .string ⟨#[]⟩, .string ⟨#[]⟩, .int .i64 0].toList 8 = some ([.nil, .lit (.string []), .lit (.string []), .lit (.int .i64 0)], [], places) :=
  ⟨[], by kernel_rfl⟩
set_option maxRecDepth 100000 in
theorem permsTakes_lifted (os : Os) (started : os.Started) (H : Type) (enc : TypeId × Value → H) (F : Stop.Interp) :
    ReturnsInHanded {} Tryd.checked os 6 .any ((Rows.OpenSpec.upto Rows.permsTakesSpec).preRow enc Tryd.prog Tryd.f6 Rows.permsTakesUptoRow.domain false Rows.permsTakesUptoRow.laid) (((Rows.OpenSpec.upto Rows.permsTakesSpec).at F).post enc Tryd.prog Tryd.f6 false true false false) := by
  obtain ⟨places, hx⟩ := permsTakes_reads os enc
  refine returnsInHanded_of_row (C := Tryd.checked) (s := Rows.OpenSpec.upto Rows.permsTakesSpec) Tryd.own started (by kernel_rfl) Tryd.func6
    (witness_row_at (enc := enc) (C := Tryd.checked) false (laidWorld os) #[.slice none 0 0, .string ⟨#[]⟩, .string ⟨#[]⟩, .int .i64 0] rfl (by kernel_rfl) (by kernel_rfl) (by kernel_rfl)
      (OpenSpec.preRow_of_cond 8 hx (by kernel_rfl) (fun k hk => by cases hk; kernel_rfl) (by kernel_rfl) (permsTakes_laid os))) ?_
  intro W base args ds gs before hval hW _ hcond hsz _ hshape _
  have hk := hcond _ rfl
  refine law_contract (s := Rows.permsTakesSpec) Tryd.laidOut Tryd.underlying4 (ps := [23, 9, 9, 3]) rfl rfl rfl (by kernel_rfl) permsTakes_spec W base args ds gs before hval hW hsz (fun h hg => ?_)
  subst hg
  exact permsTakes_core H enc W args ds h (of_decide_eq_true (show decide (Rows.uptoBulkAll ds ≤ 1048576) = true from by rw [List.append_nil] at hk; exact hk)) hshape

theorem permsTakes_said : Rows.PermsTakesUptoSaid :=
  OpenClaim.holds_of_cond 6 Tryd.f6 rfl rfl rfl rfl rfl rfl rfl ⟨rfl, rfl, rfl, rfl, rfl⟩ rfl rfl rfl rfl rfl (by kernel_rfl) Tryd.func6 (by kernel_rfl)
    (of_decide_eq_true (by kernel_rfl)) (by unfold Func.isWrapper; first | (rw [if_pos (by decide +kernel)]; kernel_rfl) | (rw [if_neg (by decide +kernel)]; exact ⟨rfl, rfl⟩))
    (fun os started H enc _ F => by rw [OpenClaim.pre_eq_preRow]; exact permsTakes_lifted os started H enc F)
theorem permsTakes_plain (f : FuncId) (fn : Func) (hf : Tryd.pinned.checked.prog.funcNamed "godown/godownlaw13.PermsTakes" = some f) (hfn : Tryd.pinned.checked.prog.funcs[f]? = some fn) :
    false = Tryd.pinned.checked.prog.looks [] ∧ ∀ (j : Nat) t, fn.params[j]? = some t → Tryd.pinned.checked.prog.wantsStandIn t = false := by
  obtain rfl : f = 6 := Option.some.inj ((show Tryd.prog.funcNamed "godown/godownlaw13.PermsTakes" = some 6 by kernel_rfl).symm.trans hf) |>.symm
  obtain rfl : fn = Tryd.f6 := (Option.some.inj (Tryd.func6.symm.trans hfn)).symm
  refine ⟨by kernel_rfl, fun j t ht => ?_⟩
  have hall : (Tryd.f6.params.toList.all fun t => !Tryd.pinned.checked.prog.wantsStandIn t) = true := by kernel_rfl
  have := List.all_eq_true.1 hall t (Array.mem_toList_iff.2 (Array.mem_of_getElem? ht))
  simpa using this
theorem permsTakes_card : Rows.PermsTakesUptoCardSaid :=
  Claim7.holds_tied_plain_at .later [] _ _ _ _ permsTakes_said (fun _ h => by cases h) (by kernel_rfl) (fun _ h => by cases h) permsTakesUpto_row_tie rfl ⟨rfl, rfl⟩ (by kernel_rfl) rfl permsTakes_plain (by kernel_rfl)

end Go.Proofs.YtodikfhaghpkhaaDoor
