/-
  PermsOwnerCardSaid: the owner may do all; of what no one was given no one else may do anything. No condition (the card is of the pruned copy of the project that the seat holds).
-/
import Derived.Test.YtodikfhaghpkhaaDoorPmOwner
import Derived.Test.YtodikfhaghpkhaaDoorPmArg
import Derived.Test.YtodikfhaghpkhaaDoorLaid3
namespace Go.Proofs.YtodikfhaghpkhaaDoor
open Go.ChangeShapes Go.WideShapes Go.ChangeAt Go.RowKit Go.Deep Go.Joins

theorem permsOwner_core (H : Type) (enc : TypeId × Value → H) (W : World) (args : Array Value) (ds : List (DataW H)) (h : ArgsIn enc Tryd.prog W [23, 9, 9, 3] args.toList ds) (hsh : W.ShapedOpen Tryd.prog) :
    LawCalls Tryd.prog 5 args W := by
  obtain ⟨v0, v1, v2, v3, d0, d1, d2, d3, rfl, rfl, h0, h1, h2, h3⟩ := argsIn4 h
  obtain ⟨A, n, c, rfl⟩ := h0.grantsV
  obtain ⟨u, rfl, _⟩ := h1.str
  obtain ⟨p, rfl, _⟩ := h2.str
  obtain ⟨k, rfl, _, _⟩ := h3.i64G
  exact permsOwner_any u p k n A c W (HasMax.of_shaped hsh)

theorem permsOwner_spec {H : Type} {enc : TypeId × Value → H} (vs : List Value) (ds : List (DataW H)) (W : World) (p : List MemPlace) (h : DataW.TrodAll enc Tryd.prog W 0 (fun _ => true) true [23, 9, 9, 3] vs ds p) :
    (Rows.permsOwnerSpec.fn H ds).results = [.lit (.bool true)] ∧ (Rows.permsOwnerSpec.fn H ds).args = ds ∧ (Rows.permsOwnerSpec.fn H ds).vars = [] := by
  obtain ⟨_, _, d0, ds0, _, _, rfl, rfl, _, _, r0⟩ := trodAll_cons h
  obtain ⟨_, _, d1, ds1, _, _, rfl, rfl, _, _, r1⟩ := trodAll_cons r0
  obtain ⟨_, _, d2, ds2, _, _, rfl, rfl, _, _, r2⟩ := trodAll_cons r1
  obtain ⟨_, _, d3, ds3, _, _, rfl, rfl, _, _, r3⟩ := trodAll_cons r2
  obtain ⟨rfl, rfl, rfl⟩ := trodAll_nil r3
  exact ⟨rfl, rfl, rfl⟩

theorem permsOwner_laid (os : Os) : laidMet Tryd.prog Rows.permsOwnerRow.laid ((laidWorld os).forCall (fun _ _ => 0) ⟨#[], #[.slice none 0 0, .string ⟨#[]⟩, .string ⟨#[]⟩, .int .i64 0], []⟩).memory :=
  laidMet_of_run' 8 (by kernel_rfl) (by kernel_rfl)
theorem permsOwner_reads (os : Os) {H : Type} (enc : TypeId × Value → H) : ∃ places, DataW.whole enc Tryd.prog ((laidWorld os).forCall (fun _ _ => 0) ⟨#[], #[.slice none 0 0, .string ⟨#[]⟩, .string ⟨#[]⟩, .int .i64 0], []⟩).memory Tryd.f5.params.toList Rows.permsOwnerSpec.vars false #[.slice none 0 0, .string ⟨#[]⟩, .string ⟨#[]⟩, .int .i64 0].toList 8 = some ([.nil, .lit (.string []), .lit (.string []), .lit (.int .i64 0)], [], places) :=
  ⟨[], by kernel_rfl⟩
set_option maxRecDepth 100000 in
theorem permsOwner_lifted (os : Os) (started : os.Started) (H : Type) (enc : TypeId × Value → H) (F : Stop.Interp) :
    ReturnsInHanded {} Tryd.checked os 5 .any ((OpenSpec.ofChange Rows.permsOwnerSpec).preRow enc Tryd.prog Tryd.f5 Rows.permsOwnerRow.domain false Rows.permsOwnerRow.laid) (((OpenSpec.ofChange Rows.permsOwnerSpec).at F).post enc Tryd.prog Tryd.f5 false true false false) := by
  obtain ⟨places, hx⟩ := permsOwner_reads os enc
  refine returnsInHanded_of_row (C := Tryd.checked) (s := OpenSpec.ofChange Rows.permsOwnerSpec) Tryd.own started (by kernel_rfl) Tryd.func5
    (witness_row_at (enc := enc) (C := Tryd.checked) false (laidWorld os) #[.slice none 0 0, .string ⟨#[]⟩, .string ⟨#[]⟩, .int .i64 0] rfl (by kernel_rfl) (by kernel_rfl) (by kernel_rfl)
      (OpenSpec.preRow_of_cond 8 hx (by kernel_rfl) (fun k hk => by cases hk) (by kernel_rfl) (permsOwner_laid os))) ?_
  intro W base args ds gs before hval hW _ _ hsz _ hshape _
  refine law_contract (s := Rows.permsOwnerSpec) Tryd.laidOut Tryd.underlying4 (ps := [23, 9, 9, 3]) rfl rfl rfl (by kernel_rfl) permsOwner_spec W base args ds gs before hval hW hsz (fun h hg => ?_)
  subst hg
  exact permsOwner_core H enc W args ds h hshape

theorem permsOwner_said : Rows.PermsOwnerSaid :=
  OpenClaim.holds_of_cond 5 Tryd.f5 rfl rfl rfl rfl rfl rfl rfl ⟨rfl, rfl, rfl, rfl, rfl⟩ rfl rfl rfl rfl rfl (by kernel_rfl) Tryd.func5 (by kernel_rfl)
    (of_decide_eq_true (by kernel_rfl)) (by unfold Func.isWrapper; first | (rw [if_pos (by decide +kernel)]; kernel_rfl) | (rw [if_neg (by decide +kernel)]; exact ⟨rfl, rfl⟩))
    (fun os started H enc _ F => by rw [OpenClaim.pre_eq_preRow]; exact permsOwner_lifted os started H enc F)
theorem permsOwner_plain (f : FuncId) (fn : Func) (hf : Tryd.pinned.checked.prog.funcNamed "godown/godownlaw13.PermsOwner" = some f) (hfn : Tryd.pinned.checked.prog.funcs[f]? = some fn) :
    false = Tryd.pinned.checked.prog.looks [] ∧ ∀ (j : Nat) t, fn.params[j]? = some t → Tryd.pinned.checked.prog.wantsStandIn t = false := by
  obtain rfl : f = 5 := Option.some.inj ((show Tryd.prog.funcNamed "godown/godownlaw13.PermsOwner" = some 5 by kernel_rfl).symm.trans hf) |>.symm
  obtain rfl : fn = Tryd.f5 := (Option.some.inj (Tryd.func5.symm.trans hfn)).symm
  refine ⟨by kernel_rfl, fun j t ht => ?_⟩
  have hall : (Tryd.f5.params.toList.all fun t => !Tryd.pinned.checked.prog.wantsStandIn t) = true := by kernel_rfl
  have := List.all_eq_true.1 hall t (Array.mem_toList_iff.2 (Array.mem_of_getElem? ht))
  simpa using this
theorem permsOwner_card : Rows.PermsOwnerCardSaid :=
  Claim7.holds_tied_plain_at .later [] _ _ _ _ permsOwner_said (fun _ h => by cases h) (by kernel_rfl) (fun _ h => by cases h) permsOwner_row_tie rfl ⟨rfl, rfl⟩ (by kernel_rfl) rfl permsOwner_plain (by kernel_rfl)

end Go.Proofs.YtodikfhaghpkhaaDoor
