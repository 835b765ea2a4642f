/-
 ShapeBackUptoCardSaid: a set that was made is there, and gone when it is destroyed: the tenant is as it was. Condition: the arguments' bulk is at most 1048576 (the card is of the pruned copy of the project that the seat holds).
-/
import Derived.Test.YteafdncnnamakaaGreatDoorQ12
import Derived.Test.YteafdncnnamakaaGreatDoorQ8
import Derived.Test.YteafdncnnamakaaGreatDoorLaid3
namespace Go.Proofs.YteafdncnnamakaaGreatDoor
open Go.ChangeShapes Go.WideShapes Go.ChangeAt Go.RowKit Go.Deep Go.Joins

theorem ArgIn.txt {H : Type} {enc : TypeId × Value → H} {W : World} {d : DataW H} {v : Value} (h : ArgIn enc Tryz.prog W 9 v d) : ∃ s : BS, v = .string ⟨s.toArray⟩ ∧ s.length + 1 ≤ Rows.uptoBulk d := by
 obtain ⟨s, rfl, _, rfl⟩ := h.string Tryz.underlying9
 exact ⟨s.data.toList, by simp, by simp [Rows.uptoBulk]⟩
theorem shapeBack_core (H : Type) (enc : TypeId × Value → H) (W : World) (args : Array Value) (ds : List (DataW H)) (h : ArgsIn enc Tryz.prog W [27, 9] args.toList ds) (hk : Rows.uptoBulkAll ds ≤ 1048576) (hsh : W.ShapedOpen Tryz.prog) :
  LawCalls Tryz.prog 4 args W := by
 obtain ⟨v0, _, d0, _, e0, rfl, a0, k1⟩ := argsIn_cons h
 obtain ⟨v1, _, d1, _, e1, rfl, a1, k2⟩ := argsIn_cons k1
 obtain ⟨rfl, rfl⟩ := argsIn_nil k2
 obtain rfl : args = #[v0, v1] := by apply Array.toList_inj.1; rw [e0, e1]
 simp only [Rows.uptoBulkAll] at hk
 obtain ⟨t, rfl, hr, hz⟩ := a0.ten (by omega)
 obtain ⟨p, rfl, hp⟩ := a1.txt
 exact shapeBack_any t p W hr hz (by omega) (HasMax.of_shaped hsh)


theorem shapeBack_spec {H : Type} {enc : TypeId × Value → H} (vs : List Value) (ds : List (DataW H)) (W : World) (p : List MemPlace) (h : DataW.TrodAll enc Tryz.prog W 0 (fun _ => true) true [27, 9] vs ds p) :
  (Rows.shapeBackSpec.fn H ds).results = [.lit (.bool true)] ∧ (Rows.shapeBackSpec.fn H ds).args = ds ∧ (Rows.shapeBackSpec.fn H ds).vars = [] := by
 obtain ⟨_, _, d0, ds0, _, _, rfl, rfl, _, _, r0⟩ := trodAll_cons h
 obtain ⟨_, _, d1, ds1, _, _, rfl, rfl, _, _, r1⟩ := trodAll_cons r0
 obtain ⟨rfl, rfl, rfl⟩ := trodAll_nil r1
 exact ⟨rfl, rfl, rfl⟩

theorem shapeBack_laid (os : Os) : laidMet Tryz.prog Rows.shapeBackUptoRow.laid ((laidWorld os).forCall (fun _ _ => 0) ⟨#[], #[.agg #[.string ⟨#[]⟩, .int .i64 0, .int .i64 0, .slice none 0 0, .slice none 0 0, .slice none 0 0, .slice none 0 0], .string ⟨#[]⟩], []⟩).memory :=
 laidMet_of_run' 8 (by kernel_rfl) (by kernel_rfl)
theorem shapeBack_reads (os : Os) {H : Type} (enc : TypeId × Value → H) : ∃ places, DataW.whole enc Tryz.prog ((laidWorld os).forCall (fun _ _ => 0) ⟨#[], #[.agg #[.string ⟨#[]⟩, .int .i64 0, .int .i64 0, .slice none 0 0, .slice none 0 0, .slice none 0 0, .slice none 0 0], .string ⟨#[]⟩], []⟩).memory Tryz.f4.params.toList Rows.shapeBackSpec.vars false #[.agg #[.string ⟨#[]⟩, .int .i64 0, .int .i64 0, .slice none 0 0, .slice none 0 0, .slice none 0 0, .slice none 0 0], .string ⟨#[]⟩].toList 8 = some ([.agg [.lit (.string []), .lit (.int .i64 0), .lit (.int .i64 0), .nil, .nil, .nil, .nil], .lit (.string [])], [], places) :=
 ⟨[], by kernel_rfl⟩
set_option maxRecDepth 100000 in
theorem shapeBack_lifted (os : Os) (started : os.Started) (H : Type) (enc : TypeId × Value → H) (F : Stop.Interp) :
  ReturnsInHanded {} Tryz.checked os 4 .any ((Rows.OpenSpec.upto Rows.shapeBackSpec).preRow enc Tryz.prog Tryz.f4 Rows.shapeBackUptoRow.domain false Rows.shapeBackUptoRow.laid) (((Rows.OpenSpec.upto Rows.shapeBackSpec).at F).post enc Tryz.prog Tryz.f4 false true false false) := by
 obtain ⟨places, hx⟩ := shapeBack_reads os enc
 refine returnsInHanded_of_row (C := Tryz.checked) (s := Rows.OpenSpec.upto Rows.shapeBackSpec) Tryz.own started (by kernel_rfl) Tryz.func4
  (witness_row_at (enc := enc) (C := Tryz.checked) false (laidWorld os) #[.agg #[.string ⟨#[]⟩, .int .i64 0, .int .i64 0, .slice none 0 0, .slice none 0 0, .slice none 0 0, .slice none 0 0], .string ⟨#[]⟩] rfl (by kernel_rfl) (by kernel_rfl) (by kernel_rfl)
   (OpenSpec.preRow_of_cond 8 hx (by kernel_rfl) (fun k hk => by cases hk; kernel_rfl) (by kernel_rfl) (shapeBack_laid os))) ?_
 intro W base args ds gs before hval hW _ hcond hsz _ hshape _
 have hk := hcond _ rfl
 refine law_contract (s := Rows.shapeBackSpec) Tryz.laidOut Tryz.underlying4 (ps := [27, 9]) rfl rfl rfl (by kernel_rfl) shapeBack_spec W base args ds gs before hval hW hsz (fun h hg => ?_)
 subst hg
 exact shapeBack_core H enc W args ds h (of_decide_eq_true (show decide (Rows.uptoBulkAll ds ≤ 1048576) = true from by rw [List.append_nil] at hk; exact hk)) hshape

theorem shapeBack_said : Rows.ShapeBackUptoSaid :=
 OpenClaim.holds_of_cond 4 Tryz.f4 rfl rfl rfl rfl rfl rfl rfl ⟨rfl, rfl, rfl, rfl, rfl⟩ rfl rfl rfl rfl rfl (by kernel_rfl) Tryz.func4 (by kernel_rfl)
  (of_decide_eq_true (by kernel_rfl)) (by unfold Func.isWrapper; first | (rw [if_pos (by decide +kernel)]; kernel_rfl) | (rw [if_neg (by decide +kernel)]; exact ⟨rfl, rfl⟩))
  (fun os started H enc _ F => by rw [OpenClaim.pre_eq_preRow]; exact shapeBack_lifted os started H enc F)
theorem shapeBack_plain (f : FuncId) (fn : Func) (hf : Tryz.pinned.checked.prog.funcNamed "godown/godownlaw16.ShapeBack" = some f) (hfn : Tryz.pinned.checked.prog.funcs[f]? = some fn) :
  false = Tryz.pinned.checked.prog.looks [] ∧ ∀ (j : Nat) t, fn.params[j]? = some t → Tryz.pinned.checked.prog.wantsStandIn t = false := by
 obtain rfl : f = 4 := Option.some.inj ((show Tryz.prog.funcNamed "godown/godownlaw16.ShapeBack" = some 4 by kernel_rfl).symm.trans hf) |>.symm
 obtain rfl : fn = Tryz.f4 := (Option.some.inj (Tryz.func4.symm.trans hfn)).symm
 refine ⟨by kernel_rfl, fun j t ht => ?_⟩
 have hall : (Tryz.f4.params.toList.all fun t => !Tryz.pinned.checked.prog.wantsStandIn t) = true := by kernel_rfl
 have := List.all_eq_true.1 hall t (Array.mem_toList_iff.2 (Array.mem_of_getElem? ht))
 simpa using this
theorem shapeBack_card : Rows.ShapeBackUptoCardSaid :=
 Claim7.holds_tied_plain_at .later [] _ _ _ _ shapeBack_said (fun _ h => by cases h) (by kernel_rfl) (fun _ h => by cases h) shapeBackUpto_row_tie rfl ⟨rfl, rfl⟩ (by kernel_rfl) rfl shapeBack_plain (by kernel_rfl)

end Go.Proofs.YteafdncnnamakaaGreatDoor
