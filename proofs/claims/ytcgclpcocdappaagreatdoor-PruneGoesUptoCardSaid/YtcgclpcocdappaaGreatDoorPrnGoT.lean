/-
  PruneGoesUptoCardSaid: pruned, a tenant is what it is when each of those is destroyed by itself; as much less is charged as was told; what is held, cloned, or late stays; again nothing goes. Condition: the arguments' bulk is at most 1048576 (the card is of the pruned copy of the project: see the seat's AIM).
-/
import Derived.Test.YtcgclpcocdappaaGreatDoorPrnGo
import Derived.Test.YtcgclpcocdappaaGreatDoorPrnSup
namespace Go.Proofs.YtcgclpcocdappaaGreatDoor
open Go.ChangeShapes Go.WideShapes Go.ChangeAt Go.RowKit Go.Deep Go.Joins

theorem ArgIn.txt {H : Type} {enc : TypeId × Value → H} {W : World} {d : DataW H} {v : Value} (h : ArgIn enc Tryz.prog W 9 v d) : ∃ s : BS, v = .string ⟨s.toArray⟩ ∧ s.length + 1 ≤ Rows.uptoBulk d := by
  obtain ⟨s, rfl, _, rfl⟩ := h.string Tryz.underlying9
  exact ⟨s.data.toList, by simp, by simp [Rows.uptoBulk]⟩
theorem ArgIn.i64arg {H : Type} {enc : TypeId × Value → H} {P : Program} {W : World} {t : TypeId} {v : Value} {d : DataW H} (ht : P.underlying t = some (.int .i64)) (h : ArgIn enc P W t v d) : ∃ n, v = .int .i64 n := by
  obtain ⟨⟨base, ho⟩, _, _⟩ := h
  exact okWide_int ht ho
theorem pruneGoes_core (H : Type) (enc : TypeId × Value → H) (W : World) (args : Array Value) (ds : List (DataW H)) (h : ArgsIn enc Tryz.prog W [27, 9, 3] args.toList ds) (hk : Rows.uptoBulkAll ds ≤ 1048576) (hsh : W.ShapedOpen Tryz.prog) :
    LawCalls Tryz.prog 4 args W := by
  obtain ⟨v0, _, d0, _, e0, rfl, a0, k1⟩ := argsIn_cons h
  obtain ⟨v1, _, d1, _, e1, rfl, a1, k2⟩ := argsIn_cons k1
  obtain ⟨v2, _, d2, _, e2, rfl, a2, k3⟩ := argsIn_cons k2
  obtain ⟨rfl, rfl⟩ := argsIn_nil k3
  obtain rfl : args = #[v0, v1, v2] := by apply Array.toList_inj.1; rw [e0, e1, e2]
  simp only [Rows.uptoBulkAll] at hk
  obtain ⟨t, rfl, hr, hz⟩ := a0.ten (by omega)
  obtain ⟨s1, rfl, hs1⟩ := a1.txt
  obtain ⟨s2, rfl⟩ := a2.i64arg Tryz.underlying3
  exact pruneGoes_any t s1 s2 W hr hz (by omega) (HasMax.of_shaped hsh)

theorem pruneGoes_spec {H : Type} {enc : TypeId × Value → H} (vs : List Value) (ds : List (DataW H)) (W : World) (p : List MemPlace) (h : DataW.TrodAll enc Tryz.prog W 0 (fun _ => true) true [27, 9, 3] vs ds p) :
    (Rows.pruneGoesSpec.fn H ds).results = [.lit (.bool true)] ∧ (Rows.pruneGoesSpec.fn H ds).args = ds ∧ (Rows.pruneGoesSpec.fn H ds).vars = [] := by
  obtain ⟨_, _, d0, ds0, _, _, rfl, rfl, _, _, r0⟩ := trodAll_cons h
  obtain ⟨_, _, d1, ds1, _, _, rfl, rfl, _, _, r1⟩ := trodAll_cons r0
  obtain ⟨_, _, d2, ds2, _, _, rfl, rfl, _, _, r2⟩ := trodAll_cons r1
  obtain ⟨rfl, rfl, rfl⟩ := trodAll_nil r2
  exact ⟨rfl, rfl, rfl⟩

theorem pruneGoes_laid (os : Os) : laidMet Tryz.prog Rows.pruneGoesUptoRow.laid ((laidWorld os).forCall (fun _ _ => 0) ⟨#[], #[.agg #[.string ⟨#[]⟩, .int .i64 0, .int .i64 0, .slice none 0 0, .slice none 0 0, .slice none 0 0, .slice none 0 0], .string ⟨#[]⟩, .int .i64 0], []⟩).memory :=
  laidMet_of_run' 8 (by kernel_rfl) (by kernel_rfl)
theorem pruneGoes_reads (os : Os) {H : Type} (enc : TypeId × Value → H) : ∃ places, DataW.whole enc Tryz.prog ((laidWorld os).forCall (fun _ _ => 0) ⟨#[], #[.agg #[.string ⟨#[]⟩, .int .i64 0, .int .i64 0, .slice none 0 0, .slice none 0 0, .slice none 0 0, .slice none 0 0], .string ⟨#[]⟩, .int .i64 0], []⟩).memory Tryz.f4.params.toList Rows.pruneGoesSpec.vars false #[.agg #[.string ⟨#[]⟩, .int .i64 0, .int .i64 0, .slice none 0 0, .slice none 0 0, .slice none 0 0, .slice none 0 0], .string ⟨#[]⟩, .int .i64 0].toList 8 = some ([.agg [.lit (.string []), .lit (.int .i64 0), .lit (.int .i64 0), .nil, .nil, .nil, .nil], .lit (.string []), .lit (.int .i64 0)], [], places) :=
  ⟨[], by kernel_rfl⟩
set_option maxRecDepth 100000 in
theorem pruneGoes_lifted (os : Os) (started : os.Started) (H : Type) (enc : TypeId × Value → H) (F : Stop.Interp) :
    ReturnsInHanded {} Tryz.checked os 4 .any ((Rows.OpenSpec.upto Rows.pruneGoesSpec).preRow enc Tryz.prog Tryz.f4 Rows.pruneGoesUptoRow.domain false Rows.pruneGoesUptoRow.laid) (((Rows.OpenSpec.upto Rows.pruneGoesSpec).at F).post enc Tryz.prog Tryz.f4 false true false false) := by
  obtain ⟨places, hx⟩ := pruneGoes_reads os enc
  refine returnsInHanded_of_row (C := Tryz.checked) (s := Rows.OpenSpec.upto Rows.pruneGoesSpec) Tryz.own started (by kernel_rfl) Tryz.func4
    (witness_row_at (enc := enc) (C := Tryz.checked) false (laidWorld os) #[.agg #[.string ⟨#[]⟩, .int .i64 0, .int .i64 0, .slice none 0 0, .slice none 0 0, .slice none 0 0, .slice none 0 0], .string ⟨#[]⟩, .int .i64 0] rfl (by kernel_rfl) (by kernel_rfl) (by kernel_rfl)
      (OpenSpec.preRow_of_cond 8 hx (by kernel_rfl) (fun k hk => by cases hk; kernel_rfl) (by kernel_rfl) (pruneGoes_laid os))) ?_
  intro W base args ds gs before hval hW _ hcond hsz _ hshape _
  have hk := hcond _ rfl
  refine law_contract (s := Rows.pruneGoesSpec) Tryz.laidOut Tryz.underlying4 (ps := [27, 9, 3]) rfl rfl rfl (by kernel_rfl) pruneGoes_spec W base args ds gs before hval hW hsz (fun h hg => ?_)
  subst hg
  exact pruneGoes_core H enc W args ds h (of_decide_eq_true (show decide (Rows.uptoBulkAll ds ≤ 1048576) = true from by rw [List.append_nil] at hk; exact hk)) hshape

theorem pruneGoes_said : Rows.PruneGoesUptoSaid :=
  OpenClaim.holds_of_cond 4 Tryz.f4 rfl rfl rfl rfl rfl rfl rfl ⟨rfl, rfl, rfl, rfl, rfl⟩ rfl rfl rfl rfl rfl (by kernel_rfl) Tryz.func4 (by kernel_rfl)
    (of_decide_eq_true (by kernel_rfl)) (by unfold Func.isWrapper; first | (rw [if_pos (by decide +kernel)]; kernel_rfl) | (rw [if_neg (by decide +kernel)]; exact ⟨rfl, rfl⟩))
    (fun os started H enc _ F => by rw [OpenClaim.pre_eq_preRow]; exact pruneGoes_lifted os started H enc F)
theorem pruneGoes_plain (f : FuncId) (fn : Func) (hf : Tryz.pinned.checked.prog.funcNamed "godown/godownlaw39.PruneGoes" = some f) (hfn : Tryz.pinned.checked.prog.funcs[f]? = some fn) :
    false = Tryz.pinned.checked.prog.looks [] ∧ ∀ (j : Nat) t, fn.params[j]? = some t → Tryz.pinned.checked.prog.wantsStandIn t = false := by
  obtain rfl : f = 4 := Option.some.inj ((show Tryz.prog.funcNamed "godown/godownlaw39.PruneGoes" = some 4 by kernel_rfl).symm.trans hf) |>.symm
  obtain rfl : fn = Tryz.f4 := (Option.some.inj (Tryz.func4.symm.trans hfn)).symm
  refine ⟨by kernel_rfl, fun j t ht => ?_⟩
  have hall : (Tryz.f4.params.toList.all fun t => !Tryz.pinned.checked.prog.wantsStandIn t) = true := by kernel_rfl
  have := List.all_eq_true.1 hall t (Array.mem_toList_iff.2 (Array.mem_of_getElem? ht))
  simpa using this
theorem pruneGoes_card : Rows.PruneGoesUptoCardSaid :=
  Claim7.holds_tied_plain_at .later [] _ _ _ _ pruneGoes_said (fun _ h => by cases h) (by kernel_rfl) (fun _ h => by cases h) pruneGoesUpto_row_tie rfl ⟨rfl, rfl⟩ (by kernel_rfl) rfl pruneGoes_plain (by kernel_rfl)

end Go.Proofs.YtcgclpcocdappaaGreatDoor
