/-
  PruneOwnUptoCardSaid: the tenant that is handed in stays; what is told shares nothing with it. Condition: the arguments' bulk is at most 1048576 (the card is of the pruned copy of the project: see the seat's AIM).
-/
import Derived.Test.YtcgclpcocdappaaDoorPrnOwn
namespace Go.Proofs.YtcgclpcocdappaaDoor
open Go.ChangeShapes Go.WideShapes Go.ChangeAt Go.RowKit Go.Deep Go.Joins

theorem ArgIn.txt {H : Type} {enc : TypeId × Value → H} {W : World} {d : DataW H} {v : Value} (h : ArgIn enc Tryd.prog W 9 v d) : ∃ s : BS, v = .string ⟨s.toArray⟩ ∧ s.length + 1 ≤ Rows.uptoBulk d := by
  obtain ⟨s, rfl, _, rfl⟩ := h.string Tryd.underlying9
  exact ⟨s.data.toList, by simp, by simp [Rows.uptoBulk]⟩
theorem ArgIn.i64arg {H : Type} {enc : TypeId × Value → H} {P : Program} {W : World} {t : TypeId} {v : Value} {d : DataW H} (ht : P.underlying t = some (.int .i64)) (h : ArgIn enc P W t v d) : ∃ n, v = .int .i64 n := by
  obtain ⟨⟨base, ho⟩, _, _⟩ := h
  exact okWide_int ht ho
theorem pruneOwn_core (H : Type) (enc : TypeId × Value → H) (W : World) (args : Array Value) (ds : List (DataW H)) (h : ArgsIn enc Tryd.prog W [27, 9, 3] args.toList ds) (hk : Rows.uptoBulkAll ds ≤ 1048576) (hsh : W.ShapedOpen Tryd.prog) :
    LawCalls Tryd.prog 3 args W := by
  obtain ⟨v0, _, d0, _, e0, rfl, a0, k1⟩ := argsIn_cons h
  obtain ⟨v1, _, d1, _, e1, rfl, a1, k2⟩ := argsIn_cons k1
  obtain ⟨v2, _, d2, _, e2, rfl, a2, k3⟩ := argsIn_cons k2
  obtain ⟨rfl, rfl⟩ := argsIn_nil k3
  obtain rfl : args = #[v0, v1, v2] := by apply Array.toList_inj.1; rw [e0, e1, e2]
  simp only [Rows.uptoBulkAll] at hk
  obtain ⟨t, rfl, hr, hz, hst⟩ := a0.ten2 (by omega)
  obtain ⟨s1, rfl, hs1⟩ := a1.txt
  obtain ⟨s2, rfl⟩ := a2.i64arg Tryd.underlying3
  exact pruneOwn_any t s1 s2 W hr hz hst (HasMax.of_shaped hsh)

theorem pruneOwn_spec {H : Type} {enc : TypeId × Value → H} (vs : List Value) (ds : List (DataW H)) (W : World) (p : List MemPlace) (h : DataW.TrodAll enc Tryd.prog W 0 (fun _ => true) true [27, 9, 3] vs ds p) :
    (Rows.pruneOwnSpec.fn H ds).results = [.lit (.bool true)] ∧ (Rows.pruneOwnSpec.fn H ds).args = ds ∧ (Rows.pruneOwnSpec.fn H ds).vars = [] := by
  obtain ⟨_, _, d0, ds0, _, _, rfl, rfl, _, _, r0⟩ := trodAll_cons h
  obtain ⟨_, _, d1, ds1, _, _, rfl, rfl, _, _, r1⟩ := trodAll_cons r0
  obtain ⟨_, _, d2, ds2, _, _, rfl, rfl, _, _, r2⟩ := trodAll_cons r1
  obtain ⟨rfl, rfl, rfl⟩ := trodAll_nil r2
  exact ⟨rfl, rfl, rfl⟩

theorem pruneOwn_laid (os : Os) : laidMet Tryd.prog Rows.pruneOwnUptoRow.laid ((laidWorld os).forCall (fun _ _ => 0) ⟨#[], #[.agg #[.string ⟨#[]⟩, .int .i64 0, .int .i64 0, .slice none 0 0, .slice none 0 0, .slice none 0 0, .slice none 0 0], .string ⟨#[]⟩, .int .i64 0], []⟩).memory :=
  laidMet_of_run' 8 (by kernel_rfl) (by kernel_rfl)
theorem pruneOwn_reads (os : Os) {H : Type} (enc : TypeId × Value → H) : ∃ places, DataW.whole enc Tryd.prog ((laidWorld os).forCall (fun _ _ => 0) ⟨#[], #[.agg #[.string ⟨#[]⟩, .int .i64 0, .int .i64 0, .slice none 0 0, .slice none 0 0, .slice none 0 0, .slice none 0 0], .string ⟨#[]⟩, .int .i64 0], []⟩).memory Tryd.f3.params.toList Rows.pruneOwnSpec.vars false #[.agg #[.string ⟨#[]⟩, .int .i64 0, .int .i64 0, .slice none 0 0, .slice none 0 0, .slice none 0 0, .slice none 0 0], .string ⟨#[]⟩, .int .i64 0].toList 8 = some ([.agg [.lit (.string []), .lit (.int .i64 0), .lit (.int .i64 0), .nil, .nil, .nil, .nil], .lit (.string []), .lit (.int .i64 0)], [], places) :=
  ⟨[], by kernel_rfl⟩
set_option maxRecDepth 100000 in
theorem pruneOwn_lifted (os : Os) (started : os.Started) (H : Type) (enc : TypeId × Value → H) (F : Stop.Interp) :
    ReturnsInHanded {} Tryd.checked os 3 .any ((Rows.OpenSpec.upto Rows.pruneOwnSpec).preRow enc Tryd.prog Tryd.f3 Rows.pruneOwnUptoRow.domain false Rows.pruneOwnUptoRow.laid) (((Rows.OpenSpec.upto Rows.pruneOwnSpec).at F).post enc Tryd.prog Tryd.f3 false true false false) := by
  obtain ⟨places, hx⟩ := pruneOwn_reads os enc
  refine returnsInHanded_of_row (C := Tryd.checked) (s := Rows.OpenSpec.upto Rows.pruneOwnSpec) Tryd.own started (by kernel_rfl) Tryd.func3
    (witness_row_at (enc := enc) (C := Tryd.checked) false (laidWorld os) #[.agg #[.string ⟨#[]⟩, .int .i64 0, .int .i64 0, .slice none 0 0, .slice none 0 0, .slice none 0 0, .slice none 0 0], .string ⟨#[]⟩, .int .i64 0] rfl (by kernel_rfl) (by kernel_rfl) (by kernel_rfl)
      (OpenSpec.preRow_of_cond 8 hx (by kernel_rfl) (fun k hk => by cases hk; kernel_rfl) (by kernel_rfl) (pruneOwn_laid os))) ?_
  intro W base args ds gs before hval hW _ hcond hsz _ hshape _
  have hk := hcond _ rfl
  refine law_contract (s := Rows.pruneOwnSpec) Tryd.laidOut Tryd.underlying4 (ps := [27, 9, 3]) rfl rfl rfl (by kernel_rfl) pruneOwn_spec W base args ds gs before hval hW hsz (fun h hg => ?_)
  subst hg
  exact pruneOwn_core H enc W args ds h (of_decide_eq_true (show decide (Rows.uptoBulkAll ds ≤ 1048576) = true from by rw [List.append_nil] at hk; exact hk)) hshape

theorem pruneOwn_said : Rows.PruneOwnUptoSaid :=
  OpenClaim.holds_of_cond 3 Tryd.f3 rfl rfl rfl rfl rfl rfl rfl ⟨rfl, rfl, rfl, rfl, rfl⟩ rfl rfl rfl rfl rfl (by kernel_rfl) Tryd.func3 (by kernel_rfl)
    (of_decide_eq_true (by kernel_rfl)) (by unfold Func.isWrapper; first | (rw [if_pos (by decide +kernel)]; kernel_rfl) | (rw [if_neg (by decide +kernel)]; exact ⟨rfl, rfl⟩))
    (fun os started H enc _ F => by rw [OpenClaim.pre_eq_preRow]; exact pruneOwn_lifted os started H enc F)
theorem pruneOwn_plain (f : FuncId) (fn : Func) (hf : Tryd.pinned.checked.prog.funcNamed "godown/godownlaw39.PruneOwn" = some f) (hfn : Tryd.pinned.checked.prog.funcs[f]? = some fn) :
    false = Tryd.pinned.checked.prog.looks [] ∧ ∀ (j : Nat) t, fn.params[j]? = some t → Tryd.pinned.checked.prog.wantsStandIn t = false := by
  obtain rfl : f = 3 := Option.some.inj ((show Tryd.prog.funcNamed "godown/godownlaw39.PruneOwn" = some 3 by kernel_rfl).symm.trans hf) |>.symm
  obtain rfl : fn = Tryd.f3 := (Option.some.inj (Tryd.func3.symm.trans hfn)).symm
  refine ⟨by kernel_rfl, fun j t ht => ?_⟩
  have hall : (Tryd.f3.params.toList.all fun t => !Tryd.pinned.checked.prog.wantsStandIn t) = true := by kernel_rfl
  have := List.all_eq_true.1 hall t (Array.mem_toList_iff.2 (Array.mem_of_getElem? ht))
  simpa using this
theorem pruneOwn_card : Rows.PruneOwnUptoCardSaid :=
  Claim7.holds_tied_plain_at .later [] _ _ _ _ pruneOwn_said (fun _ h => by cases h) (by kernel_rfl) (fun _ h => by cases h) pruneOwnUpto_row_tie rfl ⟨rfl, rfl⟩ (by kernel_rfl) rfl pruneOwn_plain (by kernel_rfl)

end Go.Proofs.YtcgclpcocdappaaDoor
